/- Lemmas. -/
import Derived.Test.YtkhphoonnkoipaaGreatDoorVaaj
set_option linter.all false
set_option maxHeartbeats 4000000
set_option maxRecDepth 4000
open Go.Proofs.Tryz Go.RowKit Go.Lib
open Option renaming none→J,some→U
open Bool renaming false→ab
open Decidable renaming decide→au
open Go renaming World→af,Value→aw,Calls→aq
open Go.RowKit renaming Below→ah,Hid→aj
open Go.Proofs.Tryz renaming prog→ak
namespace Go.Proofs.YtkhphoonnkoipaaGreatDoor
namespace o
theorem XK (V:Nat):words (((bs V).length+3)/4) (bs V)=wd V:=by
 have aB:=KF (bs V) (((bs V).length+3)/4) (by omega);rw[lC] at aB;have hw:dI (words (((bs V).length+3)/4) (bs V)):=fun x hx=>by
  obtain⟨j,_,rfl⟩:=List.mem_map.1 hx;exact word_lt _ j
 by_cases ar:bs V=[]
 ·rw[ar] at aB hw ⊢;exact Kv hw (.inl rfl) aB
 ·refine Kv hw (Xx hw ?_) aB;rw[aB,wh];have aa:=wq (sx V) ar;rw[lC] at aa;have ao:0<(bs V).length:=List.length_pos_iff.2 ar;refine cp ?_ aa;rw[show (4294967296:Nat)=256^4 from rfl,←mi];exact dB (by decide) (by omega)
theorem ye {V a b:Nat} (h:V<256^a) (kW:a≤b):V<256^b:=cv h (dB (by decide) kW)
theorem XL {V a b:Nat} (h:256^b≤V) (kW:a≤b):256^a≤V:=cp (dB (by decide) kW) h
theorem ai2 {V a b:Nat} (h:4294967296^b≤V) (kW:a≤b):4294967296^a≤V:=cp (dB (by decide) kW) h
theorem Gd (k:Nat):(256:Nat)^(4*k)=4294967296^k:=by rw[mi]
def bO (n:Int):Prop:=n.natAbs<256^4096
theorem rF (V:Nat) (h:V<256^4096):(wd V).length≤1024:=by
 rw[←XK,wh];have:=oa h;omega
theorem KK (V:Nat):bytesOf (wd V)=bs V:=by rw[CI (fa V),eA]
end o
theorem yf (n:Int) (w:af) (h:o.bO n):aq ak 60 #[bz n] w fun e w'=>∃v,e=.returned (.agg #[v,.bool (au (n<0))])∧b2 w' v (o.wd n.natAbs)∧ah w.heap.size w w':=by
 have:=Kp (au (n<0)) (o.bs n.natAbs) w (o.oa h);rw[show Xd w (au (n<0)) (o.bs n.natAbs)=fun e w'=>∃v,e=.returned (.agg #[v,.bool (au (n<0))])∧b2 w' v (o.words (((o.bs n.natAbs).length+3)/4) (o.bs n.natAbs))∧ah w.heap.size w w' from rfl] at this;rw[o.XK] at this;exact this
theorem Ge (n:Int) (w:af) (h:o.bO n):aq ak 73 #[bz n] w fun e w'=>e=.returned (.int .i64 0)∧ah w.heap.size w w':=by
 have:=Cw (au (n<0)) (o.bs n.natAbs) w (cp (o.oa h) (by decide));rw[o.Ah h (by intro aa ae;simp at aa;omega)] at this;exact this
theorem yg (A B:Int) (w:af) (be:o.bO A) (az:o.bO B) :
 aq ak 56 #[bz A,bz B] w fun e w'=>∃c7 gn,e=.returned (.tuple #[.agg #[c7,.bool (au (A<0))],.agg #[gn,.bool (au (B<0))],.int .i64 0])∧b2 w' c7 (o.wd A.natAbs)∧b2 w' gn (o.wd B.natAbs)∧ah w.heap.size w w':=by
 have qE:=I (fun W=>Ge A W be);have XM:=I (fun W=>Ge B W az);have wx:=I (fun W=>yf A W be);have Al:=I (fun W=>yf B W az);clear be az;obtain⟨bp,fi⟩:∃bp,au (A<0)=bp:=⟨_,rfl⟩;obtain⟨bt,gi⟩:∃bt,au (B<0)=bt:=⟨_,rfl⟩;have aS:bz A=.agg #[.bool bp,.string (ax (o.bs A.natAbs))]:=by unfold bz cO;rw[fi]
 have ad:bz B=.agg #[.bool bt,.string (ax (o.bs B.natAbs))]:=by unfold bz cO;rw[gi]
 rw[aS] at qE wx ⊢;rw[ad] at XM Al ⊢;rw[fi] at wx ⊢;rw[gi] at Al ⊢;generalize ax (o.bs A.natAbs)=d' at *;generalize ax (o.bs B.natAbs)=dN at *;generalize A.natAbs=bo at *;generalize B.natAbs=V at *;clear aS ad fi gi;obtain⟨aZ,bl⟩:∃aZ,(((w.alloc (.cells #[.bool bp,.string d'] 46)).alloc (.cells #[.bool bt,.string dN] 46)).alloc (.cells #[.slice J 0 0,.bool ab] 85)).alloc (.cells #[.slice J 0 0,.bool ab] 85)=aZ:=⟨_,rfl⟩;have cY:aj (aI aZ w.heap.size 46 (.bool bp) (.string d')):=I (by rw[←bl];exact (((aI.new _ _ _ _).alloc _).alloc _).alloc _);have dt:aj (aI aZ (w.heap.size+1) 46 (.bool bt) (.string dN)):=I (by
  rw[←bl];have:=((aI.new (w.alloc (.cells #[.bool bp,.string d'] 46)) 46 (.bool bt) (.string dN)).alloc (.cells #[.slice J 0 0,.bool ab] 85)).alloc (.cells #[.slice J 0 0,.bool ab] 85);simpa using this)
 have eI:aj (aI aZ (w.heap.size+2) 85 (.slice J 0 0) (.bool ab)):=I (by
  rw[←bl];have:=(aI.new ((w.alloc (.cells #[.bool bp,.string d'] 46)).alloc (.cells #[.bool bt,.string dN] 46)) 85 (.slice J 0 0) (.bool ab)).alloc (.cells #[.slice J 0 0,.bool ab] 85);simpa using this)
 have lx:aj (aI aZ (w.heap.size+3) 85 (.slice J 0 0) (.bool ab)):=I (by
  rw[←bl];have:=aI.new (((w.alloc (.cells #[.bool bp,.string d'] 46)).alloc (.cells #[.bool bt,.string dN] 46)).alloc (.cells #[.slice J 0 0,.bool ab] 85)) 85 (.slice J 0 0) (.bool ab);simpa using this)
 have bu:aj (ah w.heap.size w aZ):=I (by rw[←bl];exact ((((aK _ _).alloc (aC _) _).alloc (by simp) _).alloc (by simp;omega) _).alloc (by simp;omega) _);have dL:w.heap.size+4≤aZ.heap.size:=by rw[←bl];simp
 obtain⟨cn,bY,_,_⟩:=cY.out.cells;go_enter func56,ntmps56;go_wp2_with fail;refine (qE.out _).mono ?_;rintro e aQ ⟨rfl,bb⟩;have nc:=I (cY.out.below bb);have od:=I (dt.out.below bb);have XN:=I (eI.out.below bb);have XO:=I (lx.out.below bb);have eN:=I (chain bu.out bb (by omega));have iy:w.heap.size+4≤aQ.heap.size:=cp dL bb.size;clear cn bY bb cY dt eI lx bu dL bl;obtain⟨b0,bD,_,_⟩:=od.out.cells;go_wp2_with fail;refine (XM.out _).mono ?_;rintro e cf ⟨rfl,bf⟩;have cY:=I (nc.out.below bf);have dt:=I (od.out.below bf);have eI:=I (XN.out.below bf);have lx:=I (XO.out.below bf);have dc:=I (chain eN.out bf (by omega));have pa:w.heap.size+4≤cf.heap.size:=cp iy bf.size;clear b0 bD bf nc od XN XO eN iy;obtain⟨cn,bY,_,_⟩:=cY.out.cells;obtain⟨b0,bD,_,_⟩:=dt.out.cells;have aN:aj (∀W,ah cf.heap.size cf W→W.cell? ⟨w.heap.size,0,J⟩=U (.bool bp)∧W.cell? ⟨w.heap.size,1,J⟩=U (.string d')∧W.cell? ⟨w.heap.size+1,0,J⟩=U (.bool bt)∧W.cell? ⟨w.heap.size+1,1,J⟩=U (.string dN)):=I (fun W ad=>⟨(cY.out.below ad).cells.1,(cY.out.below ad).cells.2.1,(dt.out.below ad).cells.1,(dt.out.below ad).cells.2.1⟩);have jm:aj (∀W,ah cf.heap.size cf W→∀k,k≠w.heap.size→k≠w.heap.size+1→∀x y,((W.setCell ⟨k,0,J⟩ x).setCell ⟨k,1,J⟩ y).cell? ⟨w.heap.size,0,J⟩=U (.bool bp)∧((W.setCell ⟨k,0,J⟩ x).setCell ⟨k,1,J⟩ y).cell? ⟨w.heap.size,1,J⟩=U (.string d')∧((W.setCell ⟨k,0,J⟩ x).setCell ⟨k,1,J⟩ y).cell? ⟨w.heap.size+1,0,J⟩=U (.bool bt)∧((W.setCell ⟨k,0,J⟩ x).setCell ⟨k,1,J⟩ y).cell? ⟨w.heap.size+1,1,J⟩=U (.string dN)):=I (fun W ad k aa ae x y=>⟨((cY.out.below ad).both aa).cells.1,((cY.out.below ad).both aa).cells.2.1,((dt.out.below ad).both ae).cells.1,((dt.out.below ad).both ae).cells.2.1⟩);have Rn:aj (∀W,ah cf.heap.size cf W→∀k,k≠w.heap.size→k≠w.heap.size+1→∀x y,∀j,j≠w.heap.size→j≠w.heap.size+1→∀hr lE,((((W.setCell ⟨k,0,J⟩ x).setCell ⟨k,1,J⟩ y).setCell ⟨j,0,J⟩ hr).setCell ⟨j,1,J⟩ lE).cell? ⟨w.heap.size,0,J⟩=U (.bool bp)∧((((W.setCell ⟨k,0,J⟩ x).setCell ⟨k,1,J⟩ y).setCell ⟨j,0,J⟩ hr).setCell ⟨j,1,J⟩ lE).cell? ⟨w.heap.size,1,J⟩=U (.string d')∧((((W.setCell ⟨k,0,J⟩ x).setCell ⟨k,1,J⟩ y).setCell ⟨j,0,J⟩ hr).setCell ⟨j,1,J⟩ lE).cell? ⟨w.heap.size+1,0,J⟩=U (.bool bt)∧((((W.setCell ⟨k,0,J⟩ x).setCell ⟨k,1,J⟩ y).setCell ⟨j,0,J⟩ hr).setCell ⟨j,1,J⟩ lE).cell? ⟨w.heap.size+1,1,J⟩=U (.string dN)):=I (fun W ad k aa ae x y j aJ bQ hr lE=>⟨(((cY.out.below ad).both aa).both aJ).cells.1,(((cY.out.below ad).both aa).both aJ).cells.2.1,(((dt.out.below ad).both ae).both bQ).cells.1,(((dt.out.below ad).both ae).both bQ).cells.2.1⟩);have cU:=I (show ah cf.heap.size cf cf.drew from (aK _ cf).drew);go_wp2;go_region_held3 (fun W=>W.cell? ⟨w.heap.size,0,J⟩=U (.bool bp)∧W.cell? ⟨w.heap.size,1,J⟩=U (.string d')∧W.cell? ⟨w.heap.size+1,0,J⟩=U (.bool bt)∧W.cell? ⟨w.heap.size+1,1,J⟩=U (.string dN)) (first | with_reducible exact⟨cn,bY,b0,bD⟩ | with_reducible exact aN.out _ cU.out | with_reducible exact aN.out _ mv | with_reducible exact aN.out _ mw | (with_reducible refine jm.out _ ?_ _ ?_ ?_ _ _;(first | exact mv | exact mw);omega;omega) | (with_reducible refine Rn.out _ ?_ _ ?_ ?_ _ _ _ ?_ ?_ _ _;(first | exact mv | exact mw);omega;omega;omega;omega)) (first
  | (go_at_call 60;(with_reducible refine (wx.out _).mono ?_);rintro e Gf ⟨c7,rfl,hv,yh⟩;obtain⟨b1,a2,rfl⟩:=hv.form;(first | (have mv:ah cf.heap.size cf Gf:=mw.trans (yh.mono mw.size);have iz:=I (And.intro hv (And.intro (hy.below yh) mv));obtain⟨cl,bH,f0,f1⟩:=(eI.out.below mv).cells;obtain⟨t0,t1,g0,g1⟩:=(lx.out.below mv).cells) | (have mv:ah cf.heap.size cf Gf:=(aK _ cf).drew.trans yh)))
  | (go_at_call 60;(with_reducible refine (Al.out _).mono ?_);rintro e Gg ⟨gn,rfl,hy,pb⟩;obtain⟨cd,cF,rfl⟩:=hy.form;(first | (have mw:ah cf.heap.size cf Gg:=mv.trans (pb.mono mv.size);have iz:=I (And.intro (hv.below pb) (And.intro hy mw));obtain⟨cl,bH,f0,f1⟩:=(eI.out.below mw).cells;obtain⟨t0,t1,g0,g1⟩:=(lx.out.below mw).cells) | (have mw:ah cf.heap.size cf Gg:=(aK _ cf).drew.trans pb))))
 all_goals
  obtain⟨eP,eL,o0⟩:=iz.out;have Am:=eI.out.below o0;have x0:=lx.out.below o0;have kZ:=I ((Am.set (.slice b1 (o.wd bo).length a2) (.bool bp)).both (k:=w.heap.size+2) (j:=w.heap.size+3) (x:=.slice cd (o.wd V).length cF) (y:=.bool bt) (by omega));have iP:=I ((x0.both (k:=w.heap.size+3) (j:=w.heap.size+2) (x:=.slice b1 (o.wd bo).length a2) (y:=.bool bp) (by omega)).set (.slice cd (o.wd V).length cF) (.bool bt));have sz:=x0.both (k:=w.heap.size+3) (j:=w.heap.size+2) (x:=.slice b1 (o.wd bo).length a2) (y:=.bool bp) (by omega);have ai3:=I ((eP.Ai (x:=.slice b1 (o.wd bo).length a2) (y:=.bool bp) Am (by simp) (by simp)).Ai (x:=.slice cd (o.wd V).length cF) (y:=.bool bt) sz (by simp) (by simp));have ai4:=I ((eL.Ai (x:=.slice b1 (o.wd bo).length a2) (y:=.bool bp) Am (by simp) (by simp)).Ai (x:=.slice cd (o.wd V).length cF) (y:=.bool bt) sz (by simp) (by simp));have k0:=I (fG (fG (dc.out.trans (o0.mono (by omega))) (show w.heap.size≤w.heap.size+2 by omega) (.slice b1 (o.wd bo).length a2) (.bool bp)) (show w.heap.size≤w.heap.size+3 by omega) (.slice cd (o.wd V).length cF) (.bool bt));obtain⟨aM,aG,_,_⟩:=kZ.out.cells;obtain⟨tF,iT,_,_⟩:=iP.out.cells;clear Am x0 sz eP eL o0;go_wp2;refine bI (v:=.tuple #[.agg #[.slice b1 (o.wd bo).length a2,.bool bp],.agg #[.slice cd (o.wd V).length cF,.bool bt],.int .i64 0]) (by simp[results,results56,go_sem,aM,aG,tF,iT]) rfl ⟨_,_,rfl,ai3.out,ai4.out,k0.out⟩
namespace o
def oc (l:List UInt8) (k:Nat):List UInt8:=(List.range l.length).map fun i=>if i<k∨l.length-k≤i then l.getD (l.length-1-i) 0 else l.getD i 0
theorem Ga (l:List UInt8) (k:Nat):(oc l k).length=l.length:=by simp[oc]
theorem aiR (l:List UInt8):oc l 0=l:=by
 apply s7
 ·simp[oc]
 ·intro i aa ae;simp only[oc,xq,zj];rw[aU (by omega),e5,eE ae];rfl
theorem aiS {l:List UInt8} {k:Nat} (h:l.length≤2*k+1) (aA:k≤l.length):oc l k=l.reverse:=by
 apply s7
 ·simp[oc]
 ·intro i aa ae;rw[Ga] at aa;simp only[oc,xq,zj,List.getElem_reverse];by_cases an:i<k∨l.length-k≤i
  ·rw[ba an,e5,eE (by omega)];rfl
  ·rw[aU an,e5,eE aa];have:i=l.length-1-i:=by omega
   show l[i]=_;congr 1
theorem XH {l:List UInt8} {k i:Nat} (aa:k≤i) (ae:i<l.length-k) (aJ:i<l.length):(oc l k)[i]? = U (l.getD i 0):=by
 rw[eE (by rw[Ga];exact aJ)];simp only[oc,xq,zj];rw[aU (by omega)]
theorem aiT {l:List UInt8} {k:Nat} (h:2*k+1<l.length):oc l (k+1)=((oc l k).set k (l.getD (l.length-1-k) 0)).set (l.length-1-k) (l.getD k 0):=by
 apply s7
 ·simp[oc]
 ·intro i aa ae;rw[Ga] at aa;simp only[I4,oc,xq,zj];by_cases aH:l.length-1-k=i
  ·rw[ba aH,ba (by omega)];congr 1;omega
  ·rw[aU aH];by_cases aT:k=i
   ·rw[ba aT,ba (by omega)];congr 1;omega
   ·rw[aU aT];by_cases an:i<k∨l.length-k≤i
    ·rw[ba an,ba (by omega)]
    ·rw[aU an,aU (by omega)]
end o
theorem Rk (l:List UInt8) (k:Nat) (c:UInt8):cV (l.set k c)=(cV l).set k (.int .u8 c.toNat):=by simp[cV,Ps]
theorem KI {l:List UInt8} {k:Nat} {c:UInt8} (h:l[k]? = U c):(cV l)[k]? = U (.int .u8 c.toNat):=by simp[cV,h]
def j5 (w:af) (base:Nat) (v:aw) (l:List UInt8):Prop:=cB w base 5 1 v l.length (cV l)
theorem XI (v:aw) (l:List UInt8) (base:Nat) (w:af) (b6:j5 w base v l) (ao:l.length≤1000000) :
 aq ak 78 #[v] w fun e w'=>e=.returned (.tuple #[])∧j5 w' base v l.reverse∧ah base w w'∧w.heap.size≤w'.heap.size:=by
 obtain⟨n,aB⟩:∃n,l.length=n:=⟨_,rfl⟩;have bF:=I b6;have bU:=I aB;obtain⟨c7,fj,aD⟩:=b6.form;rw[aB] at aD ao;subst aD;clear b6 aB;go_enter func78,ntmps78;go_wp2;go_loopw [2,3] (fun i j wr=>∃k:Nat,2*k≤n+1∧k≤n∧i=.int .i64 k∧j=.int .i64 ((n:Int)-1-k)∧j5 wr base (.slice c7 n fj) (o.oc l k)∧ah base w wr∧w.heap.size≤wr.heap.size) (fun i _ _=>n+1-(RowKit.intOf i).toNat);case atStart=>exact⟨0,by omega,by omega,rfl,by simp,by rw[o.aiR];exact bF.out,aK _ _,aC _⟩
 case round=>
  obtain⟨k,aA,fh,rfl,rfl,dq,ad,b5⟩:=hrel;have jC:=I dq;have ay:=I ad;by_cases bV:2*k+1<n
  ·have aL:au ((k:Int)<(n:Int)-1-(k:Int))=true:=bE (by omega);have rC:cB wr base 5 1 (.slice c7 n fj) n (cV (o.oc l k)):=by
    have:=dq;unfold j5 at this;rw[o.Ga,bU.out] at this;exact this
   obtain⟨g,cap,aD,kD,Xz,CG⟩:=cB.yb rC (by omega);injection aD with v' XA F8;subst v' F8;obtain⟨m,hm⟩:∃m,n-1-k=m:=⟨_,rfl⟩;have Gb:(n:Int)-1-(k:Int)=(m:Int):=by omega
   rw[Gb] at aL ⊢;have c1:=rC.cellAt (KI (o.XH (l:=l) (k:=k) (i:=k) (aC _) (by rw[bU.out];omega) (by rw[bU.out];omega)));have c2:=rC.cellAt (KI (o.XH (l:=l) (k:=k) (i:=m) (by omega) (by rw[bU.out];omega) (by rw[bU.out];omega)));have f1:=rC.free (j:=k) (by omega);have f2:=rC.free (j:=m) (by omega);have dT:(⟨g,k,J⟩:Addr)≠⟨g,m,J⟩:=by intro e;injection e with _ e;omega
   have mX:aj (j5 ((wr.setCell ⟨g,k,J⟩ (.int .u8 (l.getD m 0).toNat)).setCell ⟨g,m,J⟩ (.int .u8 (l.getD k 0).toNat)) base (.slice (U ⟨g,0,J⟩) n fj) (o.oc l (k+1))):=I (by
    have aa:=(rC.stored (j:=k) (.int .u8 (l.getD m 0).toNat)).stored (j:=m) (.int .u8 (l.getD k 0).toNat);unfold j5;rw[o.aiT (by rw[bU.out];exact bV),Rk,Rk,mh,mh,o.Ga,bU.out,hm];exact aa)
   have bL:aj (ah base w ((wr.setCell ⟨g,k,J⟩ (.int .u8 (l.getD m 0).toNat)).setCell ⟨g,m,J⟩ (.int .u8 (l.getD k 0).toNat))):=I ((ad.setCell (p:=⟨g,k,J⟩) kD _).setCell (p:=⟨g,m,J⟩) kD _);clear dq rC ad;go_wp2;go_region;go_wp2;go_roundw;case rel=>exact⟨k+1,by omega,by omega,by go_num,by congr 1;omega,mX.out,bL.out.drew,by simpa[World.setCell] using b5⟩
   case measure=>simp[RowKit.intOf];omega
  ·have aL:au ((k:Int)<(n:Int)-1-(k:Int))=ab:=bx (by omega);have bG:=I (o.aiS (l:=l) (k:=k) (by rw[bU.out];omega) (by rw[bU.out];exact fh));clear dq ad;go_wp2;go_end0;exact⟨rfl,by rw[←bG.out];exact jC.out,ay.out,b5⟩
def wv (w:af) (v:aw) (l:List UInt8):Prop:=∃g cap,v=.slice (U ⟨g,0,J⟩) l.length cap∧g<w.heap.size∧∀(j:Nat) (x:UInt8),l[j]? = U x→w.cell? ⟨g,j,J⟩=U (.int .u8 x.toNat)
theorem wv.below {w w':af} {v:aw} {l:List UInt8} (h:wv w v l) {B:Nat} (ad:ah B w w') (az:∀k,v.ownBlock=U k→k<B):wv w' v l:=by
 obtain⟨g,cap,rfl,aa,ae⟩:=h;exact⟨g,cap,rfl,cv aa ad.size,fun j x bP=>by rw[ad.cell (p:=⟨g,j,J⟩) (az g rfl)];exact ae j x bP⟩
theorem wv.lt {w:af} {v:aw} {l:List UInt8} (h:wv w v l):∀k,v.ownBlock=U k→k<w.heap.size:=by
 obtain⟨g,cap,rfl,aa,ae⟩:=h;intro k aA;simp[Value.ownBlock] at aA;subst aA;exact aa
def o.Gc (l:List UInt8) (c:UInt8) (r:Int):Prop:=(∃k:Nat,l[k]? = U c∧r=k)∨(c ∉ l∧r = -1)
theorem XJ (v:aw) (l:List UInt8) (c:UInt8) (w:af) (h:wv w v l) (ao:l.length≤1000000) :
 aq ak 123 #[v,.int .u8 c.toNat] w fun e w'=>∃r,e=.returned (.int .i64 r)∧o.Gc l c r∧w=w':=by
 obtain⟨g,cap,rfl,aY,an⟩:=h;obtain⟨n,aB⟩:∃n,l.length=n:=⟨_,rfl⟩;have bJ:=I an;have bU:=I aB;rw[aB] at ao ⊢;clear an aB;go_enter func123,ntmps123;go_wp2;go_loop [8] (fun i=>∃k:Nat,k≤n∧i=.int .i64 k∧aj (c ∉ l.take k)) (fun i=>n-(RowKit.intOf i).toNat);case atStart=>exact⟨0,il _,rfl,I (by simp)⟩
 case round=>
  obtain⟨k,aA,rfl,lZ⟩:=hrel;by_cases bV:k<n
  ·have eM:k<l.length:=by rw[bU.out];exact bV
   obtain⟨d,aL⟩:∃d,l[k]=d:=⟨_,rfl⟩;have gz:=bJ.out k d (by rw[eE eM,aL]);by_cases e:c=d
   ·subst e;have bG:aj (o.Gc l c k):=I (.inl ⟨k,by rw[eE eM,aL],rfl⟩);clear aL eM;go_wp2;go_ret;exact⟨_,rfl,bG.out,rfl⟩
   ·have dT:((c.toNat:Int)==(d.toNat:Int))=ab:=by
     rw[cH];intro h;exact e (UInt8.toNat_inj.1 (by omega))
    have aiU:aj (c ∉ l.take (k+1)):=I (by
     rw[kc eM,I7,List.mem_singleton,aL];intro h;rcases h with h | h
     ·exact lZ.out h
     ·exact e h)
    clear e aL eM;go_wp2;go_round;case rel=>exact⟨k+1,by omega,by go_num,aiU⟩
    case measure=>simp[RowKit.intOf];omega
  ·obtain rfl:k=n:=by omega
   have bG:aj (o.Gc l c (-1)):=I (.inr ⟨by
    have:=lZ.out;rwa[fp (by rw[bU.out];exact aC _)] at this,rfl⟩)
   go_wp2;go_ret;exact⟨_,rfl,bG.out,rfl⟩
theorem aiV (v:aw) (l:List UInt8) (c:UInt8) (w:af) (h:wv w v l) (ao:l.length≤1000000) :
 aq ak 121 #[v,.int .u8 c.toNat] w fun e w'=>e=.returned (.bool (au (c ∈ l)))∧w=w':=by
 have hq:=I (XJ v l c w h ao);obtain⟨g,cap,rfl,aY,an⟩:=h;generalize l.length=n at *;go_enter func121,ntmps121;go_wp2_with fail;refine hq.out.mono ?_;rintro e w' ⟨r,rfl,aF,rfl⟩;have aL:au (0≤r)=au (c ∈ l):=by
  rcases aF with ⟨k,aA,rfl⟩ | ⟨aA,rfl⟩
  ·rw[bE (by omega),bE (r9 aA)]
  ·rw[bx aA];rfl
 have dM:=I aL;clear aF aL;go_wp2;go_ret;exact⟨by rw[←dM.out];rfl,rfl⟩
theorem CN {n:Int} {neg:Bool} {V:Nat} (h:cy neg V=n):cO (neg && !decide (V=0)) (o.bs V)=bz n:=by
 unfold cy at h;have cA:V=n.natAbs:=by split at h<;>omega
 unfold bz;rw[←cA];congr 1;cases neg
 ·rw[aU (by simp)] at h;rw[show au (n<0)=ab from bx (by omega)];rfl
 ·rw[ba rfl] at h;by_cases ar:V=0
  ·rw[bE ar,bx (by omega)];rfl
  ·rw[bx ar,bE (by omega)];rfl
theorem CO {n:Int} {neg:Bool} {V:Nat} (h:cy neg V=n):V=n.natAbs:=by unfold cy at h;split at h<;>omega
open Classical in
noncomputable def e7 (n:Int):aw:=if o.bO n then .tuple #[bz n,.int .i64 0] else .tuple #[cO ab [],.int .i64 92]
def hX (w:af) (n:Int) (e:Ending) (w':af):Prop:=e=.returned (e7 n)∧ah w.heap.size w w'
theorem o.An {V k:Nat} (h:V<4294967296^k):(o.wd V).length≤k:=by
 by_cases ar:o.wd V=[]
 ·rw[ar];exact il _
 ·have aa:=o.F7 (o.uT V) ar;rw[o.eA] at aa;have ae:4294967296^((o.wd V).length-1)<4294967296^k:=gQ aa h;have:=(BA (by decide:1<4294967296)).1 ae;omega
theorem Ao (v:aw) (neg:Bool) (V:Nat) (n:Int) (w:af) (aB:cy neg V=n) (h:b2 w v (o.wd V)) (ao:(o.wd V).length≤10000) :
 aq ak 57 #[.agg #[v,.bool neg]] w (hX w n):=by
 by_cases az:o.bO n
 ·have aa:=Kh v (o.wd V) neg w h ao (o.fa V) (by rw[o.KK];exact o.oa (by rw[CO aB];exact az));rw[show FR w neg (o.wd V)=fun e w'=>e=.returned (.tuple #[cO (neg && !(o.bytesOf (o.wd V)).isEmpty) (o.bytesOf (o.wd V)),.int .i64 0])∧ah w.heap.size w w' from rfl,o.KK,o.sy,CN aB] at aa;unfold hX e7;rw[ba az];exact aa
 ·have cD:aj (∀W,ah w.heap.size w W→aq ak 62 #[v,.bool neg] W fun e w'=>e=.returned (bz n)∧ah W.heap.size W w'):=I (fun W jy=>by
   have aa:=FM v (o.wd V) neg W (h.below jy) ao (o.fa V);rw[show Cu W neg (o.wd V)=fun e w'=>e=.returned (cO (neg && !(o.bytesOf (o.wd V)).isEmpty) (o.bytesOf (o.wd V)))∧ah W.heap.size W w' from rfl,o.KK,o.sy,CN aB] at aa;exact aa)
  have cM:aj (e7 n=.tuple #[.agg #[.bool ab,.string ⟨#[]⟩],.int .i64 92]):=I (by unfold e7;rw[aU az];rfl);have hlen:4096<(o.bs n.natAbs).length:=by
   rcases eh 4096 (o.bs n.natAbs).length with aa | aa
   ·exact aa
   ·exfalso;apply az;have ae:=o.ru (o.bs n.natAbs);rw[o.lC] at ae;exact o.ye (b:=4096) ae aa
  obtain⟨S,cP⟩:∃S,ax (o.bs n.natAbs)=S:=⟨_,rfl⟩;obtain⟨g,aY⟩:∃g,au (n<0)=g:=⟨_,rfl⟩;have aH:bz n=.agg #[.bool g,.string S]:=by unfold bz cO;rw[cP,aY]
  have KL:4096<S.size:=by rw[←cP];exact hlen
  have b5:au ((4096:Int)<(S.size:Int))=true:=bE (by omega);rw[aH] at cD;obtain⟨c7,fj,rfl⟩:=h.form;generalize (o.wd V).length=m at *;clear h az aB hlen cP aY aH;unfold hX;obtain⟨cG,fy⟩:∃cG,(w.alloc (.cells #[.slice c7 m fj,.bool neg] 85)).alloc (.cells #[.bool ab,.string ⟨#[]⟩] 46)=cG:=⟨_,rfl⟩;have dP:ah w.heap.size w cG:=by rw[←fy];exact ((aK _ _).alloc (aC _) _).alloc (by simp) _
  have bG:aj (aI cG (w.heap.size+1) 46 (.bool ab) (.string ⟨#[]⟩)):=I (by
   rw[←fy];have:=aI.new (w.alloc (.cells #[.slice c7 m fj,.bool neg] 85)) 46 (.bool ab) (.string ⟨#[]⟩);simpa using this)
  have aO:aj (aI cG w.heap.size 85 (.slice c7 m fj) (.bool neg)):=I (by
   rw[←fy];exact (aI.new _ _ _ _).alloc _)
  have dY:w.heap.size+2≤cG.heap.size:=by rw[←fy];simp
  obtain⟨cn,bY,_,_⟩:=aO.out.cells;rw[cM.out];go_enter func57,Pq;go_wp2_with fail;refine (cD.out _ (by exact dP)).mono ?_;rintro e cc ⟨rfl,cK⟩;have bu:=I (chain dP cK (by omega));have dL:w.heap.size+2≤cc.heap.size:=cp dY cK.size;have kX:=I ((bG.out.below cK).alloc (.cells #[.bool g,.string S] 46));obtain⟨cl,bH,f0,f1⟩:=kX.out.cells;clear cK cn bY aO fy dP bG;go_wp2_with fail;have ht:=kX.out.set (.bool ab) (.string ⟨#[]⟩);obtain⟨aM,aG,_,_⟩:=ht.cells;refine bI (v:=.tuple #[.agg #[.bool ab,.string ⟨#[]⟩],.int .i64 92]) (by simp[results,OE,go_sem,aM,aG]) rfl ⟨rfl,fG (bu.out.alloc (by omega) _) (by omega) _ _⟩
def CP (w:af) (A B:Nat) (e:Ending) (w':af):Prop:=∃CQ jD,e=.returned (.tuple #[CQ,jD])∧b2 w' CQ (o.wd (A/B))∧b2 w' jD (o.wd (A%B))∧ah w.heap.size w w'
theorem o.KM:o.wd 0=[]:=by
 have:=o.An (V:=0) (k:=0) (by decide);exact r7 (Nat.le_zero.1 this)
theorem ai5 (w:af):b2 w (.slice J 0 0) (o.wd 0):=.inl ⟨rfl,o.KM⟩
theorem XP (e6 fz:aw) (A B:Nat) (w:af) (hx:b2 w e6 (o.wd A)) (aW:b2 w fz (o.wd B)) (yc:(o.wd A).length≤2500) (rD:(o.wd B).length≤2500) (bV:A<B) :
 aq ak 61 #[e6,fz] w (CP w A B):=by
 have bJ:=I (F3 e6 fz _ _ w hx aW (by omega) (by omega) (o.fa A) (o.fa B));rw[o.eA,o.eA,show o.hV A B = -1 by unfold o.hV;rw[ba bV]] at bJ;have b9:=I hx;have b3:=I (nu bV);have di:=I (eF bV);obtain⟨cx,ct,rfl⟩:=hx.form;obtain⟨eB,eC,rfl⟩:=aW.form;generalize (o.wd A).length=n at *;generalize (o.wd B).length=m at *;clear hx aW bV;go_enter func61,Pu;go_wp2_with fail;refine bJ.out.mono ?_;rintro e cq ⟨rfl,dD⟩;go_wp2;go_ret2;exact⟨_,_,rfl,by rw[b3.out];exact ai5 _,by rw[di.out];exact b9.out.below dD,dD⟩
theorem XQ (e6 fz:aw) (A B:Nat) (w:af) (hx:b2 w e6 (o.wd A)) (aW:b2 w fz (o.wd B)) (yc:(o.wd A).length≤2500) (rD:(o.wd B).length=1) (fR:B≤A) :
 aq ak 61 #[e6,fz] w (CP w A B):=by
 have bJ:=I (F3 e6 fz _ _ w hx aW (by omega) (by omega) (o.fa A) (o.fa B));rw[o.eA,o.eA] at bJ;have b6:au (o.hV A B<0)=ab:=bx (by unfold o.hV;rw[aU (by omega)];split<;>omega);obtain⟨b,ad⟩:∃b,o.wd B=[b]:=by
  cases h:o.wd B with
  | nil=>rw[h] at rD;simp at rD
  | cons c l=>rw[h] at rD;simp at rD;exact⟨c,by rw[rD]⟩
 have Ro:b=B:=by have:=o.eA B;rw[ad] at this;simpa[o.num] using this
 have k1:b<4294967296:=o.fa B b (by rw[ad];simp);have KC:0<b:=by
  have:=o.uT B;rw[ad] at this;rcases this with h | ⟨l,c,h,an⟩
  ·cases h
  ·cases l with
   | nil=>simp at h;omega
   | cons d l=>simp at h
 rw[ad] at aW;subst Ro;have wm:aj (∀W,ah w.heap.size w W→aq ak 77 #[e6,.int .u32 b] W (Rd W A b)):=I (fun W jy=>by
  have:=Xs e6 _ b W (hx.below jy) (by omega) (o.fa A) KC k1;rwa[o.eA] at this)
 have m':A%b<4294967296:=Pv (eW _ KC) k1;obtain⟨cx,ct,rfl⟩:=hx.form;obtain⟨eB,eC,rfl⟩:=aW.form;change b2 w (.slice eB 1 eC) [b] at aW;obtain⟨sw,rfl,CE,gP⟩:=aW.at (k:=0) (by simp);rw[show ([b].getD 0 0)=b from rfl] at gP;obtain⟨n,aB⟩:∃n,(o.wd A).length=n:=⟨_,rfl⟩;rw[aB] at bJ wm yc;rw[aB];change aq ak 61 #[.slice cx n ct,.slice (U ⟨sw,0,J⟩) 1 eC] w (CP w A b);change aj (aq ak 127 #[.slice cx n ct,.slice (U ⟨sw,0,J⟩) 1 eC] w fun e w'=>e=.returned (.int .i64 (o.hV A b))∧ah w.heap.size w w')at bJ;clear hx aW aB rD ad;go_enter func61,Pu;go_wp2_with fail;refine bJ.out.mono ?_;rintro e cq ⟨rfl,dD⟩;have Rp:cq.cell? ⟨sw,0,J⟩=U (.int .u32 (b:Nat)):=by rw[dD.cell (p:=⟨sw,0,J⟩) CE];exact gP
 have rG:=I (wm.out cq dD);have cQ:=I dD;have dH:=dD.size;clear dD wm bJ;go_wp2_with fail;refine rG.out.mono ?_;rintro e aP ⟨CQ,rfl,lF,bg⟩;obtain⟨dQ,e1,rfl⟩:=lF.form;have bL:=I (chain cQ.out bg (by omega));have u0:=I lF;have dY:w.heap.size≤aP.heap.size:=cp dH bg.size;obtain⟨r,aF⟩:∃r,A%b=r:=⟨_,rfl⟩;rw[aF] at m' ⊢;have bG:=I aF;have Ap:aj (b2 (aP.alloc (.cells #[.int .u32 (r:Nat)] 96)) (.slice (U ⟨aP.heap.size,0,J⟩) 1 1) [r]):=I (.inr ⟨aP.heap.size,1,rfl,aC _,by simp,fun j x bP=>by
  match j,bP with
  | 0,bP=>simp at bP;subst bP;simp⟩)
 have bc:=I (qv _ _ _ Ap.out (by simp));have et:=I (o.tC (xs:=[r]) (V:=r) (fun x hx=>by rw[List.mem_singleton.1 hx];exact m') (by simp[o.num]));clear lF bg Rp gP CE rG aF;go_wp2_with fail;refine bc.out.mono ?_;rintro e cc ⟨v3,rfl,kg,rfl⟩;rw[et.out] at kg;have kX:=I kg;obtain⟨yi,rc,rfl⟩:=kg.form;clear kg;go_wp2;go_ret2;exact⟨_,_,rfl,u0.out.below ((aK _ _).alloc (aC _) _),by rw[bG.out];exact kX.out,bL.out.alloc dY _⟩
end Go.Proofs.YtkhphoonnkoipaaGreatDoor
namespace Go.Proofs.YtkhphoonnkoipaaGreatDoor.o
theorem Rq {α:Type} {P:List α→Prop} (ar:P []) (aa:∀l d,P l→P (l++[d])) (l:List α):P l:=by
 have:∀l:List α,P l.reverse:=by
  intro l;induction l with
  | nil=>exact ar
  | cons a l dw=>rw[N8];exact aa _ _ dw
 have:=this l.reverse;rwa[IP] at this
def ep (b:Nat) (ds:List Nat):Nat:=ds.foldl (fun a d=>a*b+d) 0
theorem ai6 (b:Nat):ep b []=0:=rfl
theorem Aq (b:Nat) (l:List Nat) (d:Nat):ep b (l++[d])=ep b l*b+d:=by simp[ep,List.foldl_append]
structure Ar (b:Nat) (ds:List Nat) (V:Nat):Prop where
 ne:ds≠[]
 lt:∀d ∈ ds,d<b
 head:ds.head? = U 0→ds.length=1
 val:ep b ds=V
theorem XR {b:Nat} (ad:2≤b):∀{n:Nat} {ds:List Nat},ds.length=n→ds≠[]→ds.head?≠U 0→0<ep b ds:=by
 intro n;induction n with
 | zero=>intro ds h ar;exact absurd (r7 h) ar
 | succ n dw=>
   intro ds h _ aL;obtain⟨l,d,rfl⟩:∃l d,ds=l++[d]:=⟨ds.dropLast,ds.getLast (by intro e;rw[e] at h;simp at h),(Bv _).symm⟩;rw[Aq];cases l with
   | nil=>
     have:d≠0:=by intro e;rw[e] at aL;exact aL rfl
     omega
   | cons a l=>
     have:=dw (ds:=a::l) (by simpa using h) (by simp) (by simpa using aL);have:0<ep b (a::l)*b:=lM this (by omega);omega
theorem ai7 {b:Nat} (ad:2≤b):∀{n:Nat} {ds es:List Nat} {V:Nat},ds.length=n→Ar b ds V→Ar b es V→ds=es:=by
 intro n;induction n with
 | zero=>intro ds es V h aa;exact absurd (r7 h) aa.ne
 | succ n dw=>
   intro ds es V h aa ae;obtain⟨l,d,rfl⟩:∃l d,ds=l++[d]:=⟨_,_,(Bv aa.ne).symm⟩;obtain⟨m,e,rfl⟩:∃m e,es=m++[e]:=⟨_,_,(Bv ae.ne).symm⟩;have aL:=aa.lt d (by simp);have he:=ae.lt e (by simp);have v1:=aa.val;have v2:=ae.val;rw[Aq] at v1 v2;have aH:d=e:=by
    have bD:V%b=d:=by rw[←v1,jv,VS,eF aL]
    have cX:V%b=e:=by rw[←v2,jv,VS,eF he]
    omega
   have aT:ep b l=ep b m:=by
    have:ep b l*b=ep b m*b:=by omega
    exact D8 (by omega) this
   subst aH;have hL:∀{l m:List Nat} {d:Nat},Ar b (l++[d]) V→Ar b (m++[d]) V→ep b l=ep b m→l=[]→m=[]:=by
    intro l m d _ bj bq bA;subst bA;cases m with
    | nil=>rfl
    | cons a m=>
      have:=XR ad (ds:=a::m) rfl (by simp) (by
       intro hh;have:=bj.head (by simpa using hh);simp at this)
      rw[←bq] at this;exact absurd this (by rw[ai6];omega)
   by_cases ao:l=[]
   ·rw[ao,hL aa ae aT ao]
   ·by_cases hm:m=[]
    ·exact absurd (hL ae aa aT.symm hm) ao
    ·have:l=m:=dw (by simpa using h) (V:=ep b l) ⟨ao,fun x hx=>aa.lt x (by simp[hx]),fun hh=>by
      have hx:=aa.head (by rw[List.head?_append,hh];rfl);rw[ey] at hx;have:0<l.length:=List.length_pos_iff.2 ao;simp at hx;exact absurd hx ao,rfl⟩ ⟨hm,fun x hx=>ae.lt x (by simp[hx]),fun hh=>by
      have hx:=ae.head (by rw[List.head?_append,hh];rfl);rw[ey] at hx;simp at hx;exact absurd hx hm,aT.symm⟩
     rw[this]
theorem XS {b:Nat} (ad:1≤b) (ds:List Nat) (k:Nat):ep b (ds.take k)≤ep b ds:=by
 refine Rq (P:=fun ds=>∀k,ep b (ds.take k)≤ep b ds) (by simp) ?_ ds k
 ·intro l d dw k;by_cases h:k≤l.length
  ·rw[Nl h,Aq];have:=dw k;have:ep b l*1≤ep b l*b:=gp _ ad;have:=dw k;omega
  ·rw[fp (by simp;omega)];exact aC _
theorem ai8 (b:Nat) (ds:List Nat) {k:Nat} (h:k<ds.length):ep b (ds.take (k+1))=ep b (ds.take k)*b+ds[k]:=by
 rw[kc h,Aq]
def low (b V k:Nat):List Nat:=(List.range k).map fun i=>V/b^i%b
theorem Rr (b V k:Nat):low b V (k+1)=low b V k++[V/b^k%b]:=by simp[low,List.range_succ]
theorem Rs (b V k:Nat):(low b V k).length=k:=by simp[low]
theorem XT {b V k:Nat} (ad:0<b) {d:Nat} (h:d ∈ low b V k):d<b:=by
 obtain⟨i,_,rfl⟩:=List.mem_map.1 h;exact eW _ ad
theorem XU (b:Nat) (l m:List Nat):ep b (l++m)=ep b l*b^m.length+ep b m:=by
 refine Rq (P:=fun m=>ep b (l++m)=ep b l*b^m.length+ep b m) (by simp[ep]) ?_ m
 ·intro m d dw;rw[←N9,Aq,dw,Aq,ey,pr,ei,ff,cE,nW]
theorem XV {b:Nat} (ad:0<b) (V:Nat):∀k,ep b (low b V k).reverse+V/b^k*b^k=V
 | 0=>by simp[low,ep]
 | k+1=>by
   have dw:=XV ad V k;rw[Rr,NH,N8,List.reverse_nil,se,XU,Ek,Rs];have e:ep b [V/b^k%b]=V/b^k%b:=by simp[ep]
   rw[e,ei,←hE];have aT:=ky (V/b^k) b;have b8:V/b^k*b^k=(V/b^k/b*b+V/b^k%b)*b^k:=by
    rw[dx _ b,aT]
   rw[b8,ff] at dw;have eb:V/b^k/b*(b^k*b)=V/b^k/b*b*b^k:=by rw[cE,dx b]
   rw[eb];omega
theorem ai9 {b V k:Nat} (ad:2≤b) (aA:0<k) (ar:V/b^k=0) (aa:V/b^(k-1)≠0):Ar b (low b V k).reverse V:=by
 refine⟨?_,?_,?_,?_⟩
 ·intro e;have:=eS List.length e;simp[Rs] at this;omega
 ·intro d aL;rw[N'] at aL;exact XT (by omega) aL
 ·intro hh;exfalso;obtain⟨j,rfl⟩:∃j,k=j+1:=⟨k-1,by omega⟩;rw[Rr,NH] at hh;simp at hh;rw[nt] at aa;rw[ei,←hE] at ar;have:=ky (V/b^j) b;rw[ar] at this;have aX:V/b^j%b=0:=by simpa using hh
  rw[aX] at this;simp at this;exact aa (by simpa using this.symm)
 ·have:=XV (b:=b) (by omega) V k;rw[ar] at this;simpa using this
theorem ai' (b:Nat) (ad:2≤b):Ar b [0] 0:=⟨by simp,fun d aL=>by simp at aL;omega,fun _=>rfl,by simp[ep]⟩
def u1 (d:Nat):UInt8:=UInt8.ofNat (if d<10 then 48+d else 55+d)
def dg (c:UInt8):Nat:=if 48≤c.toNat∧c.toNat≤57 then c.toNat-48 else if 65≤c.toNat∧c.toNat≤90 then c.toNat-55 else 99
theorem aja {d:Nat} (h:d<36):dg (u1 d)=d:=by
 have:∀d,d<36→dg (u1 d)=d:=by decide
 exact this d h
theorem Rt {c:UInt8} (h:dg c<36):u1 (dg c)=c:=by
 have:∀n,n<256→dg (UInt8.ofNat n)<36→u1 (dg (UInt8.ofNat n))=UInt8.ofNat n:=by decide
 have:=this c.toNat c.toNat_lt;simp only[UInt8.ofNat_toNat] at this;exact this h
def nK (b:Nat) (s:List UInt8) (V:Nat):Prop:=Ar b (s.map dg) V
theorem ajb {s t:List UInt8} (a1:∀d ∈ s.map dg,d<36) (h:s.map dg=t.map dg):s=t:=by
 have e:∀{s:List UInt8},(∀d ∈ s.map dg,d<36)→(s.map dg).map u1=s:=by
  intro s a1;rw[BR];conv=>rhs;rw[←List.map_id s]
  apply zh;intro c an;exact Rt (a1 _ (List.mem_map.2 ⟨c,an,rfl⟩))
 rw[←e a1,h,e (by rw[←h];exact a1)]
theorem XW {b:Nat} (ad:2≤b) (bg:b≤36) {s t:List UInt8} {V:Nat} (a1:nK b s V) (bn:nK b t V):s=t:=
 ajb (fun d aL=>cv (a1.lt d aL) bg) (ai7 ad rfl a1 bn)
def fl (b:Nat) (s:List UInt8) (n:Int):Prop:=if n<0 then ∃t,s=45::t∧nK b t n.natAbs else nK b s n.natAbs
theorem ajc {b:Nat} (ad:2≤b) (bg:b≤36) {s t:List UInt8} {n:Int} (a1:fl b s n) (bn:fl b t n):s=t:=by
 unfold fl at a1 bn;split at a1
 ·rename_i h;rw[ba h] at bn;obtain⟨Gh,rfl,a1⟩:=a1;obtain⟨jR,rfl,bn⟩:=bn;rw[XW ad bg a1 bn]
 ·rename_i h;rw[aU h] at bn;exact XW ad bg a1 bn
theorem ajd:dg 45=99:=by decide
theorem Gi {b:Nat} (bg:b≤36) {s:List UInt8} {V:Nat} (h:nK b s V):s.head?≠U 45:=by
 intro e;cases s with
 | nil=>simp at e
 | cons c s=>
   simp at e;subst e;have:=h.lt (dg 45) (by simp);rw[ajd] at this;omega
theorem CR {b:Nat} (bg:b≤36) {s:List UInt8} {n m:Int} (a1:fl b s n) (bn:fl b s m):n=m:=by
 unfold fl at a1 bn;by_cases aB:n<0
 ·rw[ba aB] at a1;obtain⟨t,rfl,aa⟩:=a1;by_cases hm:m<0
  ·rw[ba hm] at bn;obtain⟨jR,e,ae⟩:=bn;simp at e;subst e;have:n.natAbs=m.natAbs:=by rw[←aa.val,←ae.val]
   omega
  ·rw[aU hm] at bn;exact absurd rfl (Gi bg bn)
 ·rw[aU aB] at a1;by_cases hm:m<0
  ·rw[ba hm] at bn;obtain⟨t,rfl,ae⟩:=bn;exact absurd rfl (Gi bg a1)
  ·rw[aU hm] at bn;have:n.natAbs=m.natAbs:=by rw[←a1.val,←bn.val]
   omega
end Go.Proofs.YtkhphoonnkoipaaGreatDoor.o
namespace Go.Proofs.YtkhphoonnkoipaaGreatDoor
theorem b2.grown {w w':af} {v u:aw} {xs:List Nat} {l:List UInt8} {base:Nat} (h:b2 w v xs) (b6:j5 w base u l) (aB:l=[]→u.ownBlock=J) (aY:w.grownBy w' u.ownBlock):b2 w' v xs:=by
 rcases h with h | ⟨b,cap,aa,ae,aJ,bQ⟩
 ·exact .inl h
 ·refine .inr ⟨b,cap,aa,ae,cv aJ aY.size,fun j x bP=>?_⟩;have dT:U b≠u.ownBlock:=by
   intro e;have ao:l≠[]:=fun aT=>by rw[aB aT] at e;cases e
   obtain⟨c,tG,rfl⟩:∃c tG,l=c::tG:=by
    cases l with
    | nil=>exact absurd rfl ao
    | cons c tG=>exact⟨c,tG,rfl⟩
   have an:=cB.cells b6 (g:=b) e.symm 0 (.int .u8 c.toNat) (by simp[cV]);rw[Jn,hc] at an;have ar:0<xs.length:=by have:=(List.getElem?_eq_some_iff.1 bP).1;omega
   have:=bQ 0 _ (eE ar);rw[an] at this;injection this with this;cases this
  rw[uy (w:=w) (aY.block b aJ dT)];exact bQ j x bP
def XX:ByteArray:={ data:=#[48,49,50,51,52,53,54,55,56,57,65,66,67,68,69,70,71,72,73,74,75,76,77,78,79,80,81,82,83,84,85,86,87,88,89,90] }
theorem aje {r:Nat} (h:r<36) (aE:r<({ data:=#[48,49,50,51,52,53,54,55,56,57,65,66,67,68,69,70,71,72,73,74,75,76,77,78,79,80,81,82,83,84,85,86,87,88,89,90] }:ByteArray).size):({ data:=#[48,49,50,51,52,53,54,55,56,57,65,66,67,68,69,70,71,72,73,74,75,76,77,78,79,80,81,82,83,84,85,86,87,88,89,90] }:ByteArray)[r]'aE=o.u1 r:=by
 have:∀r,r<36→XX.data.toList[r]? = U (o.u1 r):=by decide
 have ae:=this r h;rw[q',VW (show r<XX.data.size from h)] at ae;exact hb ae
def o.kl (b V k:Nat):List UInt8:=(o.low b V k).map o.u1
theorem o.ajf (b V k:Nat):o.kl b V (k+1)=o.kl b V k++[o.u1 (V/b^k%b)]:=by unfold o.kl;rw[o.Rr,List.map_append];rfl
theorem o.rH (b V k:Nat):(o.kl b V k).length=k:=by unfold o.kl;rw[rh,o.Rs]
theorem o.ajg {b V k:Nat} (ad:2≤b) (bg:b≤36) (aA:0<k) (ar:V/b^k=0) (aa:V/b^(k-1)≠0):o.nK b (o.kl b V k).reverse V:=by
 unfold o.nK;have e:((o.kl b V k).reverse).map o.dg=(o.low b V k).reverse:=by
  unfold o.kl;rw[←List.map_reverse,BR];conv=>rhs;rw[←List.map_id (o.low b V k).reverse]
  apply zh;intro d aL;rw[N'] at aL;exact o.aja (cv (o.XT (by omega) aL) bg)
 rw[e];exact o.ai9 ad aA ar aa
theorem o.ajh {b V k n:Nat} (ad:2≤b) (cA:V<2^n) (aA:k=0∨V/b^(k-1)≠0):k≤n:=by
 rcases aA with aA | aA
 ·omega
 ·rcases eh n k with h | h
  ·exfalso;apply aA;apply nu;refine cv cA ?_;exact cp (dB (by decide) (show n≤k-1 by omega)) (NI ad _)
  ·exact h
theorem o.bO.two {n:Int} (h:o.bO n):∃m,m≤32768∧n.natAbs<2^m:=by
 have key:∀a k:Nat,a<256^k→a<2^(8*k):=fun a k h=>by rw[mi];exact h
 exact⟨8*4096,by decide,key _ 4096 h⟩
theorem o.bO.quo {n:Int} (h:o.bO n) (d:Nat):(o.wd (n.natAbs/d)).length≤1024:=o.rF _ (gQ (s9 _ _) h)
theorem Ru {w W bW:af} {B C:Nat} (h:ah B w W) (k:ah C W bW) (az:B+1≤C):ah B w bW:=h.trans (k.mono (by omega))
theorem XY (A:Int) (b:Nat) (w:af) (be:o.bO A) (hs:2≤b) (bg:b≤36) :
 aq ak 43 #[bz A,.int .i64 b] w fun e w'=>∃s,e=.returned (.tuple #[.string (ax s),.int .i64 0])∧o.fl b s A∧ah w.heap.size w w'∧s.length≤40000:=by
 have qE:=I (fun W=>Ge A W be);have wx:=I (fun W=>yf A W be);obtain⟨bp,fi⟩:∃bp,au (A<0)=bp:=⟨_,rfl⟩;have aS:bz A=.agg #[.bool bp,.string (ax (o.bs A.natAbs))]:=by unfold bz cO;rw[fi]
 rw[aS] at qE wx ⊢;rw[fi] at wx;clear aS;generalize ax (o.bs A.natAbs)=d' at qE wx ⊢;obtain⟨V,cA⟩:∃V,A.natAbs=V:=⟨_,rfl⟩;rw[cA] at wx;obtain⟨M,dy,Rv⟩:=be.two;have Gj:=I (fun k=>be.quo (b^k));rw[cA] at Rv Gj;have sA:=I Rv;have sB:=I fi;have cM:=I cA;clear fi cA be Rv;obtain⟨ag,a6⟩:∃ag,w.alloc (.cells #[.bool bp,.string d'] 46)=ag:=⟨_,rfl⟩;have cY:aj (aI ag w.heap.size 46 (.bool bp) (.string d')):=I (by rw[←a6];exact aI.new _ _ _ _);have cQ:aj (ah w.heap.size w ag):=I (by rw[←a6];exact (aK _ _).alloc (aC _) _);have dH:w.heap.size+1≤ag.heap.size:=by rw[←a6];simp
 obtain⟨cn,bY,_,_⟩:=cY.out.cells;go_enter func43,ntmps43;go_wp2_with fail;refine (qE.out _).mono ?_;rintro e aP ⟨rfl,KN⟩;have CS:=I (cY.out.below KN);have bL:=I (chain cQ.out KN (by omega));have dY:w.heap.size+1≤aP.heap.size:=cp dH KN.size;clear cn bY a6 KN cY cQ;obtain⟨cn,bY,_,_⟩:=CS.out.cells;have d1:au ((b:Int)<2)=ab:=bx (by omega);have d2:au ((36:Int)<(b:Int))=ab:=bx (by omega);go_wp2_with fail;refine (wx.out _).mono ?_;rintro e cc ⟨v3,rfl,kg,cK⟩;obtain⟨gR,c3,rfl⟩:=kg.form;obtain⟨tB,Rw⟩:∃l,(o.wd V).length=l:=⟨_,rfl⟩;rw[Rw] at kg ⊢;clear Rw;obtain⟨C,hC⟩:∃C,cc.heap.size=C:=⟨_,rfl⟩;obtain⟨gd,iv⟩:∃gd,cc.alloc (.cells #[.slice gR tB c3,.bool bp] 85)=gd:=⟨_,rfl⟩;have bb:ah cc.heap.size cc gd:=by rw[←iv];exact (aK _ _).alloc (aC _) _
 have eN:=I (chain (chain bL.out cK (by omega)) bb (cp (by omega) cK.size));have QM:aj (aI gd C 85 (.slice gR tB c3) (.bool bp)):=I (by rw[←iv,←hC];exact aI.new _ _ _ _);have yj:=I (kg.below bb);have Rx:w.heap.size+1≤C:=by rw[←hC];exact cp dY cK.size
 have aji:aj (gd.heap.size=C+1):=I (by rw[←iv,←hC];simp);clear cn bY cK bb kg CS bL dH dY;go_wp2_with fail;try rw[iv]
 try rw[hC]
 clear iv hC;go_loopw [8] (fun a7 wr=>∃(k:Nat) (cx:Option Addr) (ct m:Nat),j5 wr (C+1) a7 (o.kl b V k)∧(k=0→a7.ownBlock=J)∧aI wr C 85 (.slice cx m ct) (.bool bp)∧b2 wr (.slice cx m ct) (o.wd (V/b^k))∧aj (k=0∨V/b^(k-1)≠0)∧aj ((o.wd (V/b^k)).length=m)∧ah C gd wr∧C+1≤wr.heap.size) (fun a7 _=>M+1-(match a7 with | .slice _ k _=>k | _=>0));case atStart=>
  refine⟨0,gR,c3,tB,cB.nil _ _ _ _,fun _=>rfl,QM.out,by simpa using yj.out,I (.inl rfl),I ?_,aK _ _,by rw[aji.out];exact aC _⟩;obtain⟨a,c,h⟩:=yj.out.form;injection h with _ h _;rw[hn,uD,h]
 case round=>
  obtain⟨k,cx,ct,m,dq,XZ,hp,aF,h4,hm,ad,b5⟩:=hrel;have jC:=I dq;have X0:=I XZ;have aO:=I hp;have bG:=I aF;have ay:=I ad;obtain⟨tH,tI,rfl⟩:=dq.form;rw[o.rH] at jC X0 ⊢;obtain⟨c0,c1,f0,f1⟩:=hp.cells;have ajj:=o.ajh hs sA.out h4.out;clear dq XZ hp aF ad;by_cases ar:V/b^k=0
  ·have iu:m=0:=by rw[←hm.out,ar,o.KM];rfl
   subst iu;rcases kd k with aA | aA
   ·subst aA;have hq:aj (o.fl b [48] A):=I (by
     have pR:V=0:=by simpa using ar
     have sC:A=0:=by have:=cM.out;omega
     subst sC;unfold o.fl;rw[aU (by omega)];exact o.ai' b hs)
    clear ar;go_wp2;go_ret2;exact⟨[48],rfl,hq.out,Ru eN.out ay.out Rx,by simp⟩
   ·have bc:=I (o.ajg hs bg aA ar (by rcases h4.out with h | h;omega;exact h));have uW:((k:Int)==0)=ab:=by rw[cH];omega
    clear ar;cases bp
    ·have hq:aj (o.fl b (o.kl b V k).reverse A):=I (by
      have aa:=vI sB.out;unfold o.fl;rw[aU aa,cM.out];exact bc.out)
     have Ry:=I (XI (.slice tH k tI) (o.kl b V k) (C+1) wr jC.out (by rw[o.rH];omega));go_wp2_with fail;refine Ry.out.mono ?_;rintro e hM ⟨rfl,mx,fS,Rz⟩;have wy:=I (ay.out.trans (fS.mono (Nat.le_succ C)));have Gk:cB hM (C+1) 5 1 (.slice tH k tI) k ((o.kl b V k).reverse.map fun b=>Value.int .u8 b.toNat):=by
      unfold j5 at mx;rw[Ek,o.rH] at mx;exact mx
     clear mx fS;have ej:=Ch (P:=ak) 109 9 mL ke jH (l:=(o.kl b V k).reverse) Gk;obtain⟨s,a1⟩:∃s,(⟨((o.kl b V k).reverse).toArray⟩:ByteArray)=s:=⟨_,rfl⟩;rw[a1] at ej;have As:=I a1;clear Gk a1;go_wp2;go_ret2;refine⟨(o.kl b V k).reverse,by rw[←As.out];rfl,?_,Ru eN.out wy.out Rx,?_⟩
     ·exact hq.out
     ·rw[Ek,o.rH];omega
    ·have hq:aj (o.fl b (45::(o.kl b V k).reverse) A):=I (by
      have aa:=jb sB.out;unfold o.fl;rw[ba aa,cM.out];exact⟨_,rfl,bc.out⟩)
     have KO:aj (cB wr (C+1) 5 1 (.slice tH k tI) k (cV (o.kl b V k))):=I (by
      have aa:=jC.out;unfold j5 at aa;rwa[o.rH] at aa)
     go_wp2_with (at_builtin;refine iI rfl (.tmp 46) (.tmp 47) rfl (C+1) _ _ _ rfl KO.out [.int .u8 45] rfl (by intro u hu;simp at hu;subst hu;rfl) (by simp only[ch,du];omega) b5 ?_);intro gI fb At oe;have RA:aj (j5 fb (C+1) gI (o.kl b V k++[45])):=I (by
      unfold j5;rw[ey,o.rH,nE];exact At)
     have l0:=I (oe.below ay.out (by omega) (fun j bP=>by have:=(KO.out.lt j bP).1;omega));obtain⟨Gl,Gm,rfl⟩:=At.form;have Ry:=I (XI _ _ (C+1) fb RA.out (by rw[ey,o.rH,pr];omega));clear At oe;go_wp2_with fail;refine Ry.out.mono ?_;rintro e hM ⟨rfl,mx,fS,Rz⟩;have wy:=I (l0.out.trans (fS.mono (Nat.le_succ C)));have Gk:cB hM (C+1) 5 1 (.slice Gl (k+1) Gm) (k+1) ((45::(o.kl b V k).reverse).map fun b=>Value.int .u8 b.toNat):=by
      unfold j5 at mx;rw[Ek,ey,o.rH,NH] at mx;exact mx
     clear mx fS;have ej:=Ch (P:=ak) 109 9 mL ke jH (l:=45::(o.kl b V k).reverse) Gk;obtain⟨s,a1⟩:∃s,(⟨(45::(o.kl b V k).reverse).toArray⟩:ByteArray)=s:=⟨_,rfl⟩;rw[a1] at ej;have As:=I a1;clear Gk a1;go_wp2;go_ret2;refine⟨45::(o.kl b V k).reverse,by rw[←As.out];rfl,?_,Ru eN.out wy.out Rx,?_⟩
     ·exact hq.out
     ·rw[ch,Ek,o.rH];omega
  ·have ajk:=I ar;have iu:0<m:=by
    rw[←hm.out];exact List.length_pos_iff.2 (fun e=>ar (by rw[←o.eA (V/b^k),e];rfl))
   have wm:aj (aq ak 77 #[.slice cx m ct,.int .u32 b] wr (Rd wr (V/b^k) b)):=I (by
    have:=Xs _ _ b wr bG.out (by have:=Gj.out k;omega) (o.fa _) (by omega) (by omega);rwa[o.eA] at this)
   have B8:V/b^k%b<36:=cv (eW _ (by omega)) bg;go_wp2_with fail;refine wm.out.mono ?_;rintro e cf ⟨v5,rfl,Gn,bf⟩;obtain⟨r,iW⟩:∃r,V/b^k%b=r:=⟨_,rfl⟩;rw[iW] at B8 ⊢;rw[hE,←ei] at Gn;obtain⟨l1,z5,rfl⟩:=Gn.form;obtain⟨m5,CT⟩:∃l,(o.wd (V/b^(k+1))).length=l:=⟨_,rfl⟩;rw[CT] at Gn ⊢;have CF:C<wr.heap.size:=by omega
   have fH:=I (aO.out.below bf);obtain⟨awP,c51,f50,f51⟩:=fH.out.cells;have yk:=I (fH.out.XG (.slice l1 m5 z5));have Gp:=I (Gn.clear (i:=0) (x:=.slice l1 m5 z5) fH.out (by simp));have gA:=I ((ay.out.trans (bf.mono (qf CF))).setCell (p:=⟨C,0,J⟩) (aC C) (.slice l1 m5 z5));have Gq:aj (cB (cf.setCell ⟨C,0,J⟩ (.slice l1 m5 z5)) (C+1) 5 1 (.slice tH k tI) k (cV (o.kl b V k))):=I (by
    have aa:=jC.out;unfold j5 at aa;rw[o.rH] at aa;refine (aa.below bf (fun j bP=>(aa.lt j bP).2)).aiD _ ?_;intro e;have:=(aa.lt C e).1;omega)
   have rE:C+1≤(cf.setCell ⟨C,0,J⟩ (.slice l1 m5 z5)).heap.size:=by
    have:=bf.size;simp[World.setCell];omega
   obtain⟨gj,hN⟩:∃W,cf.setCell ⟨C,0,J⟩ (.slice l1 m5 z5)=W:=⟨_,rfl⟩;rw[hN] at yk Gp gA Gq rE;have Gr:=I CT;have CU:=I iW;have aE:r<({ data:=#[48,49,50,51,52,53,54,55,56,57,65,66,67,68,69,70,71,72,73,74,75,76,77,78,79,80,81,82,83,84,85,86,87,88,89,90] }:ByteArray).size:=B8;have rI:=aje B8 aE;obtain⟨c,an⟩:∃c,o.u1 r=c:=⟨_,rfl⟩;rw[an] at rI;have ajl:=I an;clear CT iW Gn bf an c0 c1 f0 f1 ar;go_wp2_with (at_builtin;refine iI rfl (.tmp 36) (.tmp 39) rfl (C+1) _ _ _ rfl Gq.out [.int .u8 (c.toNat:Nat)] rfl (by intro u hu;simp at hu;subst hu;rfl) (by simp only[ch,du];omega) rE ?_);intro gI fb At oe;have RA:aj (j5 fb (C+1) gI (o.kl b V (k+1))):=I (by
    unfold j5;rw[o.rH,o.ajf,nE,CU.out,ajl.out];exact At)
   have CV:aj (aI fb C 85 (.slice l1 m5 z5) (.bool bp)):=I (by
    have aa:=yk.out;unfold aI at aa ⊢;rw[oe.1.block C yk.out.lt (by intro e;have:=(Gq.out.lt C e.symm).1;omega)];exact aa)
   have ajm:aj (b2 fb (.slice l1 m5 z5) (o.wd (V/b^(k+1)))):=I (by
    have aa:j5 gj (C+1) (.slice tH k tI) (o.kl b V k):=by
     unfold j5;rw[o.rH];exact Gq.out
    refine Gp.out.grown aa (fun e=>X0.out ?_) oe.1;have:=eS List.length e;rw[o.rH] at this;exact this)
   have l0:=I (oe.below gA.out (by omega) (fun j bP=>by have:=(Gq.out.lt j bP).1;omega));have wz:aj (C+1≤fb.heap.size):=I (cp rE oe.1.size);have Qf:aj (k+1=0∨V/b^(k+1-1)≠0):=I (.inr (by rw[nt];exact ajk.out));obtain⟨Gl,Gm,rfl⟩:=At.form;clear At oe;go_wp2;go_roundw;case rel=>exact⟨k+1,l1,z5,m5,RA.out,fun h=>absurd h (by omega),CV.out,ajm.out,Qf,Gr,l0.out,wz.out⟩
   case measure=>simp;omega
namespace o
def gB:List UInt8:=[48,49,50,51,52,53,54,55,56,57]
theorem wA (c:UInt8):c ∈ gB↔dg c<10:=by
 have:∀n,n<256→(UInt8.ofNat n ∈ gB↔dg (UInt8.ofNat n)<10):=by decide
 have:=this c.toNat c.toNat_lt;simpa using this
theorem ajn {c:UInt8} {r:Int} (h:Gc gB c r) (an:c ∈ gB):r=(dg c:Nat):=by
 rcases h with ⟨k,aA,rfl⟩ | ⟨aB,_⟩
 ·have:∀k,k<10→∀c,gB[k]? = U c→dg c=k:=by decide
  have ajo:k<10:=(List.getElem?_eq_some_iff.1 aA).1;rw[this k ajo c aA]
 ·exact absurd an aB
theorem ajp {t:List UInt8} (ar:t≠[]) (aL:∀c ∈ t,c ∈ gB) (hh:t.head? = U 48→t.length=1):nK 10 t (ep 10 (t.map dg)):=by
 refine⟨by simpa using ar,?_,?_,rfl⟩
 ·intro d P2;obtain⟨c,an,rfl⟩:=List.mem_map.1 P2;exact (wA c).1 (aL c an)
 ·intro aX;rw[rh];apply hh;cases t with
  | nil=>exact absurd rfl ar
  | cons c t=>
    simp at aX ⊢;have an:=(wA c).1 (aL c (by simp));have e:=Rt (c:=c) (by omega);rw[aX] at e;rw[←e];rfl
theorem ajq {t:List UInt8} (ar:t≠[]) (aL:∀c ∈ t,c ∈ gB) (hh:t.head?≠U 48):ep 10 (t.map dg)≠0:=by
 have:=XR (b:=10) (by decide) (ds:=t.map dg) rfl (by simpa using ar) (by
  intro aX;apply hh;cases t with
  | nil=>exact absurd rfl ar
  | cons c t=>
    simp at aX ⊢;have an:=(wA c).1 (aL c (by simp));have e:=Rt (c:=c) (by omega);rw[aX] at e;rw[←e];rfl)
 omega
theorem X1 {g:Bool} {t:List UInt8} (ar:t≠[]) (aL:∀c ∈ t,c ∈ gB) (hh:t.head? = U 48→t.length=1) (aY:g=true→t.head?≠U 48) :
 fl 10 (if g then 45::t else t) (cy g (ep 10 (t.map dg))):=by
 have an:=ajp ar aL hh;cases g
 ·unfold fl cy;rw[aU (by simp)];simpa using an
 ·have aD:=ajq ar aL (aY rfl);unfold fl cy;simp only[oW];rw[ba (by omega)];exact⟨t,rfl,by simpa using an⟩
theorem X2 {g:Bool} {t:List UInt8} {c:UInt8} (an:c ∈ t) (aB:c ∉ gB) (aY:g=ab→t.head?≠U 45) (n:Int):¬ fl 10 (if g then 45::t else t) n:=by
 have key:∀V,¬ nK 10 t V:=fun V h=>aB ((wA c).2 (h.lt (dg c) (List.mem_map.2 ⟨c,an,rfl⟩)));intro h;unfold fl at h;cases g
 ·simp only[oL,oV] at h;split at h
  ·obtain⟨jR,rfl,_⟩:=h;exact aY rfl rfl
  ·exact key _ h
 ·simp only[oW] at h;split at h
  ·obtain⟨jR,e,h⟩:=h;simp at e;subst e;exact key _ h
  ·exact Gi (by decide) h rfl
theorem X3 (n:Int):¬ fl 10 [] n:=by
 intro h;unfold fl at h;split at h
 ·obtain⟨t,e,_⟩:=h;cases e
 ·exact h.ne rfl
theorem X4 (n:Int):¬ fl 10 [45] n:=by
 intro h;unfold fl at h;split at h
 ·obtain⟨t,e,h⟩:=h;simp at e;subst e;exact h.ne rfl
 ·exact Gi (by decide) h rfl
theorem X5 {r:List UInt8} {V:Nat} (h:nK 10 (48::r) V):r=[]∧V=0:=by
 have aa:=h.head (by simp;decide);have ae:r=[]:=by simpa using aa
 subst ae;exact⟨rfl,by rw[←h.val];decide⟩
theorem X6 (r:List UInt8) (n:Int):¬ fl 10 (45::48::r) n:=by
 intro h;unfold fl at h;split at h
 ·obtain⟨t,e,h⟩:=h;simp at e;subst e;have:=(X5 h).2;omega
 ·exact Gi (by decide) h rfl
theorem X7 (d:UInt8) (r:List UInt8) (n:Int):¬ fl 10 (48::d::r) n:=by
 intro h;unfold fl at h;split at h
 ·obtain⟨t,e,h⟩:=h;simp at e
 ·have:=(X5 h).1;cases this
end o
theorem abT (v:aw) (neg:Bool) (xs:List Nat) (n:Int) (w:af) (aB:cy neg (o.num xs)=n) (h:b2 w v xs) (ao:xs.length≤10000) (hx:o.dI xs) :
 aq ak 57 #[.agg #[v,.bool neg]] w (hX w n):=by
 by_cases az:o.bO n
 ·have aa:=Kh v xs neg w h ao hx (by rw[o.CI hx];exact o.oa (by rw[CO aB];exact az));rw[show FR w neg xs=fun e w'=>e=.returned (.tuple #[cO (neg && !(o.bytesOf xs).isEmpty) (o.bytesOf xs),.int .i64 0])∧ah w.heap.size w w' from rfl,o.CI hx,o.sy,CN aB] at aa;unfold hX e7;rw[ba az];exact aa
 ·have cD:aj (∀W,ah w.heap.size w W→aq ak 62 #[v,.bool neg] W fun e w'=>e=.returned (bz n)∧ah W.heap.size W w'):=I (fun W jy=>by
   have aa:=FM v xs neg W (h.below jy) ao hx;rw[show Cu W neg xs=fun e w'=>e=.returned (cO (neg && !(o.bytesOf xs).isEmpty) (o.bytesOf xs))∧ah W.heap.size W w' from rfl,o.CI hx,o.sy,CN aB] at aa;exact aa)
  have cM:aj (e7 n=.tuple #[.agg #[.bool ab,.string ⟨#[]⟩],.int .i64 92]):=I (by unfold e7;rw[aU az];rfl);have hlen:4096<(o.bs n.natAbs).length:=by
   rcases eh 4096 (o.bs n.natAbs).length with aa | aa
   ·exact aa
   ·exfalso;apply az;have ae:=o.ru (o.bs n.natAbs);rw[o.lC] at ae;exact o.ye (b:=4096) ae aa
  obtain⟨S,cP⟩:∃S,ax (o.bs n.natAbs)=S:=⟨_,rfl⟩;obtain⟨g,aY⟩:∃g,au (n<0)=g:=⟨_,rfl⟩;have aH:bz n=.agg #[.bool g,.string S]:=by unfold bz cO;rw[cP,aY]
  have KL:4096<S.size:=by rw[←cP];exact hlen
  have b5:au ((4096:Int)<(S.size:Int))=true:=bE (by omega);rw[aH] at cD;obtain⟨c7,fj,rfl⟩:=h.form;generalize xs.length=m at *;clear h az aB hx hlen cP aY aH;unfold hX;obtain⟨cG,fy⟩:∃cG,(w.alloc (.cells #[.slice c7 m fj,.bool neg] 85)).alloc (.cells #[.bool ab,.string ⟨#[]⟩] 46)=cG:=⟨_,rfl⟩;have dP:ah w.heap.size w cG:=by rw[←fy];exact ((aK _ _).alloc (aC _) _).alloc (by simp) _
  have bG:aj (aI cG (w.heap.size+1) 46 (.bool ab) (.string ⟨#[]⟩)):=I (by
   rw[←fy];have:=aI.new (w.alloc (.cells #[.slice c7 m fj,.bool neg] 85)) 46 (.bool ab) (.string ⟨#[]⟩);simpa using this)
  have aO:aj (aI cG w.heap.size 85 (.slice c7 m fj) (.bool neg)):=I (by
   rw[←fy];exact (aI.new _ _ _ _).alloc _)
  have dY:w.heap.size+2≤cG.heap.size:=by rw[←fy];simp
  obtain⟨cn,bY,_,_⟩:=aO.out.cells;rw[cM.out];go_enter func57,Pq;go_wp2_with fail;refine (cD.out _ (by exact dP)).mono ?_;rintro e cc ⟨rfl,cK⟩;have bu:=I (chain dP cK (by omega));have dL:w.heap.size+2≤cc.heap.size:=cp dY cK.size;have kX:=I ((bG.out.below cK).alloc (.cells #[.bool g,.string S] 46));obtain⟨cl,bH,f0,f1⟩:=kX.out.cells;clear cK cn bY aO fy dP bG;go_wp2_with fail;have ht:=kX.out.set (.bool ab) (.string ⟨#[]⟩);obtain⟨aM,aG,_,_⟩:=ht.cells;refine bI (v:=.tuple #[.agg #[.bool ab,.string ⟨#[]⟩],.int .i64 92]) (by simp[results,OE,go_sem,aM,aG]) rfl ⟨rfl,fG (bu.out.alloc (by omega) _) (by omega) _ _⟩
end Go.Proofs.YtkhphoonnkoipaaGreatDoor
