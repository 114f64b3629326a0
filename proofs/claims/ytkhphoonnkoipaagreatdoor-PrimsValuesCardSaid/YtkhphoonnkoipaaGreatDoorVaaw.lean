/- Lemmas. -/
import Derived.Test.YtkhphoonnkoipaaGreatDoorVaav
import Derived.Test.YtkhphoonnkoipaaGreatDoorVaat
set_option linter.all false
set_option maxHeartbeats 8000000
set_option maxRecDepth 4000
open Go.Proofs.Tryz Go.RowKit Go.Lib
open Option renaming none→J,some→U
open Bool renaming true→ai,false→ab
open Decidable renaming decide→au
open Go renaming World→af,Value→aw,Calls→aq,Ending→jA,results→bK,callFunc→sK
open Go.RowKit renaming Below→ah,Hid→aj
open Go.Proofs.Tryz renaming prog→ak
namespace Go.Proofs.YtkhphoonnkoipaaGreatDoor
theorem alv:(prog.info? 48).map (fun i=>(i.zero,i.size,i.bytes))=U (U (.agg #[.int .u8 0,.int .i64 0,.int .u64 0,.string ⟨#[]⟩,.slice J 0 0,.bool ab,.string ⟨#[]⟩]),7,88):=by kernel_rfl
theorem yC (w:af):(zeroValue 40).run ak w=.ok (.agg #[.string ⟨#[]⟩,.nilFunc]) w:=by kernel_rfl
theorem dF {f:FuncId} {fn:Func} {c:Code} (bd:prog.funcs[f]? = U fn) (alw:(fn.name == "runtime.NumGoroutine")=ab) (ad:fn.body=U c) (args:Array aw) (w:af):(sK f args).run ak w=.ok (.enter f args) w:=by
 have aa:fn.name≠ "runtime.NumGoroutine":=by simpa using alw
 simp[sK,bd,aa,ad]
def AN (l:List bB):List aw:=l.flatMap bB.cells
theorem bB.aaI (x:bB):x.cells.length=7:=rfl
theorem alx (l:List bB) (x:bB):AN (l++[x])=AN l++x.cells:=by simp[AN]
theorem aly {l:List bB} {i:Nat} {x:bB} (h:l[i]? = U x) {j:Nat} {u:aw} (hu:x.cells[j]? = U u):(AN l)[i*7+j]? = U u:=by
 induction l generalizing i with
 | nil=>simp at h
 | cons y l dw=>
   unfold AN;rw[List.flatMap_cons];cases i with
   | zero=>
     simp at h;subst h;have bP:j<y.cells.length:=(List.getElem?_eq_some_iff.1 hu).1;rw[vN,hc,II bP];exact hu
   | succ i=>
     rw[Bx (by rw[bB.aaI];omega),bB.aaI,show (i+1)*7+j-7=i*7+j by omega];exact dw (by simpa using h)
def tW (w:af) (base:Nat) (v:aw) (l:List bB):Prop:=cB w base 48 7 v l.length (AN l)
theorem tW.row {w:af} {base:Nat} {v:aw} {l:List bB} (h:tW w base v l) (ar:l≠[]):e2 w v l:=by
 have aB:0<l.length:=List.length_pos_iff.2 ar;obtain⟨g,cap,rfl,_,aY,_⟩:=cB.yb h aB;exact⟨g,cap,rfl,aY,fun i x hx j u hu=>cB.cellAt h (aly hx hu)⟩
theorem aaJ {ops:Array Oper} {rest:List Oper} {a7:Oper} {a:Act} {Q:Exit→Act→af→Prop} {w:af} (eT:a7.guard=J) (s x:Operand)
 (b6:a7.op=.call { callee:=.builtin .append,args:=#[s,x],argTypes:=#[44,44] }) (base:Nat) (v:aw) (l:List bB) (a1:a.eval s=v) (dq:tW w base v l)
 (y:bB) (cs:Array aw) (an:cs.toList=y.cells) (hx:a.eval x=.slice (U ⟨w.heap.size,0,J⟩) 1 1) (aD:y.v.oneCell'=ai) (hlen:l.length≤1000) (tn:base≤w.heap.size)
 (h:∀dv w',tW w' base dv (l++[y])→Grow w v w' dv→wpList ak ops Q rest (a.put a7.dst dv) w'):wpList ak ops Q (a7::rest) a (w.alloc (.cells cs 48)):=by
 obtain⟨i0,aV,eo,eP,eL⟩:=oU alv;refine J4 eT s x 44 b6 base 48 i0 _ 7 88 underlying44 aV eo eP eL rfl v l.length (AN l) a1 (cB.alloc dq _) ⟨w.heap.size,0,J⟩ 1 1 y.cells hx rfl ?_ ?_ (by unfold maxLen;omega) (by omega) (by simp;omega) ?_
 ·intro j u bP;rw[B2,hc,ze,←q',an];exact bP
 ·intro u hu;unfold bB.cells at hu;simp only[uB,zp,zI] at hu;rcases hu with rfl | rfl | rfl | rfl | rfl | rfl | rfl<;>first | rfl | exact aD
 ·intro dv w' sn Fw;refine h dv w' ?_ ((Grow.alloc w v _).trans Fw);unfold tW;rw[ey,alx];exact sn
structure fo where
 k:Int
 n:Int
 b:Int
 t:ByteArray
 v:aw
def fo.cells (x:fo):List aw:=[.int .u8 x.k,.int .i64 x.n,.int .u64 x.b,.string x.t,x.v]
def fo.lit (x:fo):aw:=bw x.k x.n x.b x.t x.v
def nO (w:af) (v:aw) (l:List fo):Prop:=∃g cap,v=.slice (U ⟨g,0,J⟩) l.length cap∧g<w.heap.size∧∀(i:Nat) (x:fo),l[i]? = U x→∀(j:Nat) (u:aw),x.cells[j]? = U u→w.cell? ⟨g,i*5+j,J⟩=U u
def h0 (w:af) (P:Int→Int→Int→ByteArray→Bool→Prop) (e:jA) (w':af):Prop:=∃k n b t is,P k n b t is∧e=.returned (.tuple #[bw k n b t (.slice J 0 0),.bool is])∧ah w.heap.size w w'
def SH (w:af) (P:Int→Int→Int→ByteArray→Bool→Prop) (e:jA) (w':af):Prop:=∃k n b t is,P k n b t is∧e=.returned (.tuple #[if is then bw k n b t (.slice J 0 0) else iA,.bool is])∧ah w.heap.size w w'
def eZ (aR:af) (n:Int) (cg:ByteArray) (fn:Nat) (vs:List bB) (P:Int→Int→Int→ByteArray→Bool→Prop):Prop:=
 ∀W,ah aR.heap.size aR W→aq ak 13 #[] W fun e bW=>∃b L gZ,e=.returned (.map (U b))∧eR bW b L∧ah W.heap.size W bW∧db L n=U (cS cg (.func (.func fn) #[] gZ))∧
   ∀cG v,ah bW.heap.size bW cG→e2 cG v vs→aq ak fn (#[v]++gZ) cG (h0 cG P)
def LA (w:af) (v:aw) (l:List fo):Prop:=∃g rR cap,v=.slice (U ⟨g,rR,J⟩) l.length cap∧g<w.heap.size∧∀(i:Nat) (x:fo),l[i]? = U x→∀(j:Nat) (u:aw),x.cells[j]? = U u→w.cell? ⟨g,rR+i*5+j,J⟩=U u
theorem nO.a7 {w:af} {v:aw} {l:List fo} (h:nO w v l):LA w v l:=by
 obtain⟨g,cap,aa,ae,aJ⟩:=h;exact⟨g,0,cap,aa,ae,fun i x hx j u hu=>by rw[hc];exact aJ i x hx j u hu⟩
theorem aaK (n:Int) (cg:ByteArray) (fn:Nat) (vs:List bB) (cb:List fo) (P:Int→Int→Int→ByteArray→Bool→Prop) (fu:aw) (w:af) (aB:-1000000≤n∧n≤1000000) (ao:LA w fu cb) (tX:cg.size=cb.length) (nP:vs.length=cb.length) (ar:0<cb.length) (h5:cb.length≤100)
 (jV:∀args W,(sK fn args).run ak W=.ok (.enter fn args) W) (dZ:eZ w n cg fn vs P) (nl:∀y ∈ vs,∃a l c,y.v=.slice a l c) (hQ:∀x ∈ cb,∃a l c,x.v=.slice a l c)
 (rS:∀(i:Nat) (x:fo) (y:bB) (h:i<cg.size),cb[i]? = U x→vs[i]? = U y→∀W,aq ak 14 #[x.lit,.int .u8 (cg[i]'h).toNat] W fun e bW=>e=.returned (.tuple #[hA y.k y.n y.b y.t y.v y.g y.s,.bool ai])∧ah W.heap.size W bW) :
 aq ak 6 #[.int .i64 n,fu] w (SH w P):=by
 obtain⟨nQ,rR,Xg,rfl,SI,G2⟩:=ao;obtain⟨m,hm⟩:∃m,cb.length=m:=⟨_,rfl⟩;have di:=I hm;rw[hm] at tX nP ar h5 ⊢;have sA:=I nP;have qE:=I G2;have sL:=I rS;have bc:=I dZ;have LB:=I jV;have LC:=I nl;have LD:=I hQ;clear hm nP G2 rS dZ jV nl hQ;obtain⟨ag,a6⟩:∃ag,w.alloc (.cells #[.int .u8 0,.int .i64 0,.int .u64 0,.string ⟨#[]⟩,.slice J 0 0] 28)=ag:=⟨_,rfl⟩;have aO:aj (bk ag w.heap.size (.int .u8 0) (.int .i64 0) (.int .u64 0) (.string ⟨#[]⟩) (.slice J 0 0)):=I (by rw[←a6];exact bk.new _ _ _ _ _ _);have ay:aj (ah w.heap.size w ag):=I (by rw[←a6];exact (aK _ _).alloc (aC _) _);have dH:w.heap.size+1≤ag.heap.size:=by rw[←a6];simp
 have oy:=yC;go_enter JO,JE;go_wp2_with fail;refine (bc.out _ ay.out).mono ?_;rintro e aP ⟨b,L,gZ,rfl,lb,bg,ld,aaL⟩;have ks:=look_ok lb (t:=42) hl (oy aP) n aB;rw[ld] at ks;simp only[cS] at ks;have aaM:=I aaL;have c8:=I (aO.out.below bg);have bL:=I (chain ay.out bg (by omega));have dY:w.heap.size+1≤aP.heap.size:=cp dH bg.size;obtain⟨aZ,bl⟩:∃aZ,aP.alloc (.cells #[.string cg,.func (.func fn) #[] gZ] 40)=aZ:=⟨_,rfl⟩;have cK:ah aP.heap.size aP aZ:=by rw[←bl];exact (aK _ _).alloc (aC _) _
 have cI:aj (aI aZ aP.heap.size 40 (.string cg) (.func (.func fn) #[] gZ)):=I (by rw[←bl];exact aI.new _ _ _ _);have jU:=I (c8.out.below cK);have bu:=I (chain bL.out cK (by omega));have SJ:=I cK;have dL:aP.heap.size+1≤aZ.heap.size:=by rw[←bl];simp
 clear bg lb ld aaL cK a6 aO ay c8 bL;obtain⟨aM,aG,_,_⟩:=cI.out.cells;have uW:((cg.size:Int)==(m:Int))=ai:=by rw[gy];omega
 have SK:(cg.size:Int)=(m:Int):=by omega
 go_wp2;go_loopw [8,33] (fun LF i wr=>∃j:Nat,j≤m∧i=.int .i64 j∧tW wr aZ.heap.size LF (vs.take j)∧ah aZ.heap.size aZ wr) (fun _ i _=>m-(RowKit.intOf i).toNat);case atStart=>exact⟨0,il _,rfl,by rw[List.take_zero];exact cB.nil _ _ _ _,aK _ _⟩
 case round=>
  obtain⟨j,bP,rfl,dq,ad⟩:=hrel;have jC:=I dq;have l7:=I ad;have pQ:=ad.size;obtain⟨tH,tI,rfl⟩:=dq.form;have p1:(vs.take j).length=j:=by rw[gN,sA.out];omega
  rw[p1] at jC ⊢;clear dq ad;by_cases bV:j<m
  ·obtain⟨x,hx⟩:∃x,cb[j]? = U x:=⟨_,eE (by rw[di.out];exact bV)⟩;obtain⟨y,aW⟩:∃y,vs[j]? = U y:=⟨_,eE (by rw[sA.out];exact bV)⟩;have aE:j<cg.size:=by omega
   have bF:=I (sL.out j x y aE hx aW);obtain⟨eB,ig,eC,nR⟩:=LC.out y (r9 aW);obtain⟨cx,dp,ct,hQ⟩:=LD.out x (r9 hx);have qT:aj (vs.take (j+1)=vs.take j++[y]):=I (by
    have p2:j<vs.length:=by rw[sA.out];exact bV
    rw[kc p2];rw[eE p2] at aW;injection aW with aW;rw[aW])
   have fO:∀(q:Nat) (u:aw),x.cells[q]? = U u→wr.cell? ⟨nQ,rR+j*5+q,J⟩=U u:=fun q u hu=>by
    rw[l7.out.cell (p:=⟨nQ,rR+j*5+q,J⟩) (by show nQ<_;omega),bu.out.cell (p:=⟨nQ,rR+j*5+q,J⟩) SI];exact qE.out j x hx q u hu
   have a0:wr.cell? ⟨nQ,rR+j*5,J⟩=U (.int .u8 x.k):=fO 0 _ rfl;have b1:=fO 1 _ rfl;have a2:=fO 2 _ rfl;have a3:=fO 3 _ rfl;have a4:=fO 4 _ rfl;have G3:wr.cell? ⟨aP.heap.size,0,J⟩=U (.string cg):=by rw[l7.out.cell (p:=⟨aP.heap.size,0,J⟩) (by show aP.heap.size<_;omega)];exact aM
   obtain⟨AO,Lt⟩:∃AO,cg[j]'aE=AO:=⟨_,rfl⟩;rw[Lt] at bF;clear fO hx aW;obtain⟨lf,kM,lg,lh,SL⟩:=x;obtain⟨jY,jE,jo,jZ,SM,g',ys⟩:=y;simp only at hQ nR a0 b1 a2 a3 a4;subst hQ nR;obtain⟨bh,dn⟩:∃bh,wr.alloc (.cells #[.int .u8 lf,.int .i64 kM,.int .u64 lg,.string lh,.slice cx dp ct] 28)=bh:=⟨_,rfl⟩;have bf:ah wr.heap.size wr bh:=by rw[←dn];exact (aK _ _).alloc (aC _) _
   have rT:aj (bk bh wr.heap.size (.int .u8 lf) (.int .i64 kM) (.int .u64 lg) (.string lh) (.slice cx dp ct)):=I (by rw[←dn];exact bk.new _ _ _ _ _ _);have pa:wr.heap.size+1≤bh.heap.size:=by rw[←dn];simp
   have kt:bh.cell? ⟨aP.heap.size,0,J⟩=U (.string cg):=by rw[bf.cell (p:=⟨aP.heap.size,0,J⟩) (by show aP.heap.size<_;omega)];exact G3
   have dc:=I bf;clear bf;have aN:aj (∀W,ah bh.heap.size bh W→W.cell? ⟨wr.heap.size,0,J⟩=U (.int .u8 lf)∧W.cell? ⟨wr.heap.size,1,J⟩=U (.int .i64 kM)∧W.cell? ⟨wr.heap.size,2,J⟩=U (.int .u64 lg)∧W.cell? ⟨wr.heap.size,3,J⟩=U (.string lh)∧W.cell? ⟨wr.heap.size,4,J⟩=U (.slice cx dp ct)∧W.cell? ⟨aP.heap.size,0,J⟩=U (.string cg)):=I (fun W ad=>⟨(rT.out.below ad).cells.c0,(rT.out.below ad).cells.c1,(rT.out.below ad).cells.c2,(rT.out.below ad).cells.c3,(rT.out.below ad).cells.c4,by rw[ad.cell (p:=⟨aP.heap.size,0,J⟩) (by show aP.heap.size<_;omega)];exact kt⟩);have wz:aj (∀W,ah bh.heap.size bh W→∀A,bh.heap.size≤A→∀a b c d e f g,(iY W A a b c d e f g).cell? ⟨wr.heap.size,0,J⟩=U (.int .u8 lf)∧(iY W A a b c d e f g).cell? ⟨wr.heap.size,1,J⟩=U (.int .i64 kM)∧(iY W A a b c d e f g).cell? ⟨wr.heap.size,2,J⟩=U (.int .u64 lg)∧(iY W A a b c d e f g).cell? ⟨wr.heap.size,3,J⟩=U (.string lh)∧(iY W A a b c d e f g).cell? ⟨wr.heap.size,4,J⟩=U (.slice cx dp ct)∧(iY W A a b c d e f g).cell? ⟨aP.heap.size,0,J⟩=U (.string cg)):=I (fun W ad A be a b c d e f g=>aN.out _ (pd ad be a b c d e f g));unfold iY at wz;have cU:=I (show ah bh.heap.size bh bh.drew from (aK _ bh).drew);have tY:=I (show ah bh.heap.size bh (bh.alloc (.cells #[.int .u8 0,.int .i64 0,.int .u64 0,.string ⟨#[]⟩,.slice J 0 0,.bool ab,.string ⟨#[]⟩] 48)).drew from ((aK _ bh).alloc (aC _) _).drew);have k6:=I (show fB (bh.alloc (.cells #[.int .u8 0,.int .i64 0,.int .u64 0,.string ⟨#[]⟩,.slice J 0 0,.bool ab,.string ⟨#[]⟩] 48)).drew bh.heap.size (.int .u8 0) (.int .i64 0) (.int .u64 0) (.string ⟨#[]⟩) (.slice J 0 0) (.bool ab) (.string ⟨#[]⟩) from (fB.new bh _ _ _ _ _ _ _).drew);obtain⟨gK,cZ,cT,gR,lH,_,_,_,_,_⟩:=rT.out.cells;unfold fo.lit bw hA at bF;simp only at bF;go_wp2;go_region_held3 (fun W=>W.cell? ⟨wr.heap.size,0,J⟩=U (.int .u8 lf)∧W.cell? ⟨wr.heap.size,1,J⟩=U (.int .i64 kM)∧W.cell? ⟨wr.heap.size,2,J⟩=U (.int .u64 lg)∧W.cell? ⟨wr.heap.size,3,J⟩=U (.string lh)∧W.cell? ⟨wr.heap.size,4,J⟩=U (.slice cx dp ct)∧W.cell? ⟨aP.heap.size,0,J⟩=U (.string cg)) (first | with_reducible exact⟨gK,cZ,cT,gR,lH,kt⟩ | with_reducible exact aN.out _ cU.out | with_reducible exact aN.out _ tY.out | with_reducible exact aN.out _ cL | (with_reducible refine aN.out _ ?_;exact cL.alloc cL.size _) | (with_reducible refine wz.out _ cL _ ?_ _ _ _ _ _ _ _;omega)) ((go_at_call 14;(with_reducible refine (bF.out _).mono ?_);rintro e cw ⟨rfl,l8⟩;(first | (have qQ:=I (k6.out.below l8);have cL:ah bh.heap.size bh cw:=tY.out.trans (l8.mono tY.out.size);obtain⟨z0,n5,z2,z3,z4,z5,G4,l9,ou,a',y3,y4,l1,y6⟩:=qQ.out.cells) | (have cL:ah bh.heap.size bh cw:=cU.out.trans l8));clear l8));all_goals
    clear gK cZ cT gR lH a0 b1 a2 a3 a4 G3 kt aN wz;first
    | (have cM:=I (qQ.out.set (.int .u8 jY) (.int .i64 jE) (.int .u64 jo) (.string jZ) (.slice eB ig eC) (.bool g') (.string ys))
       have ph:=I (pd cL (aC _) (.int .u8 jY) (.int .i64 jE) (.int .u64 jo) (.string jZ) (.slice eB ig eC) (.bool g') (.string ys));clear z0 n5 z2 z3 z4 z5 G4 l9 ou a' y3 y4 l1 y6 qQ;unfold iY at cM ph;generalize AP:((((((cw.setCell ⟨bh.heap.size,0,J⟩ (.int .u8 jY)).setCell ⟨bh.heap.size,1,J⟩ (.int .i64 jE)).setCell ⟨bh.heap.size,2,J⟩ (.int .u64 jo)).setCell ⟨bh.heap.size,3,J⟩ (.string jZ)).setCell ⟨bh.heap.size,4,J⟩ (.slice eB ig eC)).setCell ⟨bh.heap.size,5,J⟩ (.bool g')).setCell ⟨bh.heap.size,6,J⟩ (.string ys)=G5 at cM ph ⊢;clear AP)
    | (have cM:=I (fB.new cw (.int .u8 jY) (.int .i64 jE) (.int .u64 jo) (.string jZ) (.slice eB ig eC) (.bool g') (.string ys))
       have ph:=I (cL.alloc cL.size (.cells #[.int .u8 jY,.int .i64 jE,.int .u64 jo,.string jZ,.slice eB ig eC,.bool g',.string ys] 48));generalize AP:cw.alloc (.cells #[.int .u8 jY,.int .i64 jE,.int .u64 jo,.string jZ,.slice eB ig eC,.bool g',.string ys] 48)=G5 at cM ph ⊢;clear AP)
    clear cL;have eY:=I (dc.out.trans (ph.out.mono (by omega)));have Dc:aj (tW G5 aZ.heap.size (.slice tH j tI) (vs.take j)):=I (cB.below jC.out eY.out (fun k aA=>(cB.lt jC.out k aA).2));have mD:=eY.out.size;obtain⟨v0,v1,v2,v3,v4,v5,v6,_,_,_,_,_,_,_⟩:=cM.out.cells;go_wp2_with (at_builtin;refine aaJ rfl (.tmp 50) (.tmp 52) rfl aZ.heap.size _ (vs.take j) rfl Dc.out ⟨jY,jE,jo,jZ,.slice eB ig eC,g',ys⟩ _ rfl rfl rfl (by rw[p1];omega) (by omega) ?_);intro SN hM mx oj;have SO:aj (tW hM aZ.heap.size SN (vs.take (j+1))):=I (by rw[qT.out];exact mx);have ku:=I (oj.below (l7.out.trans (eY.out.mono pQ)) (by omega) (fun k aA=>(cB.lt Dc.out k aA).1));obtain⟨alz,alA,rfl⟩:=mx.form;clear mx oj;go_wp2;go_roundw;case rel=>exact⟨j+1,by omega,by go_num,SO.out,ku.out⟩
    case measure=>simp[RowKit.intOf];omega
  ·obtain rfl:j=m:=by omega
   have AQ:vs.take j=vs:=fp (by rw[sA.out];exact aC _);have aaN:e2 wr (.slice tH j tI) vs:=by
    have aa:=jC.out;rw[AQ] at aa;exact aa.row (by intro e;have:=sA.out;rw[e] at this;simp at this;omega)
   have aaO:=I (aaM.out wr (.slice tH j tI) (SJ.out.trans (l7.out.mono (by omega))) aaN);have jV:=LB.out;have fx:wr.cell? ⟨aP.heap.size,1,J⟩=U (.func (.func fn) #[] gZ):=by rw[l7.out.cell (p:=⟨aP.heap.size,1,J⟩) (by show aP.heap.size<_;omega)];exact aG
   have G6:=I (jU.out.under l7.out (by omega));have hW:=I (bu.out.trans (l7.out.mono (by omega)));clear aaN AQ;go_wp2_with fail;refine aaO.out.mono ?_;rintro e yr ⟨Dd,De,Df,t9,alB,aaP,rfl,Dg⟩;have SP:=I (G6.out.below Dg);have wy:=I (hW.out.trans (Dg.mono (by omega)));have aaQ:=I aaP;have SQ:=I (SP.out.alloc (.cells #[.int .u8 Dd,.int .i64 De,.int .u64 Df,.string t9,.slice J 0 0] 28));have sM:=I (wy.out.alloc (by have:=SP.out.lt;omega) (.cells #[.int .u8 Dd,.int .i64 De,.int .u64 Df,.string t9,.slice J 0 0] 28));clear Dg aaP SP wy G6 hW aM aG fx jV aaM bc sL LB LD LC qE aaO jC l7 SJ bu cI sA di ks oy bl SK uW;obtain⟨c0,c1,c2,c3,c4,f0,f1,f2,f3,f4⟩:=SQ.out.cells;unfold bw;cases alB
   ·go_wp2_with fail;obtain⟨cl,bH,cN,fV,ie,_,_,_,_,_⟩:=(SQ.out.set (.int .u8 0) (.int .i64 0) (.int .u64 0) (.string ⟨#[]⟩) (.slice J 0 0)).cells;exact bI (v:=.tuple #[.agg #[.int .u8 0,.int .i64 0,.int .u64 0,.string ⟨#[]⟩,.slice J 0 0],.bool ab]) (by simp[bK,ET,go_sem,cl,bH,cN,fV,ie]) rfl ⟨Dd,De,Df,t9,ab,aaQ.out,rfl,dG sM.out (aC _) _ _ _ _ _⟩
   ·go_wp2_with fail;obtain⟨cl,bH,cN,fV,ie,_,_,_,_,_⟩:=(SQ.out.set (.int .u8 Dd) (.int .i64 De) (.int .u64 Df) (.string t9) (.slice J 0 0)).cells;exact bI (v:=.tuple #[.agg #[.int .u8 Dd,.int .i64 De,.int .u64 Df,.string t9,.slice J 0 0],.bool ai]) (by simp[bK,ET,go_sem,cl,bH,cN,fV,ie]) rfl ⟨Dd,De,Df,t9,ai,aaQ.out,rfl,dG sM.out (aC _) _ _ _ _ _⟩
theorem aaR (n:Int) (cg:ByteArray) (fn:Nat) (vs:List bB) (cb:List fo) (P:Int→Int→Int→ByteArray→Bool→Prop) (fu:aw) (w:af) (aB:-1000000≤n∧n≤1000000) (ao:nO w fu cb) (tX:cg.size=cb.length) (nP:vs.length=cb.length) (ar:0<cb.length) (h5:cb.length≤100)
 (jV:∀args W,(sK fn args).run ak W=.ok (.enter fn args) W) (dZ:eZ w n cg fn vs P) (nl:∀y ∈ vs,∃a l c,y.v=.slice a l c) (hQ:∀x ∈ cb,∃a l c,x.v=.slice a l c)
 (rS:∀(i:Nat) (x:fo) (y:bB) (h:i<cg.size),cb[i]? = U x→vs[i]? = U y→∀W,aq ak 14 #[x.lit,.int .u8 (cg[i]'h).toNat] W fun e bW=>e=.returned (.tuple #[hA y.k y.n y.b y.t y.v y.g y.s,.bool ai])∧ah W.heap.size W bW) :
 aq ak 6 #[.int .i64 n,fu] w (SH w P):=
 aaK n cg fn vs cb P fu w aB ao.a7 tX nP ar h5 jV dZ nl hQ rS
theorem aaT (n:Int) (cg:ByteArray) (i0:Nat) (vs:List bB) (cb:List fo) (fu:aw) (w:af) (aB:-1000000≤n∧n≤1000000) (ao:LA w fu cb) (tX:cg.size=cb.length) (nP:vs.length=cb.length) (ar:0<cb.length) (h5:cb.length≤100)
 (ls:i0<cb.length) (dZ:∀W,aq ak 13 #[] W fun e bW=>∃b L fn gZ,e=.returned (.map (U b))∧eR bW b L∧ah W.heap.size W bW∧db L n=U (cS cg (.func (.func fn) #[] gZ))) (nl:∀y ∈ vs,∃a l c,y.v=.slice a l c) (hQ:∀x ∈ cb,∃a l c,x.v=.slice a l c)
 (rS:∀(i:Nat) (x:fo) (y:bB) (h:i<cg.size),i≤i0→cb[i]? = U x→vs[i]? = U y→∀W,aq ak 14 #[x.lit,.int .u8 (cg[i]'h).toNat] W fun e bW=>e=.returned (.tuple #[hA y.k y.n y.b y.t y.v y.g y.s,.bool (au (i≠i0))])∧ah W.heap.size W bW) :
 aq ak 6 #[.int .i64 n,fu] w fun e w'=>e=.returned (.tuple #[iA,.bool ab])∧ah w.heap.size w w':=by
 obtain⟨nQ,rR,Xg,rfl,SI,G2⟩:=ao;obtain⟨m,hm⟩:∃m,cb.length=m:=⟨_,rfl⟩;have di:=I hm;rw[hm] at tX nP ar h5 ls ⊢;have sA:=I nP;have qE:=I G2;have sL:=I rS;have bc:=I dZ;have LC:=I nl;have LD:=I hQ;clear hm nP G2 rS dZ nl hQ;obtain⟨ag,a6⟩:∃ag,w.alloc (.cells #[.int .u8 0,.int .i64 0,.int .u64 0,.string ⟨#[]⟩,.slice J 0 0] 28)=ag:=⟨_,rfl⟩;have aO:aj (bk ag w.heap.size (.int .u8 0) (.int .i64 0) (.int .u64 0) (.string ⟨#[]⟩) (.slice J 0 0)):=I (by rw[←a6];exact bk.new _ _ _ _ _ _);have ay:aj (ah w.heap.size w ag):=I (by rw[←a6];exact (aK _ _).alloc (aC _) _);have dH:w.heap.size+1≤ag.heap.size:=by rw[←a6];simp
 have oy:=yC;go_enter JO,JE;go_wp2_with fail;refine (bc.out _).mono ?_;rintro e aP ⟨b,L,fn,gZ,rfl,lb,bg,ld⟩;have ks:=look_ok lb (t:=42) hl (oy aP) n aB;rw[ld] at ks;simp only[cS] at ks;have c8:=I (aO.out.below bg);have bL:=I (chain ay.out bg (by omega));have dY:w.heap.size+1≤aP.heap.size:=cp dH bg.size;obtain⟨aZ,bl⟩:∃aZ,aP.alloc (.cells #[.string cg,.func (.func fn) #[] gZ] 40)=aZ:=⟨_,rfl⟩;have cK:ah aP.heap.size aP aZ:=by rw[←bl];exact (aK _ _).alloc (aC _) _
 have cI:aj (aI aZ aP.heap.size 40 (.string cg) (.func (.func fn) #[] gZ)):=I (by rw[←bl];exact aI.new _ _ _ _);have jU:=I (c8.out.below cK);have bu:=I (chain bL.out cK (by omega));have SJ:=I cK;have dL:aP.heap.size+1≤aZ.heap.size:=by rw[←bl];simp
 clear bg lb ld cK a6 aO ay c8 bL;obtain⟨aM,aG,_,_⟩:=cI.out.cells;have uW:((cg.size:Int)==(m:Int))=ai:=by rw[gy];omega
 have SK:(cg.size:Int)=(m:Int):=by omega
 go_wp2;go_loopw [8,33] (fun LF i wr=>∃j:Nat,j≤i0∧i=.int .i64 j∧tW wr aZ.heap.size LF (vs.take j)∧ah aZ.heap.size aZ wr) (fun _ i _=>m-(RowKit.intOf i).toNat);case atStart=>exact⟨0,il _,rfl,by rw[List.take_zero];exact cB.nil _ _ _ _,aK _ _⟩
 case round=>
  obtain⟨j,bP,rfl,dq,ad⟩:=hrel;have jC:=I dq;have l7:=I ad;have pQ:=ad.size;obtain⟨tH,tI,rfl⟩:=dq.form;have p1:(vs.take j).length=j:=by rw[gN,sA.out];omega
  rw[p1] at jC ⊢;clear dq ad;have bV:j<m:=by omega
  ·obtain⟨x,hx⟩:∃x,cb[j]? = U x:=⟨_,eE (by rw[di.out];exact bV)⟩;obtain⟨y,aW⟩:∃y,vs[j]? = U y:=⟨_,eE (by rw[sA.out];exact bV)⟩;have aE:j<cg.size:=by omega
   have bF:=I (sL.out j x y aE bP hx aW);obtain⟨eB,ig,eC,nR⟩:=LC.out y (r9 aW);obtain⟨cx,dp,ct,hQ⟩:=LD.out x (r9 hx);have qT:aj (vs.take (j+1)=vs.take j++[y]):=I (by
    have p2:j<vs.length:=by rw[sA.out];exact bV
    rw[kc p2];rw[eE p2] at aW;injection aW with aW;rw[aW])
   have fO:∀(q:Nat) (u:aw),x.cells[q]? = U u→wr.cell? ⟨nQ,rR+j*5+q,J⟩=U u:=fun q u hu=>by
    rw[l7.out.cell (p:=⟨nQ,rR+j*5+q,J⟩) (by show nQ<_;omega),bu.out.cell (p:=⟨nQ,rR+j*5+q,J⟩) SI];exact qE.out j x hx q u hu
   have a0:wr.cell? ⟨nQ,rR+j*5,J⟩=U (.int .u8 x.k):=fO 0 _ rfl;have b1:=fO 1 _ rfl;have a2:=fO 2 _ rfl;have a3:=fO 3 _ rfl;have a4:=fO 4 _ rfl;have G3:wr.cell? ⟨aP.heap.size,0,J⟩=U (.string cg):=by rw[l7.out.cell (p:=⟨aP.heap.size,0,J⟩) (by show aP.heap.size<_;omega)];exact aM
   obtain⟨AO,Lt⟩:∃AO,cg[j]'aE=AO:=⟨_,rfl⟩;rw[Lt] at bF;obtain⟨is,qy⟩:∃is,au (j≠i0)=is:=⟨_,rfl⟩;rw[qy] at bF;clear fO hx aW;obtain⟨lf,kM,lg,lh,SL⟩:=x;obtain⟨jY,jE,jo,jZ,SM,g',ys⟩:=y;simp only at hQ nR a0 b1 a2 a3 a4;subst hQ nR;obtain⟨bh,dn⟩:∃bh,wr.alloc (.cells #[.int .u8 lf,.int .i64 kM,.int .u64 lg,.string lh,.slice cx dp ct] 28)=bh:=⟨_,rfl⟩;have bf:ah wr.heap.size wr bh:=by rw[←dn];exact (aK _ _).alloc (aC _) _
   have rT:aj (bk bh wr.heap.size (.int .u8 lf) (.int .i64 kM) (.int .u64 lg) (.string lh) (.slice cx dp ct)):=I (by rw[←dn];exact bk.new _ _ _ _ _ _);have pa:wr.heap.size+1≤bh.heap.size:=by rw[←dn];simp
   have kt:bh.cell? ⟨aP.heap.size,0,J⟩=U (.string cg):=by rw[bf.cell (p:=⟨aP.heap.size,0,J⟩) (by show aP.heap.size<_;omega)];exact G3
   have dc:=I bf;clear bf;have aN:aj (∀W,ah bh.heap.size bh W→W.cell? ⟨wr.heap.size,0,J⟩=U (.int .u8 lf)∧W.cell? ⟨wr.heap.size,1,J⟩=U (.int .i64 kM)∧W.cell? ⟨wr.heap.size,2,J⟩=U (.int .u64 lg)∧W.cell? ⟨wr.heap.size,3,J⟩=U (.string lh)∧W.cell? ⟨wr.heap.size,4,J⟩=U (.slice cx dp ct)∧W.cell? ⟨aP.heap.size,0,J⟩=U (.string cg)):=I (fun W ad=>⟨(rT.out.below ad).cells.c0,(rT.out.below ad).cells.c1,(rT.out.below ad).cells.c2,(rT.out.below ad).cells.c3,(rT.out.below ad).cells.c4,by rw[ad.cell (p:=⟨aP.heap.size,0,J⟩) (by show aP.heap.size<_;omega)];exact kt⟩);have wz:aj (∀W,ah bh.heap.size bh W→∀A,bh.heap.size≤A→∀a b c d e f g,(iY W A a b c d e f g).cell? ⟨wr.heap.size,0,J⟩=U (.int .u8 lf)∧(iY W A a b c d e f g).cell? ⟨wr.heap.size,1,J⟩=U (.int .i64 kM)∧(iY W A a b c d e f g).cell? ⟨wr.heap.size,2,J⟩=U (.int .u64 lg)∧(iY W A a b c d e f g).cell? ⟨wr.heap.size,3,J⟩=U (.string lh)∧(iY W A a b c d e f g).cell? ⟨wr.heap.size,4,J⟩=U (.slice cx dp ct)∧(iY W A a b c d e f g).cell? ⟨aP.heap.size,0,J⟩=U (.string cg)):=I (fun W ad A be a b c d e f g=>aN.out _ (pd ad be a b c d e f g));unfold iY at wz;have cU:=I (show ah bh.heap.size bh bh.drew from (aK _ bh).drew);have tY:=I (show ah bh.heap.size bh (bh.alloc (.cells #[.int .u8 0,.int .i64 0,.int .u64 0,.string ⟨#[]⟩,.slice J 0 0,.bool ab,.string ⟨#[]⟩] 48)).drew from ((aK _ bh).alloc (aC _) _).drew);have k6:=I (show fB (bh.alloc (.cells #[.int .u8 0,.int .i64 0,.int .u64 0,.string ⟨#[]⟩,.slice J 0 0,.bool ab,.string ⟨#[]⟩] 48)).drew bh.heap.size (.int .u8 0) (.int .i64 0) (.int .u64 0) (.string ⟨#[]⟩) (.slice J 0 0) (.bool ab) (.string ⟨#[]⟩) from (fB.new bh _ _ _ _ _ _ _).drew);obtain⟨gK,cZ,cT,gR,lH,_,_,_,_,_⟩:=rT.out.cells;unfold fo.lit bw hA at bF;simp only at bF;go_wp2;go_region_held3 (fun W=>W.cell? ⟨wr.heap.size,0,J⟩=U (.int .u8 lf)∧W.cell? ⟨wr.heap.size,1,J⟩=U (.int .i64 kM)∧W.cell? ⟨wr.heap.size,2,J⟩=U (.int .u64 lg)∧W.cell? ⟨wr.heap.size,3,J⟩=U (.string lh)∧W.cell? ⟨wr.heap.size,4,J⟩=U (.slice cx dp ct)∧W.cell? ⟨aP.heap.size,0,J⟩=U (.string cg)) (first | with_reducible exact⟨gK,cZ,cT,gR,lH,kt⟩ | with_reducible exact aN.out _ cU.out | with_reducible exact aN.out _ tY.out | with_reducible exact aN.out _ cL | (with_reducible refine aN.out _ ?_;exact cL.alloc cL.size _) | (with_reducible refine wz.out _ cL _ ?_ _ _ _ _ _ _ _;omega)) ((go_at_call 14;(with_reducible refine (bF.out _).mono ?_);rintro e cw ⟨rfl,l8⟩;(first | (have qQ:=I (k6.out.below l8);have cL:ah bh.heap.size bh cw:=tY.out.trans (l8.mono tY.out.size);obtain⟨z0,n5,z2,z3,z4,z5,G4,l9,ou,a',y3,y4,l1,y6⟩:=qQ.out.cells) | (have cL:ah bh.heap.size bh cw:=cU.out.trans l8));clear l8));all_goals
    clear gK cZ cT gR lH a0 b1 a2 a3 a4 G3 kt aN wz;first
    | (have cM:=I (qQ.out.set (.int .u8 jY) (.int .i64 jE) (.int .u64 jo) (.string jZ) (.slice eB ig eC) (.bool g') (.string ys))
       have ph:=I (pd cL (aC _) (.int .u8 jY) (.int .i64 jE) (.int .u64 jo) (.string jZ) (.slice eB ig eC) (.bool g') (.string ys));clear z0 n5 z2 z3 z4 z5 G4 l9 ou a' y3 y4 l1 y6 qQ;unfold iY at cM ph;generalize AP:((((((cw.setCell ⟨bh.heap.size,0,J⟩ (.int .u8 jY)).setCell ⟨bh.heap.size,1,J⟩ (.int .i64 jE)).setCell ⟨bh.heap.size,2,J⟩ (.int .u64 jo)).setCell ⟨bh.heap.size,3,J⟩ (.string jZ)).setCell ⟨bh.heap.size,4,J⟩ (.slice eB ig eC)).setCell ⟨bh.heap.size,5,J⟩ (.bool g')).setCell ⟨bh.heap.size,6,J⟩ (.string ys)=G5 at cM ph ⊢;clear AP)
    | (have cM:=I (fB.new cw (.int .u8 jY) (.int .i64 jE) (.int .u64 jo) (.string jZ) (.slice eB ig eC) (.bool g') (.string ys))
       have ph:=I (cL.alloc cL.size (.cells #[.int .u8 jY,.int .i64 jE,.int .u64 jo,.string jZ,.slice eB ig eC,.bool g',.string ys] 48));generalize AP:cw.alloc (.cells #[.int .u8 jY,.int .i64 jE,.int .u64 jo,.string jZ,.slice eB ig eC,.bool g',.string ys] 48)=G5 at cM ph ⊢;clear AP)
    clear cL;have eY:=I (dc.out.trans (ph.out.mono (by omega)));have Dc:aj (tW G5 aZ.heap.size (.slice tH j tI) (vs.take j)):=I (cB.below jC.out eY.out (fun k aA=>(cB.lt jC.out k aA).2));have mD:=eY.out.size;cases is
    ·have G6:=I (jU.out.under (l7.out.trans (eY.out.mono pQ)) (by omega));have hW:=I (bu.out.trans ((l7.out.trans (eY.out.mono pQ)).mono (by omega)));obtain⟨c0,c1,c2,c3,c4,f0,f1,f2,f3,f4⟩:=G6.out.cells;clear ks oy bl SK uW aM aG Dc ph cM;go_wp2_with fail;obtain⟨cl,bH,cN,fV,ie,_,_,_,_,_⟩:=(G6.out.set (.int .u8 0) (.int .i64 0) (.int .u64 0) (.string ⟨#[]⟩) (.slice J 0 0)).cells;exact bI (v:=.tuple #[.agg #[.int .u8 0,.int .i64 0,.int .u64 0,.string ⟨#[]⟩,.slice J 0 0],.bool ab]) (by simp[bK,ET,go_sem,cl,bH,cN,fV,ie]) rfl ⟨rfl,dG hW.out (aC _) _ _ _ _ _⟩
    ·have aaU:=jb qy;obtain⟨v0,v1,v2,v3,v4,v5,v6,_,_,_,_,_,_,_⟩:=cM.out.cells;go_wp2_with (at_builtin;refine aaJ rfl (.tmp 50) (.tmp 52) rfl aZ.heap.size _ (vs.take j) rfl Dc.out ⟨jY,jE,jo,jZ,.slice eB ig eC,g',ys⟩ _ rfl rfl rfl (by rw[p1];omega) (by omega) ?_);intro SN hM mx oj;have SO:aj (tW hM aZ.heap.size SN (vs.take (j+1))):=I (by rw[qT.out];exact mx);have ku:=I (oj.below (l7.out.trans (eY.out.mono pQ)) (by omega) (fun k aA=>(cB.lt Dc.out k aA).1));obtain⟨alz,alA,rfl⟩:=mx.form;clear mx oj;go_wp2;go_roundw;case rel=>exact⟨j+1,by omega,by go_num,SO.out,ku.out⟩
     case measure=>simp[RowKit.intOf];omega
theorem alD (n:Int) (cg:ByteArray) (i0:Nat) (vs:List bB) (cb:List fo) (fu:aw) (w:af) (aB:-1000000≤n∧n≤1000000) (ao:nO w fu cb) (tX:cg.size=cb.length) (nP:vs.length=cb.length) (ar:0<cb.length) (h5:cb.length≤100)
 (ls:i0<cb.length) (dZ:∀W,aq ak 13 #[] W fun e bW=>∃b L fn gZ,e=.returned (.map (U b))∧eR bW b L∧ah W.heap.size W bW∧db L n=U (cS cg (.func (.func fn) #[] gZ))) (nl:∀y ∈ vs,∃a l c,y.v=.slice a l c) (hQ:∀x ∈ cb,∃a l c,x.v=.slice a l c)
 (rS:∀(i:Nat) (x:fo) (y:bB) (h:i<cg.size),cb[i]? = U x→vs[i]? = U y→∀W,aq ak 14 #[x.lit,.int .u8 (cg[i]'h).toNat] W fun e bW=>e=.returned (.tuple #[hA y.k y.n y.b y.t y.v y.g y.s,.bool (au (i≠i0))])∧ah W.heap.size W bW) :
 aq ak 6 #[.int .i64 n,fu] w fun e w'=>e=.returned (.tuple #[iA,.bool ab])∧ah w.heap.size w w':=
 aaT n cg i0 vs cb fu w aB ao.a7 tX nP ar h5 ls dZ nl hQ fun i x y h _ aa ae=>rS i x y h aa ae
theorem alE (n:Int) (cg:ByteArray) (f:aw) (w:af) (aB:-1000000≤n∧n≤1000000) (bd:∃fn gZ,f=.func (.func fn) #[] gZ)
 (dZ:∀W,aq ak 13 #[] W fun e bW=>∃b L,e=.returned (.map (U b))∧eR bW b L∧ah W.heap.size W bW∧db L n=U (cS cg f)) :
 aq ak 7 #[.int .i64 n] w fun e w'=>e=.returned (.int .i64 cg.size)∧ah w.heap.size w w':=by
 obtain⟨fn,gZ,rfl⟩:=bd;have oy:=yC;go_enter JP,JF;go_wp2_with fail;refine (dZ _).mono ?_;rintro e aP ⟨b,L,rfl,lb,bg,ld⟩;have ks:=look_ok lb (t:=42) hl (oy aP) n aB;rw[ld] at ks;simp only[cS] at ks;have bL:=I bg;have dY:=bg.size;clear lb ld bg dZ;have cI:=aI.new aP 40 (.string cg) (.func (.func fn) #[] gZ);obtain⟨aM,aG,_,_⟩:=cI.cells;clear cI;go_wp2;go_ret;exact⟨rfl,bL.out.alloc dY _⟩
theorem alF (n:Int) (w:af) (aB:-1000000≤n∧n≤1000000)
 (dZ:∀W,aq ak 13 #[] W fun e bW=>∃b L,e=.returned (.map (U b))∧eR bW b L∧ah W.heap.size W bW∧db L n=J) :
 aq ak 7 #[.int .i64 n] w fun e w'=>e=.returned (.int .i64 (-1))∧ah w.heap.size w w':=by
 have oy:=yC;go_enter JP,JF;go_wp2_with fail;refine (dZ _).mono ?_;rintro e aP ⟨b,L,rfl,lb,bg,ld⟩;have ks:=look_ok lb (t:=42) hl (oy aP) n aB;rw[ld] at ks;simp only at ks;have bL:=I bg;have dY:=bg.size;clear lb ld bg dZ;have cI:=aI.new aP 40 (.string ⟨#[]⟩) .nilFunc;obtain⟨aM,aG,_,_⟩:=cI.cells;clear cI;go_wp2;go_ret;exact⟨rfl,bL.out.alloc dY _⟩
def sN (aM kj:Int) (t0:ByteArray) (alC:Bool) (k n b:Int) (t:ByteArray) (is:Bool):Prop:=k=aM∧n=kj∧b=0∧t=t0∧is=alC
theorem SR {w w':af} {e:jA} {k n:Int} {t:ByteArray} {is:Bool} (h:ek w (bw k n 0 t (.slice J 0 0)) is e w'):h0 w (sN k n t is) e w':=⟨k,n,0,t,is,⟨rfl,rfl,rfl,rfl,rfl⟩,h.1,h.2⟩
theorem p3 {aR:af} {n:Int} {cg:ByteArray} {fn:Nat} {vs:List bB} {P:Int→Int→Int→ByteArray→Bool→Prop} (aA:db yo n=U (cS cg (.func (.func fn) #[] #[]))) (an:∀W v,e2 W v vs→aq ak fn #[v] W (h0 W P)):eZ aR n cg fn vs P:=fun W _=>
 (sH W).mono fun e bW ⟨b,L,aa,ae,aJ,bQ⟩=>⟨b,L,#[],aa,ae,bQ,aJ.jq n _ aA,fun cG v _ aD=>by simpa using an cG v aD⟩
theorem wR {aR:af} {n:Int} {cg:ByteArray} {fn:Nat} {vs:List bB} {P:Int→Int→Int→ByteArray→Bool→Prop} (aA:∀w L,sG w L→db L n=U (cS cg (.func (.func fn) #[] #[]))) (an:∀W v,ah aR.heap.size aR W→e2 W v vs→aq ak fn #[v] W (h0 W P)):eZ aR n cg fn vs P:=fun W jy=>
 (sH W).mono fun e bW ⟨b,L,aa,ae,aJ,bQ⟩=>⟨b,L,#[],aa,ae,bQ,aA bW L aJ,fun cG v ad aD=>by
  have dm:=jy.trans (bQ.mono jy.size);simpa using an cG v (dm.trans (ad.mono dm.size)) aD⟩
theorem aaS {aR:af} {n:Int} {f:Nat} {vs:List bB} {P:Int→Int→Int→ByteArray→Bool→Prop} (aV:∀w L,sG w L→iQ w L n f)
 (an:∀W v p,e2 W v vs→W.cell? ⟨p,0,J⟩=U (.func (.func f) #[] #[])→p<W.heap.size→aq ak 17 #[v,.pointer (U ⟨p,0,J⟩)] W (h0 W P)):eZ aR n ⟨#[73,73]⟩ 17 vs P:=fun W _=>
 (sH W).mono fun e bW ⟨b,L,aa,ae,aJ,bQ⟩=>by
  obtain⟨p,bD,cX,dU⟩:=aV bW L aJ;exact⟨b,L,#[.pointer (U ⟨p,0,J⟩)],aa,ae,bQ,bD,fun cG v ad aD=>by
   have:=an cG v p aD (by rw[ad.cell (p:=⟨p,0,J⟩) dU];exact cX) (cv dU ad.size);simpa using this⟩
def Dh (P:Int→Int→Int→ByteArray→Bool→Prop) (k n b:Int) (t:ByteArray) (is:Bool):Prop:=(is=ai∧P k n b t ai)∨(is=ab∧(∃k' j3 b' jR,P k' j3 b' jR ab)∧k=0∧n=0∧b=0∧t=⟨#[]⟩)
theorem aaV {w w':af} {P:Int→Int→Int→ByteArray→Bool→Prop} {e:jA} (h:SH w P e w'):h0 w (Dh P) e w':=by
 obtain⟨k,n,b,t,is,hI,rfl,ad⟩:=h;cases is
 ·exact⟨0,0,0,⟨#[]⟩,ab,.inr ⟨rfl,⟨_,_,_,_,hI⟩,rfl,rfl,rfl,rfl⟩,rfl,ad⟩
 ·exact⟨k,n,b,t,ai,.inl ⟨rfl,hI⟩,rfl,ad⟩
theorem alG {w w':af} {e:jA} (h:e=.returned (.tuple #[iA,.bool ab])∧ah w.heap.size w w'):h0 w (sN 0 0 ⟨#[]⟩ ab) e w':=⟨0,0,0,⟨#[]⟩,ab,⟨rfl,rfl,rfl,rfl,rfl⟩,h.1,h.2⟩
theorem alH {l:List fo} {i:Nat} {x:fo} (h:l[i]? = U x) {j:Nat} {u:aw} (hu:x.cells[j]? = U u):(l.flatMap fo.cells)[i*5+j]? = U u:=by
 induction l generalizing i with
 | nil=>simp at h
 | cons y l dw=>
   rw[List.flatMap_cons];have ao:y.cells.length=5:=rfl;cases i with
   | zero=>
     simp at h;subst h;have bP:j<y.cells.length:=(List.getElem?_eq_some_iff.1 hu).1;rw[vN,hc,II bP];exact hu
   | succ i=>
     rw[Bx (by rw[ao];omega),ao,show (i+1)*5+j-5=i*5+j by omega];exact dw (by simpa using h)
theorem Di (W:af) (l:List fo) (cs:Array aw) (T:TypeId) (h:cs.toList=l.flatMap fo.cells) (m:Nat) (hm:m=l.length):nO (W.alloc (.cells cs T)) (.slice (U ⟨W.heap.size,0,J⟩) m m) l:=by
 subst hm;refine⟨W.heap.size,l.length,rfl,by simp,fun i x hx j u hu=>?_⟩;rw[ze,←q',h];exact alH hx hu
theorem alI (n:Int) (w:af):aq ak 10 #[.int .i64 n] w fun e w'=>e=.returned (bw 4 n 0 ⟨#[]⟩ (.slice J 0 0))∧ah w.heap.size w w':=by
 obtain⟨ag,a6⟩:∃ag,w.alloc (.cells #[.int .u8 0,.int .i64 0,.int .u64 0,.string ⟨#[]⟩,.slice J 0 0] 28)=ag:=⟨_,rfl⟩;have aO:aj (bk ag w.heap.size (.int .u8 0) (.int .i64 0) (.int .u64 0) (.string ⟨#[]⟩) (.slice J 0 0)):=I (by rw[←a6];exact bk.new _ _ _ _ _ _);have ay:aj (ah w.heap.size w ag):=I (by rw[←a6];exact (aK _ _).alloc (aC _) _);obtain⟨c0,c1,c2,c3,c4,f0,f1,f2,f3,f4⟩:=aO.out.cells;go_enter func10,ntmps10;go_wp2_with fail;obtain⟨aM,aG,bj,bq,bA,_,_,_,_,_⟩:=(aO.out.set (.int .u8 4) (.int .i64 n) (.int .u64 0) (.string ⟨#[]⟩) (.slice J 0 0)).cells;exact bI (v:=bw 4 n 0 ⟨#[]⟩ (.slice J 0 0)) (by simp[bK,results10,go_sem,bw,aM,aG,bj,bq,bA]) rfl ⟨rfl,dG ay.out (aC _) _ _ _ _ _⟩
theorem alJ (s:ByteArray) (w:af):aq ak 11 #[.string s] w fun e w'=>e=.returned (bw 8 0 0 s (.slice J 0 0))∧ah w.heap.size w w':=by
 obtain⟨ag,a6⟩:∃ag,w.alloc (.cells #[.int .u8 0,.int .i64 0,.int .u64 0,.string ⟨#[]⟩,.slice J 0 0] 28)=ag:=⟨_,rfl⟩;have aO:aj (bk ag w.heap.size (.int .u8 0) (.int .i64 0) (.int .u64 0) (.string ⟨#[]⟩) (.slice J 0 0)):=I (by rw[←a6];exact bk.new _ _ _ _ _ _);have ay:aj (ah w.heap.size w ag):=I (by rw[←a6];exact (aK _ _).alloc (aC _) _);obtain⟨c0,c1,c2,c3,c4,f0,f1,f2,f3,f4⟩:=aO.out.cells;go_enter func11,ntmps11;go_wp2_with fail;obtain⟨aM,aG,bj,bq,bA,_,_,_,_,_⟩:=(aO.out.set (.int .u8 8) (.int .i64 0) (.int .u64 0) (.string s) (.slice J 0 0)).cells;exact bI (v:=bw 8 0 0 s (.slice J 0 0)) (by simp[bK,results11,go_sem,bw,aM,aG,bj,bq,bA]) rfl ⟨rfl,dG ay.out (aC _) _ _ _ _ _⟩
def l' (n:Int):fo:=⟨4,n,0,⟨#[]⟩,.slice J 0 0⟩
def LG (s:ByteArray):fo:=⟨8,0,0,s,.slice J 0 0⟩
def alK (s:ByteArray):fo:=⟨9,0,0,s,.slice J 0 0⟩
def oz (n:Int):bB:=⟨4,n,0,⟨#[]⟩,.slice J 0 0,au (n<0),ax (o.bs n.natAbs)⟩
def LH (s:ByteArray):bB:=⟨8,0,0,s,.slice J 0 0,ab,⟨#[]⟩⟩
def alL (s:ByteArray):bB:=⟨9,0,0,s,.slice J 0 0,ab,⟨#[]⟩⟩
def qU (x:fo) (c:Nat) (y:bB) (is:Bool):Prop:=∀W,aq ak 14 #[x.lit,.int .u8 c] W fun e bW=>e=.returned (.tuple #[hA y.k y.n y.b y.t y.v y.g y.s,.bool is])∧ah W.heap.size W bW
theorem alM (s:ByteArray) (a1:s.size≤65536):qU (LG s) 83 (LH s) ai:=fun W=>alu s J 0 W a1
theorem alN (n:Int) (c:Nat) (an:c=73∨c=76) (aa:-9223372036854775808≤n) (ae:n≤9223372036854775807):qU (l' n) c (oz n) (au (cJ n)):=fun W=>alr n c J 0 W aa ae an
theorem LI (n:Int) (c:Nat) (an:c=73∨c=76) (h:cJ n):qU (l' n) c (oz n) ai:=by
 have:=alN n c an (by unfold cJ at h;omega) (by unfold cJ at h;omega);rwa[bE h] at this
theorem aaW {l:List bB} (h:∀y ∈ l,y.v=.slice J 0 0):∀y ∈ l,∃a n c,y.v=.slice a n c:=fun y aW=>⟨_,_,_,h y aW⟩
theorem aaX {l:List fo} (h:∀y ∈ l,y.v=.slice J 0 0):∀y ∈ l,∃a n c,y.v=.slice a n c:=fun y aW=>⟨_,_,_,h y aW⟩
def LJ (cg:ByteArray) (cb:List fo) (vs:List bB) (B:Nat→Bool):Prop:=∀(i:Nat) (x:fo) (y:bB) (h:i<cg.size),cb[i]? = U x→vs[i]? = U y→∀W,aq ak 14 #[x.lit,.int .u8 (cg[i]'h).toNat] W fun e bW=>e=.returned (.tuple #[hA y.k y.n y.b y.t y.v y.g y.s,.bool (B i)])∧ah W.heap.size W bW
theorem aaY {c d:UInt8} {x cT:fo} {y a':bB} {B:Nat→Bool} (ar:qU x c.toNat y (B 0)) (aa:qU cT d.toNat a' (B 1)):LJ ⟨#[c,d]⟩ [x,cT] [y,a'] B:=fun i hr lE aV hx aW W=>by
 have xQ:i<2:=aV;obtain rfl | rfl:i=0∨i=1:=by omega
 ·obtain rfl:x=hr:=by simpa using hx
  obtain rfl:y=lE:=by simpa using aW
  exact ar W
 ·obtain rfl:cT=hr:=by simpa using hx
  obtain rfl:a'=lE:=by simpa using aW
  exact aa W
theorem alO {c d f:UInt8} {x cT gR:fo} {y a' y3:bB} {B:Nat→Bool} (ar:qU x c.toNat y (B 0)) (aa:qU cT d.toNat a' (B 1)) (ae:qU gR f.toNat y3 (B 2)):LJ ⟨#[c,d,f]⟩ [x,cT,gR] [y,a',y3] B:=fun i hr lE aV hx aW W=>by
 have xQ:i<3:=aV;obtain rfl | rfl | rfl:i=0∨i=1∨i=2:=by omega
 ·obtain rfl:x=hr:=by simpa using hx
  obtain rfl:y=lE:=by simpa using aW
  exact ar W
 ·obtain rfl:cT=hr:=by simpa using hx
  obtain rfl:a'=lE:=by simpa using aW
  exact aa W
 ·obtain rfl:gR=hr:=by simpa using hx
  obtain rfl:y3=lE:=by simpa using aW
  exact ae W
theorem alP (n:Int) (cg:ByteArray) (fn:Nat) (vs:List bB) (cb:List fo) (P:Int→Int→Int→ByteArray→Bool→Prop) (fu:aw) (w:af) (aB:-1000000≤n∧n≤1000000) (ao:nO w fu cb) (tX:cg.size=cb.length) (nP:vs.length=cb.length) (ar:0<cb.length) (h5:cb.length≤100)
 (jV:∀args W,(sK fn args).run ak W=.ok (.enter fn args) W) (dZ:eZ w n cg fn vs P) (nl:∀y ∈ vs,y.v=.slice J 0 0) (hQ:∀x ∈ cb,x.v=.slice J 0 0) (rS:LJ cg cb vs fun _=>ai) :
 aq ak 6 #[.int .i64 n,fu] w (h0 w (Dh P)):=
 (aaR n cg fn vs cb P fu w aB ao tX nP ar h5 jV dZ (aaW nl) (aaX hQ) rS).mono fun e w' h=>aaV h
theorem alQ (n:Int) (cg:ByteArray) (i0:Nat) (vs:List bB) (cb:List fo) (fu:aw) (w:af) (aB:-1000000≤n∧n≤1000000) (ao:nO w fu cb) (tX:cg.size=cb.length) (nP:vs.length=cb.length) (ar:0<cb.length) (h5:cb.length≤100)
 (ls:i0<cb.length) (dZ:∀W,aq ak 13 #[] W fun e bW=>∃b L fn gZ,e=.returned (.map (U b))∧eR bW b L∧ah W.heap.size W bW∧db L n=U (cS cg (.func (.func fn) #[] gZ))) (nl:∀y ∈ vs,y.v=.slice J 0 0) (hQ:∀x ∈ cb,x.v=.slice J 0 0) (rS:LJ cg cb vs fun i=>au (i≠i0)) :
 aq ak 6 #[.int .i64 n,fu] w (h0 w (sN 0 0 ⟨#[]⟩ ab)):=
 (alD n cg i0 vs cb fu w aB ao tX nP ar h5 ls dZ (aaW nl) (aaX hQ) rS).mono fun e w' h=>alG h
theorem alR {k n:Int} {t:ByteArray} {is:Bool} {w w':af} {e:jA} (h:h0 w (Dh (sN k n t is)) e w') (qy:is=ai):h0 w (sN k n t ai) e w':=by
 subst qy;obtain⟨a,b,c,d,f,aa,ae,aJ⟩:=h;refine⟨a,b,c,d,f,?_,ae,aJ⟩;rcases aa with ⟨rfl,h⟩ | ⟨rfl,⟨_,_,_,_,h⟩,_⟩
 ·exact h
 ·exact absurd h.2.2.2.2 (by simp)
theorem alS {k n:Int} {t:ByteArray} {is:Bool} {w w':af} {e:jA} (h:h0 w (Dh (sN k n t is)) e w') (qy:is=ab):h0 w (sN 0 0 ⟨#[]⟩ ab) e w':=by
 subst qy;obtain⟨a,b,c,d,f,aa,ae,aJ⟩:=h;refine⟨a,b,c,d,f,?_,ae,aJ⟩;rcases aa with ⟨rfl,h⟩ | ⟨rfl,_,rfl,rfl,rfl,rfl⟩
 ·exact absurd h.2.2.2.2 (by simp)
 ·exact⟨rfl,rfl,rfl,rfl,rfl⟩
theorem alT (s:ByteArray) (y z:Int) (a b:Nat) (fu:aw) (w:af) (a1:s.size≤65536) (aW:y=(a:Int)+1) (aX:z=(b:Int)) (kW:a≤b) (ad:b≤s.size) (h:nO w fu [LG s,l' y,l' z]):aq ak 6 #[.int .i64 68,fu] w (h0 w (sN 8 0 (s.extract a b) ai)):=
 (alP 68 ⟨#[83,76,76]⟩ 108 [LH s,oz y,oz z] [LG s,l' y,l' z] (sN 8 0 (s.extract a b) ai) fu w (by omega) h rfl rfl (by simp) (by simp) (fun args W=>dF Jw rfl rfl args W)
  (p3 rfl (fun W v aD=>(aas (LH s) (oz y) (oz z) a b v W aD aW aX kW ad a1).mono fun e w' h=>SR h)) (by simp[LH,oz,alL]) (by simp[LG,l',alK]) (alO (alM s a1) (LI y 76 (.inr rfl) (by unfold cJ;omega)) (LI z 76 (.inr rfl) (by unfold cJ;omega)))).mono fun e w' h=>alR h rfl
theorem o.al0:o.fl 10 [53] 5:=by
 unfold o.fl;rw[aU (by omega)];exact⟨by decide,by decide,by decide,by decide⟩
theorem o.al1:(o.wd 2).length=1:=by
 rw[←o.Kv (xs:=[2]) (V:=2) (by intro d aL;simp at aL;omega) (.inr ⟨[],2,rfl,by omega⟩) (by decide)];rfl
theorem o.al2:(ax (o.bs 1)).toList.isEmpty=ab:=by
 simp[ax,lL,o.sy]
def ve (R:Int) (k n b:Int) (t:ByteArray) (is:Bool):Prop:=∃s,qG R k n s∧b=0∧t=ax s∧is=ai
theorem SV {w w':af} {R:Int} {e:jA} (h:tO w R e w'):h0 w (ve R) e w':=by
 obtain⟨k,n,s,aa,ae,aJ⟩:=h;exact⟨k,n,0,ax s,ai,⟨s,aa,rfl,rfl,rfl⟩,ae,aJ⟩
theorem aa4 {w w':af} {R:Int} {e:jA} (h:h0 w (Dh (ve R)) e w'):h0 w (ve R) e w':=by
 obtain⟨a,b,c,d,f,aa,ae,aJ⟩:=h;refine⟨a,b,c,d,f,?_,ae,aJ⟩;rcases aa with ⟨rfl,h⟩ | ⟨_,⟨_,_,_,_,_,_,_,_,h⟩,_⟩
 ·exact h
 ·cases h
def wT (x:fo) (y:bB) (A:Int):Prop:=qU x 73 y ai∧Value.agg #[.bool y.g,.string y.s]=bz A∧o.bO A∧(∃a n c,x.v=.slice a n c)∧∃a n c,y.v=.slice a n c
theorem tZ {n:Int} (aa:-9223372036854775808≤n) (ae:n≤9223372036854775808):o.bO n:=by
 unfold o.bO;refine gQ (m:=9223372036854775808) (by omega) ?_;exact o.ye (a:=8) (b:=4096) (by decide) (by decide)
theorem G7 {n:Int} (h:cJ n):wT (l' n) (oz n) n:=⟨LI n 73 (.inl rfl) h,rfl,tZ (by unfold cJ at h;omega) (by unfold cJ at h;omega),⟨_,_,_,rfl⟩,⟨_,_,_,rfl⟩⟩
def vf (l:List UInt8):fo:=⟨5,0,0,ax l,.slice J 0 0⟩
def Dj (l:List UInt8) (n:Int):bB:=⟨5,0,0,ax l,.slice J 0 0,au (n<0),ax (o.bs n.natAbs)⟩
theorem aa5 (l:List UInt8) (n:Int) (ao:l.length≤300000) (aB:o.bO n) (bn:o.fl 10 l n):qU (vf l) 73 (Dj l n) (!decide (cJ n)):=fun W=>als l n J 0 W ao aB bn
theorem al3 {l:List UInt8} {n:Int} (ao:l.length≤300000) (aB:o.bO n) (bn:o.fl 10 l n) (bd:¬ cJ n):wT (vf l) (Dj l n) n:=
 ⟨by have:=aa5 l n ao aB bn;rwa[bx bd] at this,rfl,aB,⟨_,_,_,rfl⟩,⟨_,_,_,rfl⟩⟩
theorem aa6 {α:Type} {p:α→Prop} {x y:α} (hx:p x) (aW:p y):∀z ∈ [x,y],p z:=by
 intro z aX;simp only[uB,zp,zI] at aX;rcases aX with rfl | rfl
 ·exact hx
 ·exact aW
theorem LK {n:Int} (h:o.bO n):e7 n=.tuple #[bz n,.int .i64 0]:=by unfold e7;exact ba h
theorem SW (n:Int) (f:Nat) (P:Int→Int→Int→ByteArray→Bool→Prop) (x cT:fo) (y a':bB) (A B:Int) (fu:aw) (w:af) (aB:-1000000≤n∧n≤1000000) (aV:∀w L,sG w L→iQ w L n f) (aa:wT x y A) (ae:wT cT a' B) (h:nO w fu [x,cT])
 (an:∀W v p,e2 W v [y,a']→W.cell? ⟨p,0,J⟩=U (.func (.func f) #[] #[])→p<W.heap.size→aq ak 17 #[v,.pointer (U ⟨p,0,J⟩)] W (h0 W P)) :
 aq ak 6 #[.int .i64 n,fu] w (h0 w (Dh P)):=
 (aaR n ⟨#[73,73]⟩ 17 [y,a'] [x,cT] P fu w aB h rfl rfl (by simp) (by simp) (fun args W=>dF nv rfl rfl args W)
  (aaS aV an) (aa6 aa.2.2.2.2 ae.2.2.2.2) (aa6 aa.2.2.2.1 ae.2.2.2.1) (aaY aa.1 ae.1)).mono fun e w' h=>aaV h
theorem al4 (x cT:fo) (y a':bB) (A B:Int) (fu:aw) (w:af) (aa:wT x y A) (ae:wT cT a' B) (bS:o.bO (A+B)) (h:nO w fu [x,cT]):aq ak 6 #[.int .i64 1,fu] w (h0 w (ve (A+B))):=
 (SW 1 19 (ve (A+B)) x cT y a' A B fu w (by omega) (fun w L h=>h.i1) aa ae h (fun W v p aD hp hP=>(ak' p (A+B) y a' v W aD hp hP (fun W=>by
  rw[aa.2.1,ae.2.1];refine (aa0 A B W aa.2.2.1 ae.2.2.1).mono ?_;rintro e w' ⟨rfl,ad⟩;exact⟨by rw[LK bS],ad⟩) bS).mono fun e w' h=>SV h)).mono fun e w' h=>aa4 h
theorem al5 (x cT:fo) (y a':bB) (A B:Int) (fu:aw) (w:af) (aa:wT x y A) (ae:wT cT a' B) (bS:o.bO (A-B)) (h:nO w fu [x,cT]):aq ak 6 #[.int .i64 2,fu] w (h0 w (ve (A-B))):=
 (SW 2 20 (ve (A-B)) x cT y a' A B fu w (by omega) (fun w L h=>h.i2) aa ae h (fun W v p aD hp hP=>(ala p (A-B) y a' v W aD hp hP (fun W=>by
  rw[aa.2.1,ae.2.1];refine (aa3 A B W aa.2.2.1 ae.2.2.1).mono ?_;rintro e w' ⟨rfl,ad⟩;exact⟨by rw[LK bS],ad⟩) bS).mono fun e w' h=>SV h)).mono fun e w' h=>aa4 h
theorem al6 (fu:aw) (w:af) (h:nO w fu [l' 7,l' 2]):aq ak 6 #[.int .i64 10,fu] w (h0 w (sN 0 0 ⟨#[]⟩ ab)):=
 (SW 10 22 (sN 0 0 ⟨#[]⟩ ab) (l' 7) (l' 2) (oz 7) (oz 2) 7 2 fu w (by omega) (fun w L h=>h.i10) (G7 (by unfold cJ;omega)) (G7 (by unfold cJ;omega)) h (fun W v p aD hp hP=>
  (alb p (au ((3:Int)<0)) (ax (o.bs 3)) 1 (oz 7) (oz 2) v W aD hp hP (fun W=>aaB _ _ _ (au ((1:Int)<0)) _ _ _ (ax (o.bs 1)) W (fun W=>aaA _ _ _ _ _ _ _ _ W (fun W=>aax 7 2 W (tZ (by omega) (by omega)) (tZ (by omega) (by omega)) (by omega) (ale (o.ye (a:=1) (b:=4096) (by decide) (by decide)) (o.al1)) ) (.inr rfl)) (o.al2)) (by omega)).mono fun e w' h=>SR h)).mono fun e w' h=>alS h rfl
theorem al7 {n:Int} {f:Nat} (aV:∀w L,sG w L→iQ w L n f):∀W,aq ak 13 #[] W fun e bW=>∃b L fn gZ,e=.returned (.map (U b))∧eR bW b L∧ah W.heap.size W bW∧db L n=U (cS ⟨#[73,73]⟩ (.func (.func fn) #[] gZ)):=fun W=>
 (sH W).mono fun e bW ⟨b,L,aa,ae,aJ,bQ⟩=>by
  obtain⟨p,bD,cX,dU⟩:=aV bW L aJ;exact⟨b,L,_,_,aa,ae,bQ,bD⟩
theorem al8 (fu:aw) (w:af) (h:nO w fu [vf [53],l' 1]):aq ak 6 #[.int .i64 1,fu] w (h0 w (sN 0 0 ⟨#[]⟩ ab)):=
 alQ 1 ⟨#[73,73]⟩ 0 [Dj [53] 5,oz 1] [vf [53],l' 1] fu w (by omega) h rfl rfl (by simp) (by simp) (by simp) (al7 fun w L h=>h.i1) (by simp[Dj,oz]) (by simp[vf,l'])
  (aaY (by have:=aa5 [53] 5 (by simp) (tZ (by omega) (by omega)) o.al0;rwa[bE (show cJ 5 by unfold cJ;omega)] at this) (LI 1 73 (.inl rfl) (by unfold cJ;omega)))
theorem al9 (w:af):aq ak 7 #[.int .i64 68] w fun e w'=>e=.returned (.int .i64 3)∧ah w.heap.size w w':=
 alE 68 ⟨#[83,76,76]⟩ (.func (.func 108) #[] #[]) w (by omega) ⟨_,_,rfl⟩ fun W=>(sH W).mono fun e bW ⟨b,L,aa,ae,aJ,bQ⟩=>⟨b,L,aa,ae,bQ,aJ.jq 68 _ rfl⟩
theorem al' (w:af):aq ak 7 #[.int .i64 0] w fun e w'=>e=.returned (.int .i64 (-1))∧ah w.heap.size w w':=
 alF 0 w (by omega) fun W=>(sH W).mono fun e bW ⟨b,L,aa,ae,aJ,bQ⟩=>⟨b,L,aa,ae,bQ,aJ.no⟩
theorem o.avM {a b:ByteArray}:(a.toList==b.toList)=ai↔a=b:=by
 rw[gy,lL,lL];cases a;cases b;simp
theorem avN (k n b k' j3 b':Int) (t jR:ByteArray) (a lz:Option Addr) (c c':Nat) (w:af) :
 aq ak 8 #[bw k n b t (.slice a 0 c),bw k' j3 b' jR (.slice lz 0 c')] w fun e w'=>e=.returned (.bool (au (k=k'∧n=j3∧b=b'∧t=jR)))∧ah w.heap.size w w':=by
 unfold bw;go_enter func8,ntmps8;go_wp2_with fail;any_goals
  go_ret;refine⟨eS (fun z=>Ending.returned (.bool z)) (Eq.symm ?_),((aK _ _).alloc (aC _) _).alloc (by simp) _⟩;rw[ux];rintro⟨aa,ae,aJ,bQ⟩;have dm:t.toList=jR.toList:=by rw[bQ]
  contradiction
 rename_i aH aT b8 eb GS GU;have dd:=I (show au (k=k'∧n=j3∧b=b'∧t=jR)=ai from bE ⟨aH,aT,b8,o.avM.1 (by rw[eb];exact beq_self_eq_true _)⟩);clear aH aT b8 eb;obtain⟨gS,iU⟩:∃gS,(w.alloc (.cells #[.int .u8 k',.int .i64 j3,.int .u64 b',.string t,.slice a 0 c] 28)).alloc (.cells #[.int .u8 k',.int .i64 j3,.int .u64 b',.string jR,.slice lz 0 c'] 28)=gS:=⟨_,rfl⟩;have M8:aj (ah w.heap.size w gS):=I (by rw[←iU];exact ((aK _ _).alloc (aC _) _).alloc (by simp) _);have c0:gS.cell? ⟨w.heap.size,4,J⟩=U (.slice a 0 c):=by rw[←iU];simp[go_sem]
 have c1:gS.cell? ⟨w.heap.size+1,4,J⟩=U (.slice lz 0 c'):=by rw[←iU];simp[go_sem]
 rw[iU];clear iU;go_loopw [5] (fun xe wr=>xe=.int .i64 0∧wr=gS) (fun _ _=>0);case atStart=>exact⟨rfl,rfl⟩
 case round=>
  obtain⟨rfl,rfl⟩:=hrel;go_wp2;go_ret;exact⟨eS (fun z=>Ending.returned (.bool z)) dd.out.symm,M8.out⟩
namespace o
inductive Lit where
 | mk (kind:Nat) (n:Int) (bits:Nat) (text:ByteArray) (items:List Lit)
def Lit.kind:Lit→Nat | .mk k _ _ _ _=>k
def Lit.n:Lit→Int | .mk _ n _ _ _=>n
def Lit.bits:Lit→Nat | .mk _ _ b _ _=>b
def Lit.text:Lit→ByteArray | .mk _ _ _ t _=>t
def Lit.items:Lit→List Lit | .mk _ _ _ _ l=>l
theorem Lit.eta (x:Lit):x=.mk x.kind x.n x.bits x.text x.items:=by cases x;rfl
mutual
def zc:Lit→Nat
 | .mk _ _ _ t l=>1+t.size+lK l
def lK:List Lit→Nat
 | []=>0
 | x::r=>zc x+lK r
end
structure IF (x:Lit):Prop where
 k:x.kind<256
 kj:-9223372036854775808≤x.n
 dE:x.n≤9223372036854775807
 b:x.bits<18446744073709551616
 t:x.text.size≤140737488355328
end o
structure s3 {α:Type} (size:Nat) (cs:α→aw→List aw) (w:af) (l:List α) (A:Option Addr) (cap:Nat) (V:Nat→aw):Prop where
 le:l.length≤cap
 avX:cap≤maxLen
 len:l.length≤140737488355328
 addr:l≠[]→∃b a7,A=U ⟨b,a7,J⟩
 nil:A=Option.none→cap=0
 lt:l≠[]→∀a,A=U a→a.block<w.heap.size
 cells:∀b a7,A=U ⟨b,a7,J⟩→∀(i:Nat) (x:α),l[i]? = U x→∀(j:Nat) (u:aw),(cs x (V i))[j]? = U u→w.cell? ⟨b,a7+i*size+j,J⟩=U u
theorem s3.tD {α:Type} {size:Nat} {cs:α→aw→List aw} {w w':af} {l:List α} {A:Option Addr} {cap:Nat} {V:Nat→aw} (h:s3 size cs w l A cap V) {B:Nat} (ad:ah B w w')
 (az:l≠[]→∀a,A=U a→a.block<B):s3 size cs w' l A cap V:=by
 refine⟨h.le,h.avX,h.len,h.addr,h.nil,fun aB a aS=>cv (h.lt aB a aS) ad.size,?_⟩;intro b a7 e i x hx j u hu;have aB:l≠[]:=by rintro rfl;simp at hx
 rw[ad.cell (p:=⟨b,a7+i*size+j,J⟩) (az aB ⟨b,a7,J⟩ e)];exact h.cells b a7 e i x hx j u hu
theorem s3.yb {α:Type} {size:Nat} {cs:α→aw→List aw} {w:af} {l:List α} {A:Option Addr} {cap:Nat} {V:Nat→aw} (h:s3 size cs w l A cap V) {i:Nat} (aV:i<l.length):∃b a7,A=U ⟨b,a7,J⟩∧b<w.heap.size:=by
 have aB:l≠[]:=by intro e;rw[e] at aV;simp at aV
 obtain⟨b,a7,e⟩:=h.addr aB;exact⟨b,a7,e,h.lt aB _ e⟩
def xg (x:o.Lit) (v:aw):List aw:=[.int .u8 x.kind,.int .i64 x.n,.int .u64 x.bits,.string x.text,v]
inductive mf (B:Nat) (w:af):List o.Lit→aw→Prop
 | mk (A:Option Addr) (l:List o.Lit) (cap:Nat) (V:Nat→aw) (az:l≠[]→∀a,A=U a→a.block<B) (h:s3 5 xg w l A cap V) (hw:∀x ∈ l,o.IF x) (aF:∀(i:Nat) (x:o.Lit),l[i]? = U x→mf B w x.items (V i)) :
   mf B w l (.slice A l.length cap)
theorem mf.tD {B:Nat} {w w':af} {l:List o.Lit} {v:aw} (h:mf B w l v) (ad:ah B w w'):mf B w' l v:=by
 induction h with
 | mk A l cap V az h hw _ dw=>exact .mk A l cap V az (h.tD ad az) hw dw
theorem mf.up {B C:Nat} {w:af} {l:List o.Lit} {v:aw} (h:mf B w l v) (hC:B≤C):mf C w l v:=by
 induction h with
 | mk A l cap V az h hw _ dw=>exact .mk A l cap V (fun aB a e=>cv (az aB a e) hC) h hw dw
theorem mf.out {B:Nat} {w:af} {l:List o.Lit} {v:aw} (h:mf B w l v):∃(A:Option Addr) (cap:Nat) (V:Nat→aw),v=.slice A l.length cap∧(l≠[]→∀a,A=U a→a.block<B)∧s3 5 xg w l A cap V∧(∀x ∈ l,o.IF x)∧∀(i:Nat) (x:o.Lit),l[i]? = U x→mf B w x.items (V i):=by
 cases h with
 | mk A l cap V az h hw aF=>exact⟨A,cap,V,rfl,az,h,hw,aF⟩
theorem mf.len {B:Nat} {w:af} {l:List o.Lit} {v:aw} (h:mf B w l v):l.length≤140737488355328:=by
 obtain⟨_,_,_,_,_,h,_⟩:=h.out;exact h.len
theorem s3.lit {w:af} {l:List o.Lit} {b a7 cap:Nat} {V:Nat→aw} (h:s3 5 xg w l (U ⟨b,a7,J⟩) cap V) {i:Nat} {x:o.Lit} (hx:l[i]? = U x) :
 w.cell? ⟨b,a7+i*5,J⟩=U (.int .u8 x.kind)∧w.cell? ⟨b,a7+i*5+1,J⟩=U (.int .i64 x.n)∧w.cell? ⟨b,a7+i*5+2,J⟩=U (.int .u64 x.bits)∧
 w.cell? ⟨b,a7+i*5+3,J⟩=U (.string x.text)∧w.cell? ⟨b,a7+i*5+4,J⟩=U (V i):=
 ⟨h.cells b a7 rfl i x hx 0 _ rfl,h.cells b a7 rfl i x hx 1 _ rfl,h.cells b a7 rfl i x hx 2 _ rfl,h.cells b a7 rfl i x hx 3 _ rfl,h.cells b a7 rfl i x hx 4 _ rfl⟩
end Go.Proofs.YtkhphoonnkoipaaGreatDoor
