/- Lemmas. -/
import Derived.Test.YtkhphoonnkoipaaGreatDoorVaam
import Derived.Test.YtkhphoonnkoipaaGreatDoorVaak
set_option linter.all false
set_option maxHeartbeats 2000000
set_option maxRecDepth 4000
open Go.Proofs.Tryz Go.RowKit Go.Lib
open Option renaming none→J,some→U
open Bool renaming true→ai,false→ab
open Decidable renaming decide→au
open Go renaming World→af,Value→aw,Calls→aq,results→bK
open Go.RowKit renaming Below→ah
open Go.Proofs.Tryz renaming prog→ak
namespace Go.Proofs.YtkhphoonnkoipaaGreatDoor
namespace o
def shr (xs:List Nat) (k:Nat):List Nat:=gh (ec (xs.length-k/32) (num xs/2^k))
theorem ajN (xs:List Nat) (hx:∀x ∈ xs,x<4294967296) (j:Nat):num xs/4294967296^j=num (xs.drop j):=by
 rcases eh xs.length j with h | h
 ·rw[zd (by omega)];have:=x4 xs hx;have ae:(4294967296:Nat)^xs.length≤4294967296^j:=dB (by decide) (by omega);rw[nu (by omega)];rfl
 ·have e:=xW (xs.take j) (xs.drop j);rw[xi,gN,h2 h] at e;have ao:=x4 (xs.take j) (fun x x3=>hx x (qb x3));rw[gN,h2 h] at ao;rw[e,Nat.add_mul_div_left _ _ (dK (by decide)),nu ao,hc]
def pair (xs:List Nat) (j:Nat):Nat:=xs.getD j 0+4294967296*xs.getD (j+1) 0
theorem ajO (ys:List Nat):num ys%18446744073709551616=(ys.getD 0 0+4294967296*ys.getD 1 0)%18446744073709551616:=by
 match ys with
 | []=>rfl
 | [a]=>simp[num]
 | a::b::l=>simp only[num,List.getD_cons_zero,List.getD_cons_succ];omega
theorem ajP (xs:List Nat) (hx:∀x ∈ xs,x<4294967296) (W p i:Nat) (hp:p<32) :
 num xs/2^(32*W+p)/4294967296^i%4294967296=pair xs (W+i)/2^p%4294967296:=by
 have aH:num xs/2^(32*W+p)/4294967296^i=num xs/4294967296^(W+i)/2^p:=by
  rw[hE,hE];congr 1;rw[cm,cm,show (4294967296:Nat)=2^32 from rfl,←mi,←mi];ac_rfl
 rw[aH,ajN xs hx];have aa:=ajO (xs.drop (W+i));have aT:(xs.drop (W+i)).getD 0 0=xs.getD (W+i) 0:=by simp[e5]
 have b8:(xs.drop (W+i)).getD 1 0=xs.getD (W+i+1) 0:=by simp[e5]
 rw[aT,b8] at aa;change _=pair xs (W+i)%_ at aa;generalize num (xs.drop (W+i))=A at *;generalize pair xs (W+i)=B at *;have xZ:2^p*2^(64-p)=18446744073709551616:=by rw[←cm,show p+(64-p)=64 by omega]
 have key:∀X:Nat,X/2^p%4294967296=X%18446744073709551616/2^p%4294967296:=by
  intro X;have ae:X%(2^p*2^(64-p))/2^p=X/2^p%2^(64-p):=by rw[VT]
  rw[xZ] at ae;rw[ae,Nat.mod_mod_of_dvd];rw[show (4294967296:Nat)=2^32 from rfl];exact Nat.pow_dvd_pow 2 (by omega)
 rw[key A,key B,aa]
def rL (n V k:Nat):List Nat:=(List.range n).map fun j=>if j<k then V/4294967296^j%4294967296 else 0
theorem ajQ (n V:Nat):rL n V n=ec n V:=by
 unfold rL ec;apply zh;intro j bP;rw[ba (List.mem_range.1 bP)]
end o
theorem ajR {a b:Nat} (aS:a<4294967296) (ad:b<4294967296):bits .or .u64 (a:Int) ((b:Int)*4294967296)=((a+4294967296*b:Nat):Int):=by
 have aH:(b:Int)*4294967296=((4294967296*b:Nat):Int):=by omega
 have kA:(2:Nat)^IntKind.u64.bits=18446744073709551616:=rfl;have hw:∀n:Nat,n<18446744073709551616→IntKind.u64.wrap (n:Int)=n:=fun n aB=>by rw[ha];omega
 have gU:a ||| 4294967296*b=a+4294967296*b:=by
  have:=oJ (i:=32) (b:=a) aS b;rw[show (2:Nat)^32=4294967296 from rfl] at this;rw[si,←this,jv]
 rw[aH];simp only[bits,oK,vL,ns,kA];rw[eF (show a<18446744073709551616 by omega),eF (show 4294967296*b<18446744073709551616 by omega),gU,hw _ (by omega)]
theorem Yf (a p:Nat):(a:Int)/2^p%4294967296=((a/2^p%4294967296:Nat):Int):=by
 rw[Int.natCast_emod,Int.natCast_ediv,Int.natCast_pow];rfl
theorem Yg {n V k x:Nat} (hx:V/4294967296^k%4294967296=x):hg (o.rL n V (k+1))=(hg (o.rL n V k)).setIfInBounds k (.int .u32 (x:Nat)):=by
 unfold hg;apply Array.toList_inj.1;apply s7
 ·simp[o.rL]
 ·intro i aa ae;simp only[Bw,I4,xq,o.rL,zj];by_cases e:k=i
  ·subst e;rw[ba rfl,ba (by omega),hx]
  ·rw[aU e];by_cases aT:i<k
   ·rw[ba (by omega),ba aT]
   ·rw[aU (by omega),aU aT]
def Gz (w:af) (ys:List Nat) (e:Ending) (w':af):Prop:=
 ∃v b,e=.returned (.tuple #[v,.bool b])∧b2 w' v ys∧ah w.heap.size w w'
theorem Yh (v:aw) (xs:List Nat) (cz:Nat) (w:af) (h:b2 w v xs) (a1:cz≤40000) (bd:xs.length≤cz/32) :
 aq ak 75 #[v,.int .u64 cz] w (Gz w (o.shr xs cz)):=by
 have dd:=I (show o.shr xs cz=[] by unfold o.shr o.ec;rw[show xs.length-cz/32=0 by omega];rfl);obtain⟨c7,fj,rfl⟩:∃a c,v=.slice a xs.length c:=by
  rcases h with ⟨aa,ae⟩ | ⟨b,cap,aa,_⟩
  ·exact⟨J,0,by rw[aa,ae];rfl⟩
  ·exact⟨_,_,aa⟩
 clear h;obtain⟨N,cW⟩:∃N,xs.length=N:=⟨_,rfl⟩;rw[cW] at bd ⊢;obtain⟨eg,wk⟩:∃eg,cz/32=eg:=⟨_,rfl⟩;obtain⟨h8,wg⟩:∃h8,cz%32=h8:=⟨_,rfl⟩;have d1:(cz:Int)/32=(eg:Int):=by omega
 have d2:(cz:Int)%32=(h8:Int):=by omega
 rw[wk] at bd;clear wk wg cW;have aL:au ((N:Int)≤(eg:Int))=ai:=bE (by omega);go_enter func75,ntmps75;go_wp2;go_ret2;exact⟨_,_,rfl,by rw[dd.out];exact .inl ⟨rfl,rfl⟩,aK _ _⟩
theorem Yi (v:aw) (xs:List Nat) (cz:Nat) (w:af) (h:b2 w v xs) (ao:xs.length≤2000) (hx:∀x ∈ xs,x<4294967296) (a1:cz≤40000) (bd:cz/32<xs.length) :
 aq ak 75 #[v,.int .u64 cz] w (Gz w (o.shr xs cz)):=by
 obtain⟨i0,aV,eo,eP,eL⟩:=oU sr;have b9:=I hx;rcases h with ⟨_,ae⟩ | ⟨b,cap,rfl,CG,qq,Yj⟩
 ·rw[ae] at bd;simp at bd
 have bJ:=I Yj;clear Yj hx;obtain⟨N,cW⟩:∃N,xs.length=N:=⟨_,rfl⟩;rw[cW] at ao bd CG ⊢;have bU:=I cW;clear cW;obtain⟨eg,wk⟩:∃eg,cz/32=eg:=⟨_,rfl⟩;obtain⟨h8,wg⟩:∃h8,cz%32=h8:=⟨_,rfl⟩;have d1:(cz:Int)/32=(eg:Int):=by omega
 have d2:(cz:Int)%32=(h8:Int):=by omega
 have FY:h8<32:=by omega
 rw[wk] at bd;have wm:=I (show cz=32*eg+h8 by omega);have jS:=I wk;clear wk wg;have Ap:Hid (b2 w (.slice (U ⟨b,0,J⟩) eg cap) (xs.take eg)):=I (.inr ⟨b,cap,by rw[gN,h2 (by rw[bU.out];omega)],by rw[gN];omega,qq,fun j x bP=>by
  rw[rb] at bP;split at bP
  ·exact bJ.out j x bP
  ·cases bP⟩)
 have bc:=I (qv _ _ w Ap.out (by rw[gN];omega));have rM:=I (fun dv (h:b2 w dv (o.gh (xs.take eg)))=>Ye dv _ w h (cp (Ae _) (by rw[gN];omega)) (fun x hx=>b9.out x (qb (x9 hx))));have eM:eg<xs.length:=by rw[bU.out];exact bd
 obtain⟨RL,kG⟩:∃x,xs[eg]=x:=⟨_,rfl⟩;have ajS:w.cell? ⟨b,eg,J⟩=U (.int .u32 (RL:Nat)):=bJ.out eg RL (by rw[eE eM,kG]);have awV:RL<4294967296:=by rw[←kG];exact b9.out _ (jc _)
 clear kG eM;obtain⟨Yk,Yl⟩:∃Yk,o.bt (o.num (o.gh (xs.take eg)))=Yk:=⟨_,rfl⟩;rw[Yl] at rM;clear Yl;obtain⟨n,aB⟩:∃n,N-eg=n:=⟨_,rfl⟩;have nI:=I aB;have ajT:(N:Int)-(eg:Int)=(n:Int):=by omega
 have qt:n≤4000:=by omega
 have aL:au ((N:Int)≤(eg:Int))=ab:=bx (by omega);have awW:eg≤cap:=by omega
 go_enter func75,ntmps75;go_wp2_with fail;refine bc.out.mono ?_;rintro e w' ⟨dv,rfl,aF,rfl⟩;have nJ:=I (rM.out dv aF);obtain⟨Q0,Kt,awX,rfl⟩:=na aF;clear aF bc rM;go_wp2_with fail;refine nJ.out.mono ?_;rintro e w' ⟨rfl,rfl⟩;clear nJ;go_wp2_with (at_make;refine s8 _ rfl _ _ 83 rfl w.heap.size 96 i0 (.int .u32 0) 1 qd aV eo eP .i64 .i64 _ _ n rfl rfl (by omega) (by omega) (by rw[eL];omega) (by unfold maxLen;omega) (by simp) ?_);all_goals
  intro cq h7 gm;obtain⟨g,eT⟩:∃g,w.heap.size=g:=⟨_,rfl⟩;rw[eT] at h7 ⊢;have cj:cq.heap[g]? = U (.cells (hg (o.rL n (o.num xs/2^cz) 0)) 96):=by
   have:=Kn h7;rw[Ko] at this;rw[this];have e:o.words n []=o.rL n (o.num xs/2^cz) 0:=by
    unfold o.words o.rL;apply zh;intro j _;simp[o.word,o.le]
   rw[e]
  have cQ:=I (show ah g w cq from (aK _ _).grown gm (by omega) (fun k aA=>by cases aA));have fF:=I cj;have ly:=I eT;clear h7 gm aV eo eP eL cj eT aB;go_wp2;go_loopw [51] (fun i wr=>∃k:Nat,k≤n∧i=.int .i64 k∧wr.heap[g]? = U (.cells (hg (o.rL n (o.num xs/2^cz) k)) 96)∧ah g w wr∧g<wr.heap.size) (fun i _=>n-(RowKit.intOf i).toNat);case atStart=>exact⟨0,il _,rfl,fF.out,cQ.out,(Array.getElem?_eq_some_iff.1 fF.out).1⟩
  case round=>
   obtain⟨k,aA,rfl,cj,ad,mW⟩:=hrel;have fF:=I cj;have ay:=I ad;clear cj ad;have kD:b<g:=by have:=ly.out;omega
   by_cases bV:k<n
   ·have RM:eg+k<xs.length:=by have aa:=nI.out;rw[bU.out];omega
    have fO:wr.cell? ⟨b,eg+k,J⟩=U (.int .u32 (xs.getD (eg+k) 0:Nat)):=by
     rw[ay.out.cell (p:=⟨b,eg+k,J⟩) kD];exact bJ.out _ _ (by simp[e5,eE RM])
    have gH:xs.getD (eg+k) 0<4294967296:=by
     rw[e5,eE RM];exact b9.out _ (jc _)
    have de:=I (o.ajP xs b9.out eg h8 k FY);rw[←wm.out] at de;unfold o.pair at de;obtain⟨gK,j1⟩:∃gK,xs.getD (eg+k) 0=gK:=⟨_,rfl⟩;rw[j1] at fO gH de;clear j1;have ajU:k<n:=bV;obtain⟨y,Xi⟩:∃y:Nat,wr.cell? ⟨g,k,J⟩=U (.int .u32 (y:Nat)):=⟨(if k<k then o.num xs/2^cz/4294967296^k%4294967296 else 0),by simp[World.cell?,fF.out,hg,o.rL,ajU]⟩;have gO:wr.frozen? ⟨g,k,J⟩=ab:=by simp[World.frozen?,fF.out]
    have awY:eg+k<N:=by rw[←bU.out];exact RM
    by_cases aE:eg+k+1<N
    ·have Fi:au ((eg:Int)+(k:Int)+1<(N:Int))=ai:=bE (by omega);have Ym:eg+k+1<xs.length:=by rw[bU.out];exact aE
     have gP:wr.cell? ⟨b,eg+k+1,J⟩=U (.int .u32 (xs.getD (eg+k+1) 0:Nat)):=by
      rw[ay.out.cell (p:=⟨b,eg+k+1,J⟩) kD];exact bJ.out _ _ (by simp[e5,eE Ym])
     have o4:xs.getD (eg+k+1) 0<4294967296:=by
      rw[e5,eE Ym];exact b9.out _ (jc _)
     obtain⟨cZ,gu⟩:∃cZ,xs.getD (eg+k+1) 0=cZ:=⟨_,rfl⟩;rw[gu] at gP o4 de;clear gu;obtain⟨q,Ax⟩:∃q,(gK+4294967296*cZ)/2^h8%4294967296=q:=⟨_,rfl⟩;rw[Ax] at de;have mX:=I (Yg (n:=n) de.out);have gU:bits .or .u64 (gK:Int) ((cZ:Int)*4294967296)/2^h8%4294967296=(q:Int):=by
      rw[ajR gH o4,Yf,Ax]
     clear de Ax;go_wp2_with fail;all_goals
      have n8:(wr.setCell ⟨g,k,J⟩ (.int .u32 (q:Nat))).heap[g]? = U (.cells (hg (o.rL n (o.num xs/2^cz) (k+1))) 96):=by
       rw[mX.out];simp only[World.setCell,lp,ba,fF.out];rfl
      have dP:ah g w (wr.setCell ⟨g,k,J⟩ (.int .u32 (q:Nat))):=ay.out.setCell (p:=⟨g,k,J⟩) (aC g) _;have eL:g<(wr.setCell ⟨g,k,J⟩ (.int .u32 (q:Nat))).heap.size:=by simp[World.setCell];exact mW
      go_roundw;case rel=>exact⟨k+1,by omega,by go_num,n8,dP,eL⟩
      case measure=>simp[RowKit.intOf];omega
    ·have Fi:au ((eg:Int)+(k:Int)+1<(N:Int))=ab:=bx (by omega);obtain⟨q,Ax⟩:∃q,gK/2^h8%4294967296=q:=⟨_,rfl⟩;have gu:xs.getD (eg+k+1) 0=0:=by rw[e5,zf (by rw[bU.out];omega)];rfl
     rw[gu,oQ,jd,Ax] at de;have mX:=I (Yg (n:=n) de.out);have gU:(gK:Int)/2^h8%4294967296=(q:Int):=by rw[Yf,Ax]
     clear de Ax gu;go_wp2_with fail;all_goals
      have n8:(wr.setCell ⟨g,k,J⟩ (.int .u32 (q:Nat))).heap[g]? = U (.cells (hg (o.rL n (o.num xs/2^cz) (k+1))) 96):=by
       rw[mX.out];simp only[World.setCell,lp,ba,fF.out];rfl
      have dP:ah g w (wr.setCell ⟨g,k,J⟩ (.int .u32 (q:Nat))):=ay.out.setCell (p:=⟨g,k,J⟩) (aC g) _;have eL:g<(wr.setCell ⟨g,k,J⟩ (.int .u32 (q:Nat))).heap.size:=by simp[World.setCell];exact mW
      go_roundw;case rel=>exact⟨k+1,by omega,by go_num,n8,dP,eL⟩
      case measure=>simp[RowKit.intOf];omega
   ·obtain rfl:k=n:=by omega
    rw[o.ajQ] at fF;have eX:b2 wr (.slice (U ⟨g,0,J⟩) k k) (o.ec k (o.num xs/2^cz)):=by
     refine .inr ⟨g,k,by rw[o.wj],by rw[o.wj];exact aC _,mW,fun j y aW=>?_⟩;simp only[World.cell?,fF.out,hg];simp[aW]
    have bc:=I (qv _ _ wr eX (by rw[o.wj];omega));have eY:=I (show ah w.heap.size w wr from by rw[ly.out];exact ay.out);have ajV:=I (show o.shr xs cz=o.gh (o.ec k (o.num xs/2^cz)) by unfold o.shr;rw[bU.out,jS.out,nI.out]);clear eX bV;go_wp2_with fail;refine bc.out.mono ?_;rintro e w' ⟨dv,rfl,uS,rfl⟩;have ki:=I uS;obtain⟨a,b,c,rfl⟩:=na uS;clear uS;go_wp2;go_ret2;exact⟨_,_,rfl,by rw[ajV.out];exact ki.out,eY.out⟩
theorem Yn (v:aw) (xs:List Nat) (cz:Nat) (w:af) (h:b2 w v xs) (ao:xs.length≤2000) (hx:∀x ∈ xs,x<4294967296) (a1:cz≤40000) :
 aq ak 75 #[v,.int .u64 cz] w (Gz w (o.shr xs cz)):=by
 rcases eh (cz/32) xs.length with bd | bd
 ·exact Yi v xs cz w h ao hx a1 bd
 ·exact Yh v xs cz w h a1 bd
theorem RN {xs:List Nat} {k x:Nat} (h:x ∈ o.shr xs k):x<4294967296:=o.z7 (x9 h)
theorem Yo (xs:List Nat) (k:Nat):(o.shr xs k).length≤xs.length:=by
 unfold o.shr;refine cp (Ae _) ?_;rw[o.wj];omega
theorem ajW (xs:List Nat) (hx:∀x ∈ xs,x<4294967296) (k:Nat):o.num (o.shr xs k)=o.num xs/2^k:=by
 unfold o.shr;rw[o.Ct,o.FX];have aa:=o.x4 xs hx;have aA:k=32*(k/32)+k%32:=by omega
 rw[kQ (ez _)];rcases eh xs.length (k/32)with h | h
 ·rw[show xs.length-k/32=0 by omega,hn,fW];refine cv aa ?_;rw[show (4294967296:Nat)=2^32 from rfl,←mi];exact dB (by decide) (by omega)
 ·refine cv aa ?_;rw[show (4294967296:Nat)=2^32 from rfl,←mi,←mi,←cm];exact dB (by decide) (by omega)
theorem ajX (l:List UInt8) (k:Nat) (w:af) (ao:l.length≤4096) (an:o.uO ab l=0) (aA:k≤32768) (h4:1≤k) (a1:(o.bytesOf (o.shr (o.words ((l.length+3)/4) l) k)).length≤4096) :
 aq ak 41 #[cO ab l,.int .i64 (-(k:Int))] w (F2 w ab (o.shr (o.words ((l.length+3)/4) l) k)):=by
 have bJ:=I (fun w=>Cw ab l w (by omega));rw[an] at bJ;have bF:=I (fun w=>Kp ab l w ao);have kG:∀x ∈ o.words ((l.length+3)/4) l,x<4294967296:=fun x hx=>by
  obtain⟨j,_,rfl⟩:=List.mem_map.1 hx;exact o.word_lt l j
 have cD:=I (fun v w (h:b2 w v (o.words ((l.length+3)/4) l))=>Yn v _ k w h (by rw[o.wh];omega) kG (by omega));have hlen:(o.words ((l.length+3)/4) l).length≤10000:=by rw[o.wh];omega
 have bc:=I (fun v w (h:b2 w v (o.shr (o.words ((l.length+3)/4) l) k))=>Kh v _ ab w h (cp (Yo _ _) hlen) (fun x hx=>RN hx) a1);generalize o.shr (o.words ((l.length+3)/4) l) k=ys at *;clear an kG a1 hlen;unfold cO at *;generalize ax l=s at *;go_enter func41,Pt;go_wp2_with fail;refine (bJ.out _).mono ?_;rintro e cq ⟨rfl,gT⟩;have tE:=I ((uX.new w ab s).below gT);obtain⟨g0,g1,_,_,_,_⟩:=tE.out.cells;clear gT;go_wp2_with fail;refine (bF.out _).mono ?_;rintro e aP ⟨v,rfl,eX,dP⟩;have x':=I (tE.out.below dP);have jh:=I eX;obtain⟨c7,o9,fj,rfl⟩:=na eX;clear dP eX tE;clear g0 g1;have gv:au (-(k:Int) < -32768)=ab:=bx (by omega);have gq:au (32768 < -(k:Int))=ab:=bx (by omega);have tA:au (0≤-(k:Int))=ab:=bx (by omega);have Rg:IntKind.u64.wrap (k:Int)=(k:Int):=pA (by omega);go_wp2_with fail;obtain⟨C,hC⟩:∃C,aP.heap.size=C:=⟨_,rfl⟩;obtain⟨aZ,bl⟩:∃aZ,aP.alloc (.cells #[.slice c7 o9 fj,.bool ab] 85)=aZ:=⟨_,rfl⟩;have hf:ah aP.heap.size aP aZ:=by rw[←bl];exact (aK _ _).alloc (aC _) _
 have wo:=I (x'.out.below hf);have ya:=I (jh.out.below hf);have aB:aZ.heap[C]? = U (.cells #[.slice c7 o9 fj,.bool ab] 85):=by rw[←bl,←hC];exact fX _ _
 have CF:C<aZ.heap.size:=(Array.getElem?_eq_some_iff.1 aB).1;rw[hC,bl];clear hf bl hC jh x';obtain⟨B,o7⟩:∃B,w.heap.size+1=B:=⟨_,rfl⟩;rw[o7];have tz:=I o7;clear o7;refine (cD.out _ _ (by exact ya.out)).mono ?_;rintro e aQ ⟨v4,lost,rfl,nb,j2⟩;have GA:=I (wo.out.below j2);have RO:aQ.heap[C]? = U (.cells #[.slice c7 o9 fj,.bool ab] 85):=by rw[j2.block _ CF];exact aB
 have K1:=I nb;obtain⟨cZ,cT,gR,rfl⟩:=na nb;have m1:aQ.cell? ⟨C,1,J⟩=U (.bool ab):=by simp[World.cell?,RO]
 have awZ:C<aQ.heap.size:=(Array.getElem?_eq_some_iff.1 RO).1;clear aB RO nb j2 ya wo cD bF bJ CF;cases lost;all_goals
  go_wp2_with fail;refine (bc.out _ _ K1.out).mono ?_;rintro e cf ⟨rfl,xX⟩;have Af:=I (GA.out.below xX);obtain⟨_,_,cl,bH,f0,f1⟩:=Af.out.cells;rw[tz.out] at cl bH f0 f1;unfold cO;obtain⟨aM,aG,gw⟩:=mo cf B (.bool (ab && !(o.bytesOf ys).isEmpty)) (.string (ax (o.bytesOf ys))) cl bH;have iV:=Af.out.low.trans (gw.mono (by have:=tz.out;omega));clear xX;simp only[ri] at aM aG gw iV ⊢;go_wp2;refine bI (v:=.tuple #[.agg #[.bool (ab && !(o.bytesOf ys).isEmpty),.string (ax (o.bytesOf ys))],.int .i64 0]) (by simp[bK,EK,go_sem,aM,aG]) rfl ⟨rfl,iV⟩
theorem ajY (V k:Nat) (w:af) (cA:V<256^4096) (aA:k≤32768) :
 aq ak 41 #[cO ab (o.bs V),.int .i64 (-(k:Int))] w fun e w'=>e=.returned (.tuple #[cO ab (o.bs (V/2^k)),.int .i64 0])∧ah w.heap.size w w':=by
 have hlen:=o.oa cA;rcases kd k with ar | ar
 ·subst ar;have h:=Rf ab (o.bs V) 0 w hlen (o.Ah cA (by simp)) (by omega) (by rw[o.CJ,hn,fI];exact hlen);refine Calls.mono ?_ (fun e w' h=>h);unfold F2 at h;rw[o.CJ,hn,fI,ri] at h;simpa using h
 ·have kG:∀x ∈ o.words (((o.bs V).length+3)/4) (o.bs V),x<4294967296:=fun x hx=>by
   obtain⟨j,_,rfl⟩:=List.mem_map.1 hx;exact o.word_lt _ j
  have ad:o.bytesOf (o.shr (o.words (((o.bs V).length+3)/4) (o.bs V)) k)=o.bs (V/2^k):=by
   rw[o.CI (fun x hx=>RN hx),ajW _ kG,o.KF _ _ (by omega),o.lC]
  have h:=ajX (o.bs V) k w hlen (o.Ah cA (by simp)) aA ar (by rw[ad];exact o.oa (gQ (s9 _ _) cA));unfold F2 at h;rw[ad,ri] at h;exact h
theorem ajZ (a:Option Addr) (n c:Nat) (b:Bool) (w:af):(Instr.field 85 (.agg #[.slice a n c,.bool b]) 0).run ak w=.ok (.slice a n c) w:=by
 simp[Instr.field,EH underlying85,part,asAgg,isAgg83,go_sem]
theorem aj0 (neg:Bool) (V:Nat) (w:af) (cA:V<256^4096) (an:o.uO neg (o.bs V)=0) :
 aq ak 79 #[cO neg (o.bs V)] w fun e w'=>e=.returned (.int .i64 (o.bt V:Nat))∧ah w.heap.size w w':=by
 have hlen:=o.oa cA;have bJ:=I (fun w=>Cw neg (o.bs V) w (by omega));rw[an] at bJ;have bF:=I (fun w=>Kp neg (o.bs V) w hlen);have kG:∀x ∈ o.words (((o.bs V).length+3)/4) (o.bs V),x<4294967296:=fun x hx=>by
  obtain⟨j,_,rfl⟩:=List.mem_map.1 hx;exact o.word_lt _ j
 have cD:=I (fun v w (h:b2 w v (o.words (((o.bs V).length+3)/4) (o.bs V)))=>Ye v _ w h (by rw[o.wh];omega) kG);rw[o.KF _ _ (by omega),o.lC] at cD;generalize o.bt V=R at *;clear an kG cA hlen;unfold cO at *;generalize ax (o.bs V)=s at *;go_enter func79,ntmps79;go_wp2_with fail;refine (bJ.out _).mono ?_;rintro e cq ⟨rfl,gT⟩;have hh:(w.alloc (.cells #[.bool neg,.string s] 46)).heap[w.heap.size]? = U (.cells #[.bool neg,.string s] 46):=fX _ _;have cQ:=I (show ah w.heap.size w cq from ((aK _ _).alloc (aC _) _).trans (gT.mono (by simp)));obtain⟨c0,c1,_⟩:=wu (ob hh gT);clear gT hh;go_wp2_with fail;refine (bF.out _).mono ?_;rintro e aP ⟨v,rfl,eX,dP⟩;have jh:=I eX;have bL:=I (cQ.out.trans (dP.mono cQ.out.size));obtain⟨c7,o9,fj,rfl⟩:=na eX;clear dP eX cQ;have aw0:=fun w=>ajZ c7 o9 fj neg w;go_wp2_with fail;refine (cD.out _ _ jh.out).mono ?_;rintro e w' ⟨rfl,rfl⟩;go_wp2;go_ret;exact⟨rfl,bL.out⟩
theorem o.K2 {l:List UInt8} {i:Nat} (h:i<l.length):o.le (l.take (i+1))=o.le (l.take i)+256^i*l[i].toNat:=by
 rw[kc h,o.CC,gN,h2 (by omega)]
theorem Yp {a b k:Nat} (aA:k<8) (aS:a<256^k) (ad:b<256):bits .or .u64 (a:Int) ((b:Int)*2^(8*k)%18446744073709551616)=((a+256^k*b:Nat):Int):=by
 have hp:(2:Nat)^(8*k)=256^k:=by rw[mi]
 have iL:256^k≤256^7:=dB (by decide) (by omega);have aw1:(256:Nat)^7=72057594037927936:=by decide
 have hm:256^k*b≤256^7*255:=kz iL (by omega);have aH:(b:Int)*2^(8*k)%18446744073709551616=((256^k*b:Nat):Int):=by
  have:(b:Int)*2^(8*k)=((256^k*b:Nat):Int):=by rw[←hp,Oh,Int.natCast_pow,Int.mul_comm];rfl
  rw[this];omega
 have kA:(2:Nat)^IntKind.u64.bits=18446744073709551616:=rfl;have hw:∀n:Nat,n<18446744073709551616→IntKind.u64.wrap (n:Int)=n:=fun n aB=>by rw[ha];omega
 have gU:a ||| 256^k*b=a+256^k*b:=by
  have:=oJ (i:=8*k) (b:=a) (by rw[hp];exact aS) b;rw[hp] at this;rw[si,←this,jv]
 rw[aH];simp only[bits,oK,vL,ns,kA];rw[eF (show a<18446744073709551616 by omega),eF (show 256^k*b<18446744073709551616 by omega),gU,hw _ (by omega)]
theorem aj1 {V a b:Nat} (h:V<256^a) (kW:a≤b):V<256^b:=cv h (dB (by decide) kW)
theorem aj2 {V:Nat} (h:V<9223372036854775808):o.uO ab (o.bs V)=0:=by
 have jn:V<256^8:=cv h (by decide);refine o.Ah ?_ (by simp);obtain⟨b,ad⟩:∃b,b=4096:=⟨_,rfl⟩;rw[←ad];exact aj1 jn (by omega)
theorem aj3 (V:Nat) (w:af) (cA:V<9223372036854775808) :
 aq ak 53 #[cO ab (o.bs V)] w fun e w'=>e=.returned (.tuple #[.int .i64 V,.bool ai])∧ah w.heap.size w w':=by
 have hlen:(o.bs V).length≤8:=o.oa (by omega);have bJ:=I (fun w=>Cw ab (o.bs V) w (by omega));rw[aj2 cA] at bJ;have x8:=I (o.lC V);generalize o.bs V=l at *;unfold cO at *;have b5:(ax l).size=l.length:=rfl;have iM:=I (x2 l);generalize ax l=s at *;obtain⟨N,cW⟩:∃N,l.length=N:=⟨_,rfl⟩;rw[cW] at b5 hlen;have bU:=I cW;clear cW;have GB:au (8<(N:Int))=ab:=bx (by omega);go_enter func53,Pw;go_wp2_with fail;refine (bJ.out _).mono ?_;rintro e cq ⟨rfl,gT⟩;have hh:(w.alloc (.cells #[.bool ab,.string s] 46)).heap[w.heap.size]? = U (.cells #[.bool ab,.string s] 46):=fX _ _;have cQ:=I (show ah w.heap.size w cq from ((aK _ _).alloc (aC _) _).trans (gT.mono (by simp)));obtain⟨c0,c1,_⟩:=wu (ob hh gT);clear gT hh bJ;go_wp2;go_loop [4,19] (fun x i=>∃k:Nat,k≤N∧i=.int .i64 k∧x=.int .u64 (o.le (l.take k):Nat)) (fun _ i=>N-(RowKit.intOf i).toNat);case atStart=>exact⟨0,il _,rfl,by simp[o.le]⟩
 case round=>
  obtain⟨k,aA,rfl,rfl⟩:=hrel;by_cases bV:k<N
  ·have eM:k<l.length:=by rw[bU.out];exact bV
   have q:k<s.size:=by omega
   have jP:s[k]'q=l[k]:=iM.out.get eM q (by omega);have ej:=o.K2 eM;have k2:=o.ru (l.take k);rw[gN,h2 (by omega)] at k2;obtain⟨c,an⟩:∃c,l[k]=c:=⟨_,rfl⟩;rw[an] at jP ej;have Ce:=c.toNat_lt;have gU:=Yp (a:=o.le (l.take k)) (b:=c.toNat) (k:=k) (by omega) k2 (by omega);rw[←ej] at gU;have aN:=I gU;clear ej k2 an gU;generalize o.le (l.take k)=a0 at *;obtain⟨b1,Ay⟩:∃b1,o.le (l.take (k+1))=b1:=⟨_,rfl⟩;rw[Ay] at aN;have Az:=I Ay;clear Ay;have gU:=aN.out;rw[←ha] at gU;go_wp2;go_round;case rel=>exact⟨k+1,by omega,by go_num,by rw[Az.out]⟩
   case measure=>simp[RowKit.intOf];omega
  ·obtain rfl:k=N:=by omega
   rw[fp (by rw[bU.out];exact aC _),x8.out];go_wp2;go_ret2;exact⟨rfl,cQ.out⟩
def In64 (n:Int):Prop:=-9223372036854775808≤n∧n≤9223372036854775807
instance (n:Int):Decidable (In64 n):=by unfold In64;infer_instance
def fU (n:Int):aw:=if In64 n then .tuple #[.int .i64 n,.bool ai] else .tuple #[.int .i64 0,.bool ab]
theorem K3 (n:Int) (w:af) (aB:o.bO n) :
 aq ak 53 #[bz n] w fun e w'=>e=.returned (fU n)∧ah w.heap.size w w':=by
 have bJ:=I (fun W=>Ge n W aB);obtain⟨dJ,hz⟩:∃dJ,au (n<0)=dJ:=⟨_,rfl⟩;have aS:bz n=.agg #[.bool dJ,.string (ax (o.bs n.natAbs))]:=by unfold bz cO;rw[hz]
 rw[aS] at bJ ⊢;clear aS;obtain⟨l,ao⟩:∃l,o.bs n.natAbs=l:=⟨_,rfl⟩;have hle:o.le l=n.natAbs:=by rw[←ao,o.lC]
 have bV:=o.ru l;have nf:8<l.length→18446744073709551616≤n.natAbs:=fun h=>by
  have aa:=o.wq (o.sx n.natAbs) (by rw[ao];intro e;rw[e] at h;simp at h);rw[ao,hle] at aa;refine cp ?_ aa;rw[show (18446744073709551616:Nat)=256^8 from rfl];exact dB (by decide) (by omega)
 rw[ao] at bJ ⊢;clear ao;have b5:(ax l).size=l.length:=rfl;have iM:=I (x2 l);generalize ax l=s at *;obtain⟨N,cW⟩:∃N,l.length=N:=⟨_,rfl⟩;have bU:=I cW;rw[cW] at b5 nf bV;clear cW;obtain⟨ag,a6⟩:∃ag,w.alloc (.cells #[.bool dJ,.string s] 46)=ag:=⟨_,rfl⟩;have cY:Hid (aI ag w.heap.size 46 (.bool dJ) (.string s)):=I (by rw[←a6];exact aI.new _ _ _ _);have cQ:Hid (ah w.heap.size w ag):=I (by rw[←a6];exact (aK _ _).alloc (aC _) _);have dH:w.heap.size+1≤ag.heap.size:=by rw[←a6];simp
 obtain⟨cn,bY,_,_⟩:=cY.out.cells;rcases eh 8 N with jn | jn
 ·have ad:=nf jn;have cM:Hid (fU n=.tuple #[.int .i64 0,.bool ab]):=I (by
   unfold fU;rw[aU];unfold In64;omega)
  have GB:au (8<(N:Int))=ai:=bE (by omega);clear ad nf bV hle;go_enter func53,Pw;go_wp2_with fail;refine (bJ.out _).mono ?_;rintro e cq ⟨rfl,dD⟩;have AA:=I (cY.out.below dD);have bL:=I (chain cQ.out dD (by omega));clear cn bY dD;obtain⟨cn,bY,_,_⟩:=AA.out.cells;go_wp2;go_ret2;exact⟨by rw[cM.out];rfl,bL.out⟩
 ·have GB:au (8<(N:Int))=ab:=bx (by omega);have AB:n.natAbs<18446744073709551616:=by
   rw[←hle];refine cv bV ?_;rw[show (18446744073709551616:Nat)=256^8 from rfl];exact dB (by decide) jn
  have x8:=I hle;clear nf bV hle;go_enter func53,Pw;go_wp2_with fail;refine (bJ.out _).mono ?_;rintro e cq ⟨rfl,dD⟩;have AA:=I (cY.out.below dD);have bL:=I (chain cQ.out dD (by omega));clear cn bY dD;obtain⟨c0,c1,_,_⟩:=AA.out.cells;go_wp2;go_loop [4,19] (fun x i=>∃k:Nat,k≤N∧i=.int .i64 k∧x=.int .u64 (o.le (l.take k):Nat)) (fun _ i=>N-(RowKit.intOf i).toNat);case atStart=>exact⟨0,il _,rfl,by simp[o.le]⟩
  case round=>
   obtain⟨k,aA,rfl,rfl⟩:=hrel;by_cases bV:k<N
   ·have eM:k<l.length:=by rw[bU.out];exact bV
    have q:k<s.size:=by omega
    have jP:s[k]'q=l[k]:=iM.out.get eM q (by omega);have ej:=o.K2 eM;have k2:=o.ru (l.take k);rw[gN,h2 (by omega)] at k2;obtain⟨c,an⟩:∃c,l[k]=c:=⟨_,rfl⟩;rw[an] at jP ej;have Ce:=c.toNat_lt;have gU:=Yp (a:=o.le (l.take k)) (b:=c.toNat) (k:=k) (by omega) k2 (by omega);rw[←ej] at gU;have aN:=I gU;clear ej k2 an gU;generalize o.le (l.take k)=a0 at *;obtain⟨b1,Ay⟩:∃b1,o.le (l.take (k+1))=b1:=⟨_,rfl⟩;rw[Ay] at aN;have Az:=I Ay;clear Ay;have gU:=aN.out;rw[←ha] at gU;go_wp2;go_round;case rel=>exact⟨k+1,by omega,by go_num,by rw[Az.out]⟩
    case measure=>simp[RowKit.intOf];omega
   ·obtain rfl:k=N:=by omega
    rw[fp (by rw[bU.out];exact aC _),x8.out];obtain⟨V,cA⟩:∃V,n.natAbs=V:=⟨_,rfl⟩;rw[cA] at AB ⊢;cases dJ
    ·have kh:=vI hz;rcases eh V 9223372036854775808 with aD | aD
     ·have cM:Hid (fU n=.tuple #[.int .i64 V,.bool ai]):=I (by
       unfold fU;rw[ba (by unfold In64;omega),show n=(V:Int) by omega])
      have hw:IntKind.i64.wrap (V:Int)=V:=gF _ (by omega);have aL:au ((V:Int)<0)=ab:=bx (by omega);go_wp2;go_ret2;exact⟨by rw[cM.out];rfl,bL.out⟩
     ·have cM:Hid (fU n=.tuple #[.int .i64 0,.bool ab]):=I (by
       unfold fU;rw[aU (by unfold In64;omega)])
      have hw:IntKind.i64.wrap (V:Int)=(V:Int)-18446744073709551616:=by rw[sb];omega
      have aL:au ((V:Int)-18446744073709551616<0)=ai:=bE (by omega);go_wp2;go_ret2;exact⟨by rw[cM.out];rfl,bL.out⟩
    ·have kh:=jb hz;rcases eh V 9223372036854775808 with aD | aD
     ·have cM:Hid (fU n=.tuple #[.int .i64 (-(V:Int)),.bool ai]):=I (by
       unfold fU;rw[ba (by unfold In64;omega),show n = -(V:Int) by omega])
      have hw:IntKind.i64.wrap (V:Int)=V:=gF _ (by omega);have uH:IntKind.i64.wrap (-(V:Int)) = -(V:Int):=gF _ (by omega);have aL:au (-(V:Int)<0)=ai:=bE (by omega);have gq:0<V:=by omega
      go_wp2;go_ret2;exact⟨by rw[cM.out];rfl,bL.out⟩
     ·rcases Nat.eq_or_lt_of_le aD with ml | ml
      ·have cM:Hid (fU n=.tuple #[.int .i64 (-(V:Int)),.bool ai]):=I (by
        unfold fU;rw[ba (by unfold In64;omega),show n = -(V:Int) by omega])
       have hw:IntKind.i64.wrap (V:Int)=(V:Int)-18446744073709551616:=by rw[sb];omega
       have uH:IntKind.i64.wrap (-((V:Int)-18446744073709551616)) = -(V:Int):=by rw[sb];omega
       have aL:au (-(V:Int)<0)=ai:=bE (by omega);have gq:0<V:=by omega
       clear ml aD AB;go_wp2;go_ret2;exact⟨by rw[cM.out];rfl,bL.out⟩
      ·have cM:Hid (fU n=.tuple #[.int .i64 0,.bool ab]):=I (by
        unfold fU;rw[aU (by unfold In64;omega)])
       have hw:IntKind.i64.wrap (V:Int)=(V:Int)-18446744073709551616:=by rw[sb];omega
       have uH:IntKind.i64.wrap (-((V:Int)-18446744073709551616))=18446744073709551616-(V:Int):=by rw[sb];omega
       have aL:au (18446744073709551616-(V:Int)<0)=ab:=bx (by omega);go_wp2;go_ret2;exact⟨by rw[cM.out];rfl,bL.out⟩
def mb (w:af) (v:aw) (l:List UInt8):Prop:=
 (v=.slice J 0 0∧l=[])∨∃b cap,v=.slice (U ⟨b,0,J⟩) l.length cap∧l.length≤cap∧b<w.heap.size∧∀(j:Nat) (x:UInt8),l[j]? = U x→w.cell? ⟨b,j,J⟩=U (.int .u8 x.toNat)
theorem mb.below {w w':af} {v:aw} {l:List UInt8} (h:mb w v l) (ad:ah w.heap.size w w'):mb w' v l:=by
 rcases h with h | ⟨b,cap,aa,ae,aJ,bQ⟩
 ·exact .inl h
 ·exact .inr ⟨b,cap,aa,ae,cv aJ ad.size,fun j x hx=>by rw[ad.cell (p:=⟨b,j,J⟩) aJ];exact bQ j x hx⟩
theorem mb.form {w:af} {v:aw} {l:List UInt8} (h:mb w v l):∃a c,v=.slice a l.length c:=by
 rcases h with ⟨aa,ae⟩ | ⟨b,cap,aa,_⟩
 ·exact⟨J,0,by rw[aa,ae];rfl⟩
 ·exact⟨_,_,aa⟩
theorem mb.cell {w:af} {a:Option Addr} {n c:Nat} {l:List UInt8} (h:mb w (.slice a n c) l) {j:Nat} {x:UInt8} (hx:l[j]? = U x):∃b,a=U ⟨b,0,J⟩∧b<w.heap.size∧w.cell? ⟨b,j,J⟩=U (.int .u8 x.toNat):=by
 rcases h with ⟨_,ae⟩ | ⟨b,cap,aa,_,aJ,bQ⟩
 ·rw[ae] at hx;cases hx
 ·injection aa with aH _ _;exact⟨b,aH,aJ,bQ j x hx⟩
theorem mb.Uv {w:af} {base n:Nat} {v:aw} {l:List UInt8} (h:cB w base 5 1 v n (cV l)):mb w v l:=by
 have ao:=h.1;rw[fI] at ao;have A6:l.length=n:=by simpa[cV] using ao
 rcases h.2 with ⟨aa,ae⟩ | ⟨g,cap,cur,fY,aa,ad,aY,qo,tp,kf,jL,bn⟩
 ·exact .inl ⟨aa,List.length_eq_zero_iff.1 (by omega)⟩
 ·refine .inr ⟨g,cap,by rw[A6];exact aa,by omega,(Array.getElem?_eq_some_iff.1 aY).1,fun j x hx=>?_⟩;have:=h.cells (g:=g) (by rw[aa];rfl) j (.int .u8 x.toNat) (by simp[cV,hx]);have e:(⟨g,0,J⟩:Addr).add j=⟨g,j,J⟩:=by unfold Addr.add;split<;>simp_all
  rw[e] at this;exact this
def ap' (w:af) (l:List UInt8) (e:Ending) (w':af):Prop:=∃dv,e=.returned dv∧mb w dv (o.strip l)∧w=w'
def aqa (w:af) (v:aw) (l:List UInt8) (e:Ending) (w':af):Prop:=∃dv,e=.returned dv∧mb w dv (o.strip l)∧w=w'∧dv.ownBlock=v.ownBlock
theorem adh (c:UInt8):((c.toNat:Int)==0)=(c==0):=by
 rw[mg,gy,gy];constructor
 ·intro h;exact UInt8.toNat_inj.1 (by simp;omega)
 ·intro h;subst h;rfl
theorem aqb (v:aw) (l:List UInt8) (w:af) (h:mb w v l) (ao:l.length≤100000):aq ak 197 #[v] w (aqa w v l):=by
 rcases h with ⟨rfl,rfl⟩ | ⟨b,cap,rfl,ae,aJ,bQ⟩
 ·go_enter func197,ntmps197;go_wp2_with fail;refine BN 1 ?_;rw[BX];go_wp2;go_ret;exact⟨_,rfl,.inl ⟨rfl,rfl⟩,rfl,rfl⟩
 ·have FL:=I bQ;clear bQ;obtain⟨n,aB⟩:∃n,l.length=n:=⟨_,rfl⟩;rw[aB] at ae ao ⊢;have bU:=I aB;clear aB;go_enter func197,ntmps197;go_wp2;go_loop [0] (fun s=>∃k:Nat,k≤n∧s=.slice (U ⟨b,0,J⟩) k cap∧Hid (o.strip (l.take k)=o.strip l)) (fun s=>match s with | .slice _ k _=>k | _=>0);case atStart=>exact⟨n,aC _,rfl,I (by rw[fp (by rw[bU.out];exact aC _)])⟩
  case round=>
   obtain⟨k,aA,rfl,aX⟩:=hrel;cases k with
   | zero=>
     go_wp2;go_ret;exact⟨_,rfl,.inr ⟨b,cap,by rw[←aX.out];rfl,by rw[←aX.out];simp[o.strip],aJ,fun j x hx=>by rw[←aX.out] at hx;simp[o.strip] at hx⟩,rfl,rfl⟩
   | succ k=>
     have fh:k<l.length:=by rw[bU.out];omega
     have an:=FL.out k l[k] (eE fh);have bc:=I (show l.take (k+1)=l.take k++[l[k]] from kc fh);generalize l[k]=c at an bc;have DO:=adh c;by_cases ar:c=0
     ·have im:((c.toNat:Int)==0)=ai:=by rw[DO,ar];rfl
      have aN:=I (show o.strip (l.take k)=o.strip l by rw[←aX.out,bc.out,ar,o.WW]);clear ar bc aX DO;go_wp2;go_round;case rel=>exact⟨k,by omega,rfl,aN⟩
      case measure=>simp
     ·have im:((c.toNat:Int)==0)=ab:=by rw[DO];simpa using ar
      have aN:=I (show o.strip l=l.take (k+1) by rw[←aX.out,bc.out,o.WX ar]);clear ar bc aX DO;go_wp2;go_ret;have hlen:(l.take (k+1)).length=k+1:=by rw[gN,bU.out];omega
      refine⟨_,rfl,.inr ⟨b,cap,by rw[aN.out,hlen];rfl,by rw[aN.out,hlen];omega,aJ,fun j x hx=>?_⟩,rfl,rfl⟩;rw[aN.out] at hx;rw[rb] at hx;split at hx
      ·exact FL.out j x hx
      ·cases hx
theorem aqc (v:aw) (l:List UInt8) (w:af) (h:mb w v l) (ao:l.length≤100000):aq ak 197 #[v] w (ap' w l):=
 (aqb v l w h ao).mono fun _ _ ⟨dv,aa,ae,aJ,_⟩=>⟨dv,aa,ae,aJ⟩
namespace o
theorem Uw (l:List UInt8) (x:Nat) (h:x<256):le (l++[UInt8.ofNat x])=le l+256^l.length*x:=by
 rw[CC];congr 2;simp[xl];omega
end o
theorem aqd {l:List UInt8} {V:Nat} (h:o.le l=V):o.strip l=o.bs V:=o.CH (o.XD l) (o.sx V) (by rw[o.XC,h,o.lC])
theorem Ux {r:Nat} (h:r<256):cV [UInt8.ofNat r]=[.int .u8 (r:Int)]:=by
 have e:(UInt8.ofNat r).toNat=r:=by simp[xl];omega
 simp only[cV,tb,EX,e]
theorem Mx {w:af} {v:aw} {l:List UInt8} (h:mb w v l):(convert 109 9 v).run ak w=.ok (.string ⟨l.toArray⟩) w:=by
 rcases h with ⟨rfl,rfl⟩ | ⟨b,cap,rfl,ae,aJ,bQ⟩
 ·rw[IJ w 109 9 5 J 0 0 mL ke jH];simp[Conv.bytesToString,O7];rfl
 ·rw[IJ w 109 9 5 _ l.length cap mL ke jH];have Qa:(loadCells ⟨b,0,J⟩ l.length).run ak w=.ok ((l.map fun b=>(b.toNat:Int)).map (Value.int .u8)).toArray w:=by
   have dm:=run_loadCells_list (P:=ak) w ⟨b,0,J⟩ (l.map fun b=>Value.int .u8 b.toNat) (fun j u hu=>by
    have e:(⟨b,0,J⟩:Addr).add j=⟨b,j,J⟩:=by unfold Addr.add;split<;>simp_all
    rw[e];rw[ps] at hu;obtain⟨x,hx,rfl⟩:=Option.map_eq_some_iff.1 hu;exact bQ j x hx)
   rw[rh] at dm;rw[dm,BR];rfl
  rw[run_bytesToString w ⟨b,0,J⟩ l.length cap _ Qa,foldl_push];simp
theorem aqe (v:aw) (l:List UInt8) (neg:Bool) (w:af) (h:mb w v l) (ao:l.length≤100000) (cA:o.le l<256^4096) :
 aq ak 164 #[v,.bool neg] w fun e w'=>e=.returned (.tuple #[cO (neg && !decide (o.le l=0)) (o.bs (o.le l)),.int .i64 0])∧ah w.heap.size w w':=by
 have bc:=I (fun (W:af) (az:ah w.heap.size w W)=>aqc v l W (h.below az) ao);have aN:=I (aqd (l:=l) rfl);have aqf:=I (o.oa cA);have dd:=I (o.sy (o.le l));obtain⟨c7,fj,rfl⟩:=h.form;generalize o.bs (o.le l)=D at *;generalize au (o.le l=0)=z at *;clear h cA;unfold cO;go_enter func164,ntmps164;go_wp2_with fail;refine (bc.out _ ((aK _ _).alloc (aC _) _)).mono ?_;rintro e w' ⟨dv,rfl,aF,rfl⟩;rw[aN.out] at aF;have ej:=Mx aF;obtain⟨a2,c2,rfl⟩:=aF.form;have xP:=aqf.out;have aX:z=au (D.length=0):=by
  rw[←dd.out];cases D<;>rfl
 have aL:au (4096<(D.length:Int))=ab:=bx (by omega);have dM:Hid (ax D=⟨D.toArray⟩):=I rfl;have fQ:=I aX;clear aF aX;cases neg
 ·go_wp2_with fail;have hh:(w.alloc (.cells #[.bool ab,.string ⟨D.toArray⟩] 46)).heap[w.heap.size]? = U (.cells #[.bool ab,.string ⟨D.toArray⟩] 46):=fX _ _;have az:ah w.heap.size w (w.alloc (.cells #[.bool ab,.string ⟨D.toArray⟩] 46)):=(aK _ _).alloc (aC _) _;generalize w.alloc (.cells #[.bool ab,.string ⟨D.toArray⟩] 46)=cq at hh az ⊢;have c0:cq.cell? ⟨w.heap.size,0,J⟩=U (.bool ab):=by simp[World.cell?,hh]
  have c1:cq.cell? ⟨w.heap.size,1,J⟩=U (.string ⟨D.toArray⟩):=by simp[World.cell?,hh]
  exact bI (v:=.tuple #[.agg #[.bool ab,.string ⟨D.toArray⟩],.int .i64 0]) (by simp[bK,results164,go_sem,c0,c1]) rfl ⟨rfl,az⟩
 ·go_wp2_with fail;obtain⟨y,aW⟩:∃y,au (0<D.length)=y:=⟨_,rfl⟩;have hi:=I (show (!z)=y by rw[fQ.out,←aW];cases D<;>simp);rw[aW];have hh:(w.alloc (.cells #[.bool y,.string ⟨D.toArray⟩] 46)).heap[w.heap.size]? = U (.cells #[.bool y,.string ⟨D.toArray⟩] 46):=fX _ _;have az:ah w.heap.size w (w.alloc (.cells #[.bool y,.string ⟨D.toArray⟩] 46)):=(aK _ _).alloc (aC _) _;generalize w.alloc (.cells #[.bool y,.string ⟨D.toArray⟩] 46)=cq at hh az ⊢;have c0:cq.cell? ⟨w.heap.size,0,J⟩=U (.bool y):=by simp[World.cell?,hh]
  have c1:cq.cell? ⟨w.heap.size,1,J⟩=U (.string ⟨D.toArray⟩):=by simp[World.cell?,hh]
  exact bI (v:=.tuple #[.agg #[.bool y,.string ⟨D.toArray⟩],.int .i64 0]) (by simp[bK,results164,go_sem,c0,c1]) rfl ⟨by rw[sg,hi.out],az⟩
theorem My {l:List UInt8} {c:UInt8} (h:c≠0):o.Canon (l++[c]):=by
 unfold o.Canon;rw[List.getLast?_append];simpa using h
theorem aqg (n:Int) (w:af) (aa:-9223372036854775808≤n) (ae:n≤9223372036854775807) :
 aq ak 124 #[.int .i64 n] w fun e w'=>e=.returned (bz n)∧ah w.heap.size w w':=by
 obtain⟨A,be⟩:∃A,n.natAbs=A:=⟨_,rfl⟩;have adi:A<18446744073709551616:=by omega
 have cD:Hid (bz n=.agg #[.bool (au (n<0)),.string (ax (o.bs A))]):=I (by unfold bz cO;rw[be]);rw[cD.out];have HV:(au (n<0)=ai∧IntKind.u64.wrap (-IntKind.u64.wrap n)=(A:Int))∨(au (n<0)=ab∧IntKind.u64.wrap n=(A:Int)):=by
  by_cases h:n<0
  ·exact .inl ⟨bE h,by rw[ha,ha];omega⟩
  ·exact .inr ⟨bx h,by rw[ha];omega⟩
 clear be cD;rcases HV with ⟨aL,hw⟩ | ⟨aL,hw⟩
 ·go_enter func124,ntmps124;go_wp2_with fail;obtain⟨gS,iU⟩:∃gS,w.alloc (.cells #[.bool ab,.string ⟨#[]⟩] 46)=gS:=⟨_,rfl⟩;have a6:gS.heap.size=w.heap.size+1:=by rw[←iU];simp
  have v8:=I (show gS.heap[w.heap.size]? = U (.cells #[.bool ab,.string ⟨#[]⟩] 46) by rw[←iU];exact fX _ _);have mV:=I (show ah w.heap.size w gS by rw[←iU];exact (aK _ _).alloc (aC _) _);rw[iU];have yG:=I a6;clear iU a6;go_loopw [3,4] (fun s y wr=>∃(x:Nat) (out:List UInt8),y=.int .u64 x∧x<18446744073709551616∧out.length≤8∧Hid (o.le out+256^out.length*x=A∧(x=0→o.Canon out))∧cB wr (w.heap.size+1) 5 1 s out.length (cV out)∧ah (w.heap.size+1) gS wr∧w.heap.size+1≤wr.heap.size) (fun _ y _=>(RowKit.intOf y).toNat);case atStart=>exact⟨A,[],rfl,adi,by simp,I ⟨by simp[o.le],fun _=>by simp[o.Canon]⟩,cB.nil _ _ _ _,aK _ _,by rw[yG.out];omega⟩
  case round=>
   obtain⟨x,out,rfl,gH,aqh,p7,b6,az,a1⟩:=hrel;have bF:=I b6;have ay:=I az;obtain⟨b1,c1,rfl⟩:=b6.form;clear b6 az;by_cases hp:0<x
   ·obtain⟨aD,_⟩:=p7.out;have hlen:out.length<8:=by
     rcases eh out.length 8 with h | h
     ·exact h
     ·have aJ:256^8≤256^out.length:=dB (by decide) h;have bQ:256^out.length*1≤256^out.length*x:=gp _ hp;have dm:(256:Nat)^8=18446744073709551616:=by decide
      omega
    obtain⟨r,aF⟩:∃r,x%256=r:=⟨_,rfl⟩;obtain⟨q,aE⟩:∃q,x/256=q:=⟨_,rfl⟩;have m':r<256:=by omega
    have hx:x=r+256*q:=by omega
    have cM:=I (show o.le (out++[UInt8.ofNat r])+256^(out++[UInt8.ofNat r]).length*q=A∧(q=0→o.Canon (out++[UInt8.ofNat r])) by
     constructor
     ·rw[o.Uw _ _ m',ey,pr,ei,←aD,hx,fP,cE];omega
     ·intro ar;apply My;intro e;have aT:=eS UInt8.toNat e;simp[xl] at aT;omega)
    have Ha:(x:Int)%256=(r:Int):=by omega
    have LS:(x:Int)/256=(q:Int):=by omega
    have kK:(x:Int).tmod 256=(r:Int):=by rw[Ea (by omega)];omega
    have LU:(x:Int).tdiv 256=(q:Int):=by rw[D' (by omega)];omega
    have aqi:q<x:=by omega
    have kS:au (0<(x:Int))=ai:=bE (by omega);clear aD p7 aF aE hx;go_wp2_with (at_builtin;refine iI rfl (.tmp 13) (.tmp 17) rfl (w.heap.size+1) _ _ _ rfl bF.out [.int .u8 (r:Int)] rfl (jz (news:=[(r:Int)])) (by simp only[ch,du];omega) (by omega) ?_);intro v2 aP iJ gJ;have sq:=I iJ;have o5:=I gJ;obtain⟨a2,c2,rfl⟩:=iJ.form;clear iJ gJ;go_wp2;go_roundw;case rel=>
     refine⟨q,out++[UInt8.ofNat r],by go_num,by omega,by simp;omega,cM,?_,o5.out.below ay.out a1 (fun g aY=>(bF.out.lt g aY).1),cp a1 o5.out.1.size⟩;have ae:=sq.out;rw[nE,Ux m',ey];exact ae
    case measure=>simp[RowKit.intOf];omega
   ·obtain rfl:x=0:=by omega
    obtain⟨aD,yv⟩:=p7.out;have dM:=I (show out=o.bs A from o.CH (yv rfl) (o.sx A) (by rw[o.lC,←aD];simp));have kF:wr.heap[w.heap.size]? = U (.cells #[.bool ab,.string ⟨#[]⟩] 46):=by rw[ay.out.block _ (by omega)];exact v8.out
    have cl:wr.cell? ⟨w.heap.size,0,J⟩=U (.bool ab):=by simp[World.cell?,kF]
    have bH:wr.cell? ⟨w.heap.size,1,J⟩=U (.string ⟨#[]⟩):=by simp[World.cell?,kF]
    have f0:wr.frozen? ⟨w.heap.size,0,J⟩=ab:=by simp[World.frozen?,kF]
    have f1:wr.frozen? ⟨w.heap.size,1,J⟩=ab:=by simp[World.frozen?,kF]
    have ej:=Mx (mb.Uv bF.out);have eY:=I (show ah w.heap.size w wr from mV.out.trans (ay.out.mono (by omega)));obtain⟨S,cP⟩:∃S:ByteArray,(⟨out.toArray⟩:ByteArray)=S:=⟨_,rfl⟩;rw[cP] at ej;have aN:=I (show ax (o.bs A)=S by rw[←dM.out,←cP]);clear aD yv p7 kF cP;go_wp2_with fail;obtain⟨aM,aG,gw⟩:=mo wr w.heap.size (.bool (au (n<0))) (.string S) cl bH;rw[aL] at aM aG gw;refine bI (v:=.agg #[.bool ai,.string S]) (by simp[bK,results124,go_sem,aM,aG]) rfl ⟨by rw[aL,aN.out],eY.out.trans gw⟩
 ·go_enter func124,ntmps124;go_wp2_with fail;obtain⟨gS,iU⟩:∃gS,w.alloc (.cells #[.bool ab,.string ⟨#[]⟩] 46)=gS:=⟨_,rfl⟩;have a6:gS.heap.size=w.heap.size+1:=by rw[←iU];simp
  have v8:=I (show gS.heap[w.heap.size]? = U (.cells #[.bool ab,.string ⟨#[]⟩] 46) by rw[←iU];exact fX _ _);have mV:=I (show ah w.heap.size w gS by rw[←iU];exact (aK _ _).alloc (aC _) _);rw[iU];have yG:=I a6;clear iU a6;go_loopw [3,4] (fun s y wr=>∃(x:Nat) (out:List UInt8),y=.int .u64 x∧x<18446744073709551616∧out.length≤8∧Hid (o.le out+256^out.length*x=A∧(x=0→o.Canon out))∧cB wr (w.heap.size+1) 5 1 s out.length (cV out)∧ah (w.heap.size+1) gS wr∧w.heap.size+1≤wr.heap.size) (fun _ y _=>(RowKit.intOf y).toNat);case atStart=>exact⟨A,[],rfl,adi,by simp,I ⟨by simp[o.le],fun _=>by simp[o.Canon]⟩,cB.nil _ _ _ _,aK _ _,by rw[yG.out];omega⟩
  case round=>
   obtain⟨x,out,rfl,gH,aqh,p7,b6,az,a1⟩:=hrel;have bF:=I b6;have ay:=I az;obtain⟨b1,c1,rfl⟩:=b6.form;clear b6 az;by_cases hp:0<x
   ·obtain⟨aD,_⟩:=p7.out;have hlen:out.length<8:=by
     rcases eh out.length 8 with h | h
     ·exact h
     ·have aJ:256^8≤256^out.length:=dB (by decide) h;have bQ:256^out.length*1≤256^out.length*x:=gp _ hp;have dm:(256:Nat)^8=18446744073709551616:=by decide
      omega
    obtain⟨r,aF⟩:∃r,x%256=r:=⟨_,rfl⟩;obtain⟨q,aE⟩:∃q,x/256=q:=⟨_,rfl⟩;have m':r<256:=by omega
    have hx:x=r+256*q:=by omega
    have cM:=I (show o.le (out++[UInt8.ofNat r])+256^(out++[UInt8.ofNat r]).length*q=A∧(q=0→o.Canon (out++[UInt8.ofNat r])) by
     constructor
     ·rw[o.Uw _ _ m',ey,pr,ei,←aD,hx,fP,cE];omega
     ·intro ar;apply My;intro e;have aT:=eS UInt8.toNat e;simp[xl] at aT;omega)
    have Ha:(x:Int)%256=(r:Int):=by omega
    have LS:(x:Int)/256=(q:Int):=by omega
    have kK:(x:Int).tmod 256=(r:Int):=by rw[Ea (by omega)];omega
    have LU:(x:Int).tdiv 256=(q:Int):=by rw[D' (by omega)];omega
    have aqi:q<x:=by omega
    have kS:au (0<(x:Int))=ai:=bE (by omega);clear aD p7 aF aE hx;go_wp2_with (at_builtin;refine iI rfl (.tmp 13) (.tmp 17) rfl (w.heap.size+1) _ _ _ rfl bF.out [.int .u8 (r:Int)] rfl (jz (news:=[(r:Int)])) (by simp only[ch,du];omega) (by omega) ?_);intro v2 aP iJ gJ;have sq:=I iJ;have o5:=I gJ;obtain⟨a2,c2,rfl⟩:=iJ.form;clear iJ gJ;go_wp2;go_roundw;case rel=>
     refine⟨q,out++[UInt8.ofNat r],by go_num,by omega,by simp;omega,cM,?_,o5.out.below ay.out a1 (fun g aY=>(bF.out.lt g aY).1),cp a1 o5.out.1.size⟩;have ae:=sq.out;rw[nE,Ux m',ey];exact ae
    case measure=>simp[RowKit.intOf];omega
   ·obtain rfl:x=0:=by omega
    obtain⟨aD,yv⟩:=p7.out;have dM:=I (show out=o.bs A from o.CH (yv rfl) (o.sx A) (by rw[o.lC,←aD];simp));have kF:wr.heap[w.heap.size]? = U (.cells #[.bool ab,.string ⟨#[]⟩] 46):=by rw[ay.out.block _ (by omega)];exact v8.out
    have cl:wr.cell? ⟨w.heap.size,0,J⟩=U (.bool ab):=by simp[World.cell?,kF]
    have bH:wr.cell? ⟨w.heap.size,1,J⟩=U (.string ⟨#[]⟩):=by simp[World.cell?,kF]
    have f0:wr.frozen? ⟨w.heap.size,0,J⟩=ab:=by simp[World.frozen?,kF]
    have f1:wr.frozen? ⟨w.heap.size,1,J⟩=ab:=by simp[World.frozen?,kF]
    have ej:=Mx (mb.Uv bF.out);have eY:=I (show ah w.heap.size w wr from mV.out.trans (ay.out.mono (by omega)));obtain⟨S,cP⟩:∃S:ByteArray,(⟨out.toArray⟩:ByteArray)=S:=⟨_,rfl⟩;rw[cP] at ej;have aN:=I (show ax (o.bs A)=S by rw[←dM.out,←cP]);clear aD yv p7 kF cP;go_wp2_with fail;obtain⟨aM,aG,gw⟩:=mo wr w.heap.size (.bool (au (n<0))) (.string S) cl bH;rw[aL] at aM aG gw;refine bI (v:=.agg #[.bool ab,.string S]) (by simp[bK,results124,go_sem,aM,aG]) rfl ⟨by rw[aL,aN.out],eY.out.trans gw⟩
theorem aqj (neg:Bool) (V:Nat) (w:af) (cA:V<256^4096) (aB:neg=ai→V≠0) :
 aq ak 165 #[cO neg (o.bs V)] w fun e w'=>e=.returned (.int .i64 0)∧ah w.heap.size w w':=by
 have hlen:=o.oa cA;have HW:=o.sx V;have Uy:=o.sy V;unfold cO;have b5:(ax (o.bs V)).size=(o.bs V).length:=rfl;have iM:=I (x2 (o.bs V));generalize o.bs V=D at *;generalize ax D=s at *;by_cases ar:D=[]
 ·subst ar;have kh:neg=ab:=by
   cases neg
   ·rfl
   ·exact absurd (by simpa using Uy) (aB rfl)
  subst kh;rw[du] at b5;clear aB cA HW Uy iM hlen;go_enter func165,ntmps165;go_wp2;go_ret;exact⟨rfl,(aK _ _).alloc (aC _) _⟩
 ·obtain⟨n,w2⟩:∃n,D.length=n+1:=⟨D.length-1,by have:=List.length_pos_iff.2 ar;omega⟩;have Cx:n<D.length:=by omega
  have q:n<s.size:=by omega
  have jP:s[n]'q=D[n]:=iM.out.get Cx q (by omega);have bT:D[n]≠0:=by
   intro e;apply HW;rw[VV,w2,nt,eE Cx,e]
  have DO:=adh D[n];rw[show (D[n]==0)=ab by simpa using bT] at DO;generalize D[n]=c at *;rw[w2] at b5 hlen;clear aB cA HW Uy iM ar bT w2 Cx;have aL:au (4096<(n:Int)+1)=ab:=bx (by omega);have gv:(((n:Int)+1)==0)=ab:=by rw[cH];omega
  have gq:au (0<(n:Int)+1)=ai:=bE (by omega);go_enter func165,ntmps165;go_wp2;go_ret;exact⟨rfl,(aK _ _).alloc (aC _) _⟩
end Go.Proofs.YtkhphoonnkoipaaGreatDoor
