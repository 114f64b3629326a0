/- Lemmas. -/
import Derived.Test.YtkhphoonnkoipaaGreatDoorVabd
set_option linter.all false
set_option maxHeartbeats 4000000
set_option maxRecDepth 4000
open Go.Proofs.Tryz Go.RowKit Go.Lib
open Option renaming none→J
open Bool renaming true→ai,false→ab
open Decidable renaming decide→au
open Go renaming World→af,Calls→aq,results→bK
open Go.RowKit renaming Below→ah,Hid→aj
namespace Go.Proofs.YtkhphoonnkoipaaGreatDoor
theorem auh (l:List UInt8) (V:Nat) (fZ:Value) (w:af) (h:o.nK 10 l V) (ao:l.length≤300) (aD:w.cell? ⟨5,0,J⟩=some fZ) (aY:5<w.heap.size) (lS:fZ=.nilIface∨∃gr nz,fZ=.iface gr nz) (bn:¬ cJ (V:Int)→o.fl 10 l (V:Int)) :
 aq prog 159 #[.string (ax l),.bool ab] w fun e w'=>∃k n s,qG (V:Int) k n s∧e=.returned (bw k n 0 (ax s) (.slice J 0 0))∧ah w.heap.size w w':=by
 have aL:=o.ae3 h;have b5:(ax l).size=l.length:=rfl;obtain⟨ag,a6⟩:∃ag,w.alloc (.cells #[.int .u8 0,.int .i64 0,.int .u64 0,.string ⟨#[]⟩,.slice J 0 0] 28)=ag:=⟨_,rfl⟩;have aO:aj (bk ag w.heap.size (.int .u8 0) (.int .i64 0) (.int .u64 0) (.string ⟨#[]⟩) (.slice J 0 0)):=I (by rw[←a6];exact bk.new _ _ _ _ _ _);have ay:aj (ah w.heap.size w ag):=I (by rw[←a6];exact (aK _ _).alloc (aC _) _);have fK:ag.cell? ⟨5,0,J⟩=some fZ:=by rw[ay.out.cell (p:=⟨5,0,J⟩) aY];exact aD
 have ll:aj (¬ cJ (V:Int)→qG (V:Int) 5 0 l):=I (fun bd=>.inr ⟨bd,rfl,rfl,bn bd,by first | omega | (simp only[ch];omega)⟩);have xc:=fun hlen=>o.ae2 h aL hlen;have jO:=fun hlen=>o.ae4 h hlen;have o':(ax l).size≤300:=ao;clear aL h bn aD aY;obtain⟨c0,c1,c2,c3,c4,f0,f1,f2,f3,f4⟩:=aO.out.cells;unfold bw;by_cases hlen:l.length≤19
 ·have hp:=xc hlen;have oH:au ((l.length:Int)≤19)=ai:=bE (by omega);by_cases aF:9223372036854775808≤V
  ·rw[ba aF] at hp;have jX:=I (ll.out (by unfold cJ;omega));have oI:=I (ae0 (ax l) (by omega) hp fZ ag fK lS);clear xc jO hp ll lS;rw[←b5] at oH;clear b5 hlen ao;obtain⟨S,cP⟩:∃x,ax l=x:=⟨_,rfl⟩;rw[cP] at oH o' ⊢;try rw[cP] at oI
   have aN:=I cP;clear cP;go_enter xF,xz;go_wp2_with fail;refine oI.out.mono ?_;rintro e aP ⟨N,rfl,_,_,bg⟩;replace aO:=I (aO.out.below bg);replace ay:=I (ay.out.trans (bg.mono ay.out.size));clear bg c0 c1 c2 c3 c4 f0 f1 f2 f3 f4 fK;obtain⟨c0,c1,c2,c3,c4,f0,f1,f2,f3,f4⟩:=aO.out.cells;go_wp2_with fail;obtain⟨aM,aG,bj,bq,bA,_,_,_,_,_⟩:=(aO.out.set (.int .u8 5) (.int .i64 0) (.int .u64 0) (.string S) (.slice J 0 0)).cells;exact bI (v:=.agg #[.int .u8 5,.int .i64 0,.int .u64 0,.string S,.slice J 0 0]) (by simp[bK,xr,go_sem,aM,aG,bj,bq,bA]) rfl ⟨5,0,l,jX.out,by rw[aN.out],dG ay.out (aC _) _ _ _ _ _⟩
  ·rw[aU aF] at hp;have oI:=I (aeZ (ax l) (by omega) V hp ag);rw[←b5] at oH;have aui:IntKind.i64.wrap (-(V:Int)) = -(V:Int):=by rw[sb];omega
   clear xc jO hp lS b5 hlen ao;by_cases bd:cJ (V:Int)
   ·have jX:aj (qG (V:Int) 4 (V:Int) []):=I (.inl ⟨bd,rfl,rfl,rfl⟩);have d1:au (-1152921504606846976≤(V:Int))=ai:=bE (by omega);have d2:au ((V:Int)≤1152921504606846975)=ai:=bE (by unfold cJ at bd;omega);clear bd ll aF;obtain⟨S,cP⟩:∃x,ax l=x:=⟨_,rfl⟩;rw[cP] at oH o' ⊢;try rw[cP] at oI
    have aN:=I cP;clear cP;go_enter xF,xz;go_wp2_with fail;refine oI.out.mono ?_;rintro e aP ⟨rfl,iX⟩;have bg:ah ag.heap.size ag aP:=M' _ _ _ iX;replace aO:=I (aO.out.below bg);replace ay:=I (ay.out.trans (bg.mono ay.out.size));clear iX bg c0 c1 c2 c3 c4 f0 f1 f2 f3 f4 fK;obtain⟨c0,c1,c2,c3,c4,f0,f1,f2,f3,f4⟩:=aO.out.cells;go_wp2_with fail;obtain⟨aM,aG,bj,bq,bA,_,_,_,_,_⟩:=(aO.out.set (.int .u8 4) (.int .i64 (V:Int)) (.int .u64 0) (.string ⟨#[]⟩) (.slice J 0 0)).cells;exact bI (v:=.agg #[.int .u8 4,.int .i64 (V:Int),.int .u64 0,.string ⟨#[]⟩,.slice J 0 0]) (by simp[bK,xr,go_sem,aM,aG,bj,bq,bA]) rfl ⟨4,(V:Int),[],jX.out,rfl,dG ay.out (aC _) _ _ _ _ _⟩
   ·have jX:=I (ll.out bd);have d1:au (-1152921504606846976≤(V:Int))=ai:=bE (by omega);have d2:au ((V:Int)≤1152921504606846975)=ab:=bx (by unfold cJ at bd;omega);clear bd ll aF;obtain⟨S,cP⟩:∃x,ax l=x:=⟨_,rfl⟩;rw[cP] at oH o' ⊢;try rw[cP] at oI
    have aN:=I cP;clear cP;go_enter xF,xz;go_wp2_with fail;refine oI.out.mono ?_;rintro e aP ⟨rfl,iX⟩;have bg:ah ag.heap.size ag aP:=M' _ _ _ iX;replace aO:=I (aO.out.below bg);replace ay:=I (ay.out.trans (bg.mono ay.out.size));clear iX bg c0 c1 c2 c3 c4 f0 f1 f2 f3 f4 fK;obtain⟨c0,c1,c2,c3,c4,f0,f1,f2,f3,f4⟩:=aO.out.cells;go_wp2_with fail;obtain⟨aM,aG,bj,bq,bA,_,_,_,_,_⟩:=(aO.out.set (.int .u8 5) (.int .i64 0) (.int .u64 0) (.string S) (.slice J 0 0)).cells;exact bI (v:=.agg #[.int .u8 5,.int .i64 0,.int .u64 0,.string S,.slice J 0 0]) (by simp[bK,xr,go_sem,aM,aG,bj,bq,bA]) rfl ⟨5,0,l,jX.out,by rw[aN.out],dG ay.out (aC _) _ _ _ _ _⟩
 ·have cK:=jO (by omega);have oH:au ((l.length:Int)≤19)=ab:=bx (by omega);have jX:=I (ll.out (by unfold cJ;omega));rw[←b5] at oH;clear xc jO cK ll lS b5 hlen ao;obtain⟨S,cP⟩:∃x,ax l=x:=⟨_,rfl⟩;rw[cP] at oH o' ⊢;try rw[cP] at oI
  have aN:=I cP;clear cP;go_enter xF,xz;go_wp2_with fail;obtain⟨aM,aG,bj,bq,bA,_,_,_,_,_⟩:=(aO.out.set (.int .u8 5) (.int .i64 0) (.int .u64 0) (.string S) (.slice J 0 0)).cells;exact bI (v:=.agg #[.int .u8 5,.int .i64 0,.int .u64 0,.string S,.slice J 0 0]) (by simp[bK,xr,go_sem,aM,aG,bj,bq,bA]) rfl ⟨5,0,l,jX.out,by rw[aN.out],dG ay.out (aC _) _ _ _ _ _⟩
theorem auj (l:List UInt8) (V:Nat) (fZ:Value) (w:af) (h:o.nK 10 l V) (ao:l.length≤300) (aD:w.cell? ⟨5,0,J⟩=some fZ) (aY:5<w.heap.size) (lS:fZ=.nilIface∨∃gr nz,fZ=.iface gr nz) (bn:¬ cJ (-(V:Int))→o.fl 10 (45::l) (-(V:Int))) :
 aq prog 159 #[.string (ax l),.bool ai] w fun e w'=>∃k n s,qG (-(V:Int)) k n s∧e=.returned (bw k n 0 (ax s) (.slice J 0 0))∧ah w.heap.size w w':=by
 have aL:=o.ae3 h;have b5:(ax l).size=l.length:=rfl;obtain⟨ag,a6⟩:∃ag,w.alloc (.cells #[.int .u8 0,.int .i64 0,.int .u64 0,.string ⟨#[]⟩,.slice J 0 0] 28)=ag:=⟨_,rfl⟩;have aO:aj (bk ag w.heap.size (.int .u8 0) (.int .i64 0) (.int .u64 0) (.string ⟨#[]⟩) (.slice J 0 0)):=I (by rw[←a6];exact bk.new _ _ _ _ _ _);have ay:aj (ah w.heap.size w ag):=I (by rw[←a6];exact (aK _ _).alloc (aC _) _);have fK:ag.cell? ⟨5,0,J⟩=some fZ:=by rw[ay.out.cell (p:=⟨5,0,J⟩) aY];exact aD
 have ll:aj (¬ cJ (-(V:Int))→qG (-(V:Int)) 5 0 (45::l)):=I (fun bd=>.inr ⟨bd,rfl,rfl,bn bd,by first | omega | (simp only[ch];omega)⟩);have xc:=fun hlen=>o.ae2 h aL hlen;have jO:=fun hlen=>o.ae4 h hlen;have o':(ax l).size≤300:=ao;have mr:=I (uN [45] l);have qn:Op.stringOp .add ⟨#[45]⟩ (ax l)=pure (.string (ax (45::l))):=by
  have yn:IntKind.i64.max=9223372036854775807:=rfl;unfold Op.stringOp;simp only;rw[aU (by rw[yn];rw[show (⟨#[45]⟩:ByteArray).size=1 from rfl];omega)];exact eS (fun z=>pure (Value.string z)) mr.out
 clear aL h bn aD aY;obtain⟨c0,c1,c2,c3,c4,f0,f1,f2,f3,f4⟩:=aO.out.cells;unfold bw;by_cases hlen:l.length≤19
 ·have hp:=xc hlen;have oH:au ((l.length:Int)≤19)=ai:=bE (by omega);by_cases aF:9223372036854775808≤V
  ·rw[ba aF] at hp;have jX:=I (ll.out (by unfold cJ;omega));have oI:=I (ae0 (ax l) (by omega) hp fZ ag fK lS);clear xc jO hp ll lS;rw[←b5] at oH;clear b5 hlen ao;obtain⟨S,cP⟩:∃x,ax l=x:=⟨_,rfl⟩;rw[cP] at oH o' ⊢;rw[cP] at qn;try rw[cP] at oI
   have aN:=I cP;clear cP;obtain⟨nH,om⟩:∃x,ax (45::l)=x:=⟨_,rfl⟩;rw[om] at qn;have jm:=I om;clear om mr;go_enter xF,xz;go_wp2_with fail;refine oI.out.mono ?_;rintro e aP ⟨N,rfl,_,_,bg⟩;replace aO:=I (aO.out.below bg);replace ay:=I (ay.out.trans (bg.mono ay.out.size));clear bg c0 c1 c2 c3 c4 f0 f1 f2 f3 f4 fK;obtain⟨c0,c1,c2,c3,c4,f0,f1,f2,f3,f4⟩:=aO.out.cells;go_wp2_with fail;obtain⟨aM,aG,bj,bq,bA,_,_,_,_,_⟩:=(aO.out.set (.int .u8 5) (.int .i64 0) (.int .u64 0) (.string nH) (.slice J 0 0)).cells;exact bI (v:=.agg #[.int .u8 5,.int .i64 0,.int .u64 0,.string nH,.slice J 0 0]) (by simp[bK,xr,go_sem,aM,aG,bj,bq,bA]) rfl ⟨5,0,(45::l),jX.out,by rw[jm.out],dG ay.out (aC _) _ _ _ _ _⟩
  ·rw[aU aF] at hp;have oI:=I (aeZ (ax l) (by omega) V hp ag);rw[←b5] at oH;have aui:IntKind.i64.wrap (-(V:Int)) = -(V:Int):=by rw[sb];omega
   clear xc jO hp lS b5 hlen ao;by_cases bd:cJ (-(V:Int))
   ·have jX:aj (qG (-(V:Int)) 4 (-(V:Int)) []):=I (.inl ⟨bd,rfl,rfl,rfl⟩);have d1:au (-1152921504606846976≤(-(V:Int)))=ai:=bE (by unfold cJ at bd;omega);have d3:au ((V:Int)≤1152921504606846976)=ai:=bE (by unfold cJ at bd;omega);have d2:au ((-(V:Int))≤1152921504606846975)=ai:=bE (by omega);have d4:au (-1152921504606846975≤(V:Int))=ai:=bE (by omega);clear bd ll aF;obtain⟨S,cP⟩:∃x,ax l=x:=⟨_,rfl⟩;rw[cP] at oH o' ⊢;rw[cP] at qn;try rw[cP] at oI
    have aN:=I cP;clear cP;obtain⟨nH,om⟩:∃x,ax (45::l)=x:=⟨_,rfl⟩;rw[om] at qn;have jm:=I om;clear om mr;go_enter xF,xz;go_wp2_with fail;refine oI.out.mono ?_;rintro e aP ⟨rfl,iX⟩;have bg:ah ag.heap.size ag aP:=M' _ _ _ iX;replace aO:=I (aO.out.below bg);replace ay:=I (ay.out.trans (bg.mono ay.out.size));clear iX bg c0 c1 c2 c3 c4 f0 f1 f2 f3 f4 fK;obtain⟨c0,c1,c2,c3,c4,f0,f1,f2,f3,f4⟩:=aO.out.cells;go_wp2_with fail;obtain⟨aM,aG,bj,bq,bA,_,_,_,_,_⟩:=(aO.out.set (.int .u8 4) (.int .i64 (-(V:Int))) (.int .u64 0) (.string ⟨#[]⟩) (.slice J 0 0)).cells;exact bI (v:=.agg #[.int .u8 4,.int .i64 (-(V:Int)),.int .u64 0,.string ⟨#[]⟩,.slice J 0 0]) (by simp[bK,xr,go_sem,aM,aG,bj,bq,bA]) rfl ⟨4,(-(V:Int)),[],jX.out,rfl,dG ay.out (aC _) _ _ _ _ _⟩
   ·have jX:=I (ll.out bd);have d1:au (-1152921504606846976≤(-(V:Int)))=ab:=bx (by unfold cJ at bd;omega);have d3:au ((V:Int)≤1152921504606846976)=ab:=bx (by unfold cJ at bd;omega);clear bd ll aF;obtain⟨S,cP⟩:∃x,ax l=x:=⟨_,rfl⟩;rw[cP] at oH o' ⊢;rw[cP] at qn;try rw[cP] at oI
    have aN:=I cP;clear cP;obtain⟨nH,om⟩:∃x,ax (45::l)=x:=⟨_,rfl⟩;rw[om] at qn;have jm:=I om;clear om mr;go_enter xF,xz;go_wp2_with fail;refine oI.out.mono ?_;rintro e aP ⟨rfl,iX⟩;have bg:ah ag.heap.size ag aP:=M' _ _ _ iX;replace aO:=I (aO.out.below bg);replace ay:=I (ay.out.trans (bg.mono ay.out.size));clear iX bg c0 c1 c2 c3 c4 f0 f1 f2 f3 f4 fK;obtain⟨c0,c1,c2,c3,c4,f0,f1,f2,f3,f4⟩:=aO.out.cells;go_wp2_with fail;obtain⟨aM,aG,bj,bq,bA,_,_,_,_,_⟩:=(aO.out.set (.int .u8 5) (.int .i64 0) (.int .u64 0) (.string nH) (.slice J 0 0)).cells;exact bI (v:=.agg #[.int .u8 5,.int .i64 0,.int .u64 0,.string nH,.slice J 0 0]) (by simp[bK,xr,go_sem,aM,aG,bj,bq,bA]) rfl ⟨5,0,(45::l),jX.out,by rw[jm.out],dG ay.out (aC _) _ _ _ _ _⟩
 ·have cK:=jO (by omega);have oH:au ((l.length:Int)≤19)=ab:=bx (by omega);have jX:=I (ll.out (by unfold cJ;omega));rw[←b5] at oH;clear xc jO cK ll lS b5 hlen ao;obtain⟨S,cP⟩:∃x,ax l=x:=⟨_,rfl⟩;rw[cP] at oH o' ⊢;rw[cP] at qn;try rw[cP] at oI
  have aN:=I cP;clear cP;obtain⟨nH,om⟩:∃x,ax (45::l)=x:=⟨_,rfl⟩;rw[om] at qn;have jm:=I om;clear om mr;go_enter xF,xz;go_wp2_with fail;obtain⟨aM,aG,bj,bq,bA,_,_,_,_,_⟩:=(aO.out.set (.int .u8 5) (.int .i64 0) (.int .u64 0) (.string nH) (.slice J 0 0)).cells;exact bI (v:=.agg #[.int .u8 5,.int .i64 0,.int .u64 0,.string nH,.slice J 0 0]) (by simp[bK,xr,go_sem,aM,aG,bj,bq,bA]) rfl ⟨5,0,(45::l),jX.out,by rw[jm.out],dG ay.out (aC _) _ _ _ _ _⟩
namespace o
def Bu (c:UInt8):Bool:=au (48≤c.toNat∧c.toNat≤57)
theorem afa {c:UInt8}:Bu c=ai↔48≤c.toNat∧c.toNat≤57:=by unfold Bu;rw[ij]
def lJ (l:List UInt8):List UInt8:=if Lib.trimLeftB l 48=[]∧l≠[] then [48] else Lib.trimLeftB l 48
theorem auk:∀l:List UInt8,(lJ l).length≤l.length:=by
 intro l;unfold lJ;split
 ·rename_i h;cases l with
  | nil=>exact absurd rfl h.2
  | cons c r=>simp
 ·exact (List.dropWhile_sublist _).length_le
theorem VD:∀{d:List UInt8},d≠[]→(∀c ∈ d,48≤c.toNat∧c.toNat≤57)→nK 10 (lJ d) (ep 10 (d.map dg))
 | [],h,_=>absurd rfl h
 | c::r,_,aL=>by
   by_cases an:c=48
   ·subst an;have aH:Lib.trimLeftB (48::r) 48=Lib.trimLeftB r 48:=by unfold Lib.trimLeftB;rw[List.dropWhile_cons_of_pos (by decide)]
    by_cases aF:r=[]
    ·subst aF;exact⟨by decide,by decide,by decide,by decide⟩
    ·have aT:lJ (48::r)=lJ r:=by
      unfold lJ;rw[aH];by_cases bn:Lib.trimLeftB r 48=[]
      ·rw[ba ⟨bn,by simp⟩,ba ⟨bn,aF⟩]
      ·rw[aU (fun h=>bn h.1),aU (fun h=>bn h.1)]
     rw[aT];have b8:ep 10 ((48::r).map dg)=ep 10 (r.map dg):=by unfold ep;rfl
     rw[b8];exact VD aF (fun x hx=>aL x (by simp[hx]))
   ·have aH:Lib.trimLeftB (c::r) 48=c::r:=by
     unfold Lib.trimLeftB;rw[List.dropWhile_cons_of_neg (by simpa using an)]
    have aT:lJ (c::r)=c::r:=by
     unfold lJ;rw[aH,aU (fun h=>by cases h.1)]
    rw[aT];refine⟨by simp,?_,?_,rfl⟩
    ·intro x hx;obtain⟨y,aW,rfl⟩:=List.mem_map.1 hx;have:=aL y aW;rw[Vw this];omega
    ·intro ar;exfalso;have aa:=aL c (by simp);simp only[tb,List.head?_cons,re] at ar;rw[Vw aa] at ar;exact an (UInt8.toNat_inj.1 (show c.toNat=48 by omega))
def q8 (l:List UInt8):Nat:=(l.takeWhile Bu).length
theorem aul (l:List UInt8):q8 l≤l.length:=(List.takeWhile_sublist _).length_le
theorem VE:∀{l:List UInt8} {i:Nat} (h:i<l.length),i≤q8 l→Bu l[i]=au (i<q8 l)
 | c::r,i,h,aV=>by
   by_cases an:Bu c=ai
   ·have e:q8 (c::r)=q8 r+1:=by unfold q8;rw[VU an,ch]
    rw[e] at aV ⊢;cases i with
    | zero=>rw[Nw,an];exact (bE (by omega)).symm
    | succ i=>
      rw[V7,VE (by simpa using h) (by omega)];exact decide_eq_decide.2 (by omega)
   ·have e:q8 (c::r)=0:=by unfold q8;rw[List.takeWhile_cons_of_neg an];rfl
    rw[e] at aV ⊢;obtain rfl:i=0:=by omega
    rw[Nw];simpa using an
theorem afb {l:List UInt8}:q8 l=l.length↔∀c ∈ l,48≤c.toNat∧c.toNat≤57:=by
 constructor
 ·intro h c an;obtain⟨i,aV,rfl⟩:=NJ an;have:=VE aV (by omega);rw[bE (by omega)] at this;exact afa.1 this
 ·intro h;unfold q8;have key:∀m:List UInt8,(∀c ∈ m,Bu c=ai)→m.takeWhile Bu=m:=by
   intro m;induction m with
   | nil=>intro _;rfl
   | cons c r dw=>intro hm;rw[VU (hm c (by simp)),dw (fun x hx=>hm x (by simp[hx]))]
  rw[key l (fun c an=>afa.2 (h c an))]
theorem aum {l:List UInt8} {V:Nat} (h:nK 10 l V):V<10^l.length:=by
 have key:∀(ds:List Nat),(∀d ∈ ds,d<10)→ep 10 ds<10^ds.length:=by
  intro ds;induction ds using Rq with
  | ar=>intro _;decide
  | aa l d dw=>
    intro aL;rw[Aq,ey,pr,ei];have aa:=dw (fun x hx=>aL x (by simp[hx]));have ae:=aL d (by simp);omega
 have:=key (l.map dg) h.lt;rwa[h.val,rh] at this
theorem aun {l:List UInt8} {V:Nat} (h:nK 10 l V) (ao:l.length≤300) {n:Int} (aB:n.natAbs=V):bO n:=by
 unfold bO;rw[aB];obtain⟨b,ad⟩:∃b,b=4096:=⟨_,rfl⟩;rw[←ad,show (256:Nat)=16^2 from rfl,←mi];refine cv (aum h) (cp (NI (by decide:10≤16) _) (dB (by decide) (by omega)))
def ju (l:List UInt8):List UInt8:=Lib.trimPrefix l [45]
def D1 (l:List UInt8):Prop:=ju l≠[]∧(∀c ∈ ju l,48≤c.toNat∧c.toNat≤57)∧(lJ (ju l)).length≤255
def VF (l:List UInt8):Nat:=ep 10 ((ju l).map dg)
def D2 (l:List UInt8):Int:=if Lib.hasPrefix l [45]=ai then -(VF l:Int) else (VF l:Int)
theorem auo (l:List UInt8):(D2 l).natAbs=VF l:=by unfold D2;split<;>omega
theorem aup {l:List UInt8} (h:D1 l):bO (D2 l):=aun (VD h.1 h.2.1) (by have:=h.2.2;omega) (auo l)
theorem auq (l:List UInt8):(ju l).length≤l.length:=by
 unfold ju Lib.trimPrefix;split
 ·simp
 ·exact aC _
end o
theorem aur (l:List UInt8) (w:af) (ao:l.length≤1000000000) :
 aq prog 157 #[.string (ax l),.int .i64 0,.func (.func 158) #[] #[]] w fun e w'=>e=.returned (.int .i64 (o.q8 l))∧w=w':=by
 obtain⟨N,cW⟩:∃N,l.length=N:=⟨_,rfl⟩;obtain⟨K,hK⟩:∃K,o.q8 l=K:=⟨_,rfl⟩;have azK:K≤N:=by rw[←cW,←hK];exact o.aul l
 have b5:(ax l).size=N:=by rw[←cW];rfl
 have bJ:aj (∀i,(h:i<N)→i≤K→∃c:UInt8,((ax l).size=N→∀q:i<(ax l).size,(ax l)[i]'q=c)∧∀W,aq prog 158 #[.int .u8 c.toNat] W fun e w'=>e=.returned (.bool (au (i<K)))∧W=w'):=I (fun i h aV=>by
  refine⟨l[i]'(by omega),fun _ q=>rfl,fun W=>?_⟩;have:=atD (l[i]'(by omega)) W;rw[←hK,←o.VE (by omega) (by omega)];exact this)
 rw[cW] at ao;rw[hK];generalize ax l=S at *;clear cW hK;go_enter func157,ntmps157;go_wp2;go_loopw [1] (fun s1 wr=>∃i:Nat,i≤K∧s1=.int .i64 i∧wr=w) (fun s1 _=>K-(RowKit.intOf s1).toNat);case atStart=>exact⟨0,il _,rfl,rfl⟩
 case round=>
  obtain⟨i,aV,rfl,rfl⟩:=hrel;by_cases bV:i<N
  ·obtain⟨c,an,D3⟩:=bJ.out i bV aV;have aE:i<S.size:=by omega
   have mj:=an b5 aE;by_cases afc:i<K
   ·rw[bE afc] at D3;have VG:=I D3;clear an D3;go_wp2_with fail;refine (VG.out _).mono ?_;rintro e w' ⟨rfl,rfl⟩;go_wp2;go_roundw;case rel=>exact⟨i+1,by omega,by go_num,trivial⟩
    case measure=>simp[RowKit.intOf];omega
   ·rw[bx afc] at D3;have VG:=I D3;obtain rfl:i=K:=by omega
    clear an D3;go_wp2_with fail;refine (VG.out _).mono ?_;rintro e w' ⟨rfl,rfl⟩;go_wp2;go_ret;exact⟨rfl,rfl⟩
  ·obtain rfl:i=K:=by omega
   go_wp2;go_ret;exact⟨rfl,rfl⟩
theorem aus (l:List UInt8) (w:af) :
 aq prog 156 #[.string (ax l)] w fun e w'=>e=.returned (.string (ax (o.lJ l)))∧w=w':=by
 have dT:∀m:List UInt8,(ax m).toList.isEmpty=au (m=[]):=fun m=>by
  rw[lL];cases m with
  | nil=>rfl
  | cons c r=>rfl
 have bc:=I (fun W=>Any.strings_TrimLeft_one WT (ax l) 48 (by decide) W);have aT:(⟨(Lib.trimLeftB (ax l).data.toList 48).toArray⟩:ByteArray)=ax (Lib.trimLeftB l 48):=rfl;rw[aT] at bc;change aj (∀W,aq prog 192 #[.string (ax l),.string ⟨#[48]⟩] W fun e w'=>e=.returned (.string (ax (Lib.trimLeftB l 48)))∧w'=W)at bc;have aa:=dT l;have ae:=dT (Lib.trimLeftB l 48);have bZ:aj (ax (o.lJ l)=if Lib.trimLeftB l 48=[]∧l≠[] then ⟨#[48]⟩ else ax (Lib.trimLeftB l 48)):=I (by unfold o.lJ;split<;>rfl);generalize ax (o.lJ l)=R at *;have key:((ax (Lib.trimLeftB l 48)).toList.isEmpty=ab∧R=ax (Lib.trimLeftB l 48))∨((ax (Lib.trimLeftB l 48)).toList.isEmpty=ai∧(ax l).toList.isEmpty=ai∧R=ax (Lib.trimLeftB l 48))∨((ax (Lib.trimLeftB l 48)).toList.isEmpty=ai∧(ax l).toList.isEmpty=ab∧R=⟨#[48]⟩):=by
  rw[aa,ae,bZ.out];by_cases bn:Lib.trimLeftB l 48=[]
  ·by_cases ao:l=[]
   ·exact .inr (.inl ⟨bE bn,bE ao,by rw[aU (fun h=>h.2 ao)]⟩)
   ·exact .inr (.inr ⟨bE bn,bx ao,by rw[ba ⟨bn,ao⟩]⟩)
  ·exact .inl ⟨bx bn,by rw[aU (fun h=>bn h.1)]⟩
 clear aa ae bZ aT dT;generalize ax (Lib.trimLeftB l 48)=T at *;generalize ax l=S at *;rcases key with ⟨aG,rfl⟩ | ⟨aG,bj,rfl⟩ | ⟨aG,bj,rfl⟩;all_goals
  go_enter func156,ntmps156;go_wp2_with fail;refine (bc.out _).mono ?_;rintro e w' ⟨rfl,rfl⟩;go_wp2;go_ret;exact⟨rfl,rfl⟩
theorem aut (d:List UInt8) (m:Bool) (fZ:Value) (w:af) (ar:d≠[]) (aL:∀c ∈ d,48≤c.toNat∧c.toNat≤57) (ao:(o.lJ d).length≤300) (aD:w.cell? ⟨5,0,J⟩=some fZ) (aY:5<w.heap.size) (lS:fZ=.nilIface∨∃gr nz,fZ=.iface gr nz) :
 aq prog 159 #[.string (ax (o.lJ d)),.bool m] w fun e w'=>∃k n s,qG (if m=ai then -(o.ep 10 (d.map o.dg):Int) else (o.ep 10 (d.map o.dg):Int)) k n s∧e=.returned (bw k n 0 (ax s) (.slice J 0 0))∧ah w.heap.size w w':=by
 have an:=o.VD ar aL;generalize o.ep 10 (d.map o.dg)=V at *;cases m with
 | true=>
   refine auj (o.lJ d) V fZ w an ao aD aY lS (fun bd=>?_);have nG:-(V:Int)<0:=by unfold cJ at bd;omega
   unfold o.fl;rw[ba nG];exact⟨_,rfl,by rw[show (-(V:Int)).natAbs=V by omega];exact an⟩
 | false=>
   refine auh (o.lJ d) V fZ w an ao aD aY lS (fun bd=>?_);unfold o.fl;rw[aU (by omega)];exact an
theorem auu (l:List UInt8) (fZ:Value) (w:af) (ao:l.length≤1000000) (aD:w.cell? ⟨5,0,J⟩=some fZ) (aY:5<w.heap.size) (lS:fZ=.nilIface∨∃gr nz,fZ=.iface gr nz) :
 aq prog 112 #[.string (ax l)] w fun e w'=>∃k n s bm,((bm=0∧o.D1 l∧qG (o.D2 l) k n s)∨(¬ o.D1 l∧bm=144∧k=0∧n=0∧s=[]))∧e=.returned (.tuple #[bw k n 0 (ax s) (.slice J 0 0),.int .i64 bm])∧ah w.heap.size w w':=by
 obtain⟨ag,a6⟩:∃ag,w.alloc (.cells #[.int .u8 0,.int .i64 0,.int .u64 0,.string ⟨#[]⟩,.slice J 0 0] 28)=ag:=⟨_,rfl⟩;have aO:aj (bk ag w.heap.size (.int .u8 0) (.int .i64 0) (.int .u64 0) (.string ⟨#[]⟩) (.slice J 0 0)):=I (by rw[←a6];exact bk.new _ _ _ _ _ _);have ay:aj (ah w.heap.size w ag):=I (by rw[←a6];exact (aK _ _).alloc (aC _) _);have fK:ag.cell? ⟨5,0,J⟩=some fZ:=by rw[ay.out.cell (p:=⟨5,0,J⟩) aY];exact aD
 have gm:5<ag.heap.size:=cv aY ay.out.size;have bJ:aj (∀W,aq prog 149 #[.string (ax l),.string ⟨#[45]⟩] W fun e w'=>e=.returned (.tuple #[.string (ax (o.ju l)),.bool (Lib.hasPrefix l [45])])∧w'=W):=I (fun W=>QR l [45] W);have hL:=o.auq l;have qW:=I (fun W=>aus (o.ju l) W);have wU:=I (fun W=>aur (o.ju l) W (by omega));have xd:o.D1 l↔o.ju l≠[]∧o.q8 (o.ju l)=(o.ju l).length∧(o.lJ (o.ju l)).length≤255:=by
  unfold o.D1;rw[o.afb]
 have jS:=I (fun ar aL (aE:(o.lJ (o.ju l)).length≤300)=>aut (o.ju l) (Lib.hasPrefix l [45]) fZ ag ar aL aE fK gm lS);have be:(if Lib.hasPrefix l [45]=ai then -(o.ep 10 ((o.ju l).map o.dg):Int) else (o.ep 10 ((o.ju l).map o.dg):Int))=o.D2 l:=rfl;rw[be] at jS;have kB:=o.afb (l:=o.ju l);clear be aD aY fK gm lS;generalize o.D2 l=A at *;generalize Lib.hasPrefix l [45]=m at *;obtain⟨Nb,afd⟩:∃x,o.D1 l=x:=⟨_,rfl⟩;rw[afd] at xd ⊢;obtain⟨W',pS⟩:∃x,ax l=x:=⟨_,rfl⟩;rw[pS] at bJ ⊢;clear pS afd;have b5:(ax (o.ju l)).size=(o.ju l).length:=rfl;have mW:(ax (o.lJ (o.ju l))).size=(o.lJ (o.ju l)).length:=rfl;have Nc:=o.auk (o.ju l);have dT:(ax (o.ju l)).toList.isEmpty=au (o.ju l=[]):=by
  rw[lL];cases o.ju l with
  | nil=>rfl
  | cons c r=>rfl
 generalize o.q8 (o.ju l)=K at *;generalize o.lJ (o.ju l)=t at *;generalize o.ju l=d at *;obtain⟨c0,c1,c2,c3,c4,f0,f1,f2,f3,f4⟩:=aO.out.cells;obtain⟨T,dZ⟩:∃x,ax t=x:=⟨_,rfl⟩;rw[dZ] at qW jS mW;obtain⟨D,dz⟩:∃x,ax d=x:=⟨_,rfl⟩;rw[dz] at bJ qW wU b5 dT;clear dZ dz;by_cases ar:d=[]
 ·rw[bE ar] at dT;have sV:aj (¬ Nb):=I (fun h=>(xd.1 h).1 ar);clear jS wU kB xd b5 mW ar Nc hL ao;go_enter JA,Ji;go_wp2_with fail;refine (bJ.out _).mono ?_;rintro e w' ⟨rfl,rfl⟩;go_wp2_with fail;refine (qW.out _).mono ?_;rintro e w' ⟨rfl,rfl⟩;go_wp2_with fail;obtain⟨aM,aG,bj,bq,bA,_,_,_,_,_⟩:=(aO.out.set (.int .u8 0) (.int .i64 0) (.int .u64 0) (.string ⟨#[]⟩) (.slice J 0 0)).cells;exact bI (v:=.tuple #[.agg #[.int .u8 0,.int .i64 0,.int .u64 0,.string ⟨#[]⟩,.slice J 0 0],.int .i64 144]) (by simp[bK,I8,go_sem,aM,aG,bj,bq,bA]) rfl ⟨0,0,[],144,.inr ⟨sV.out,rfl,rfl,rfl,rfl⟩,rfl,dG ay.out (aC _) _ _ _ _ _⟩
 rw[bx ar] at dT;by_cases aa:t.length≤255
 ·have gv:au ((255:Int)<(T.size:Int))=ab:=bx (by omega);by_cases ae:K=d.length
  ·have sz:((K:Int)==(D.size:Int))=ai:=by rw[gy];omega
   have uK:aj Nb:=I (xd.2 ⟨ar,ae,aa⟩);have auv:=I (jS.out ar (kB.1 ae) (by omega));clear jS kB xd b5 mW ar aa ae Nc hL ao;go_enter JA,Ji;go_wp2_with fail;refine (bJ.out _).mono ?_;rintro e w' ⟨rfl,rfl⟩;go_wp2_with fail;refine (qW.out _).mono ?_;rintro e w' ⟨rfl,rfl⟩;go_wp2_with fail;refine (wU.out _).mono ?_;rintro e w' ⟨rfl,rfl⟩;go_wp2_with fail;refine (auv.out).mono ?_;rintro e aP ⟨k,n,s,ko,rfl,bg⟩;have jX:=I ko;replace aO:=I (aO.out.below bg);replace ay:=I (ay.out.trans (bg.mono ay.out.size));obtain⟨afe,HS⟩:∃x,ax s=x:=⟨_,rfl⟩;have uQ:=I HS;unfold bw;rw[HS];clear bg ko HS c0 c1 c2 c3 c4 f0 f1 f2 f3 f4;obtain⟨c0,c1,c2,c3,c4,f0,f1,f2,f3,f4⟩:=aO.out.cells;go_wp2_with fail;obtain⟨aM,aG,bj,bq,bA,_,_,_,_,_⟩:=(aO.out.set (.int .u8 k) (.int .i64 n) (.int .u64 0) (.string afe) (.slice J 0 0)).cells;exact bI (v:=.tuple #[.agg #[.int .u8 k,.int .i64 n,.int .u64 0,.string afe,.slice J 0 0],.int .i64 0]) (by simp[bK,I8,go_sem,aM,aG,bj,bq,bA]) rfl ⟨k,n,s,0,.inl ⟨rfl,uK.out,jX.out⟩,by rw[uQ.out];rfl,dG ay.out (aC _) _ _ _ _ _⟩
  ·have sz:((K:Int)==(D.size:Int))=ab:=by rw[cH];omega
   have sV:aj (¬ Nb):=I (fun h=>ae (xd.1 h).2.1);clear jS kB xd b5 mW ar aa ae Nc hL ao;go_enter JA,Ji;go_wp2_with fail;refine (bJ.out _).mono ?_;rintro e w' ⟨rfl,rfl⟩;go_wp2_with fail;refine (qW.out _).mono ?_;rintro e w' ⟨rfl,rfl⟩;go_wp2_with fail;refine (wU.out _).mono ?_;rintro e w' ⟨rfl,rfl⟩;go_wp2_with fail;obtain⟨aM,aG,bj,bq,bA,_,_,_,_,_⟩:=(aO.out.set (.int .u8 0) (.int .i64 0) (.int .u64 0) (.string ⟨#[]⟩) (.slice J 0 0)).cells;exact bI (v:=.tuple #[.agg #[.int .u8 0,.int .i64 0,.int .u64 0,.string ⟨#[]⟩,.slice J 0 0],.int .i64 144]) (by simp[bK,I8,go_sem,aM,aG,bj,bq,bA]) rfl ⟨0,0,[],144,.inr ⟨sV.out,rfl,rfl,rfl,rfl⟩,rfl,dG ay.out (aC _) _ _ _ _ _⟩
 ·have gv:au ((255:Int)<(T.size:Int))=ai:=bE (by omega);have sV:aj (¬ Nb):=I (fun h=>aa (xd.1 h).2.2);clear jS wU kB xd b5 mW ar aa Nc hL ao;go_enter JA,Ji;go_wp2_with fail;refine (bJ.out _).mono ?_;rintro e w' ⟨rfl,rfl⟩;go_wp2_with fail;refine (qW.out _).mono ?_;rintro e w' ⟨rfl,rfl⟩;go_wp2_with fail;obtain⟨aM,aG,bj,bq,bA,_,_,_,_,_⟩:=(aO.out.set (.int .u8 0) (.int .i64 0) (.int .u64 0) (.string ⟨#[]⟩) (.slice J 0 0)).cells;exact bI (v:=.tuple #[.agg #[.int .u8 0,.int .i64 0,.int .u64 0,.string ⟨#[]⟩,.slice J 0 0],.int .i64 144]) (by simp[bK,I8,go_sem,aM,aG,bj,bq,bA]) rfl ⟨0,0,[],144,.inr ⟨sV.out,rfl,rfl,rfl,rfl⟩,rfl,dG ay.out (aC _) _ _ _ _ _⟩
end Go.Proofs.YtkhphoonnkoipaaGreatDoor
