/- Lemmas. -/
import Derived.Test.YtkhphoonnkoipaaGreatDoorVaax
import Derived.Test.YtkhphoonnkoipaaGreatDoorVaba
import Derived.Test.YtkhphoonnkoipaaGreatDoorVabb
import Derived.Test.YtkhphoonnkoipaaGreatDoorVabc
set_option linter.all false
set_option maxHeartbeats 4000000
set_option maxRecDepth 100000
open Go.Proofs.Tryz Go.RowKit Go.Lib
open Option renaming none→J,some→U
open Bool renaming true→ai,false→ab
open Decidable renaming decide→au
open Go renaming World→af,Value→aw,Calls→aq,results→bK
open Go.RowKit renaming Below→ah,Hid→aj
open Go.Proofs.Tryz renaming prog→ak
namespace Go.Proofs.YtkhphoonnkoipaaGreatDoor
theorem apH (x:bB) (v:aw) (w:af) (h:e2 w v [x]) (aE:∀W,ah w.heap.size w W→aq ak 114 #[.string x.t] W fun e w'=>∃r bm:Int,e=.returned (.tuple #[.int .u64 r,.int .i64 bm])∧ah W.heap.size W w') :
 aq ak 113 #[v] w fun e w'=>∃r bm:Int,ek w (bw 6 0 r ⟨#[]⟩ (.slice J 0 0)) (bm==0) e w':=by
 obtain⟨ag,a6⟩:∃ag,w.alloc (.cells #[.int .u8 0,.int .i64 0,.int .u64 0,.string ⟨#[]⟩,.slice J 0 0] 28)=ag:=⟨_,rfl⟩;have aO:aj (bk ag w.heap.size (.int .u8 0) (.int .i64 0) (.int .u64 0) (.string ⟨#[]⟩) (.slice J 0 0)):=I (by rw[←a6];exact bk.new _ _ _ _ _ _);have ay:aj (ah w.heap.size w ag):=I (by rw[←a6];exact (aK _ _).alloc (aC _) _);obtain⟨al,gL,rfl,br,bT⟩:=h;have an:∀(i:Nat) (q:bB),[x][i]? = U q→∀(j:Nat) (u:aw),q.cells[j]? = U u→ag.cell? ⟨al,i*7+j,J⟩=U u:=fun i q aE j u hu=>by rw[ay.out.cell (p:=⟨al,i*7+j,J⟩) br];exact bT i q aE j u hu
 have aY:=cv br ay.out.size;obtain⟨c0,c1,c2,c3,c4,f0,f1,f2,f3,f4⟩:=aO.out.cells;have jT:ag.cell? ⟨al,3,J⟩=_:=an 0 _ rfl 3 _ rfl;clear an bT;simp only[ch,du] at *;have cR:=I (fun r bm W=>DA r bm W);unfold bw at cR;unfold ek bw;have b3:=I (aE ag ay.out);clear aE;go_enter func113,ntmps113;go_wp2_with fail;refine (b3.out).mono ?_;rintro e aP ⟨r,bm,rfl,bg⟩;replace aO:=I (aO.out.below bg);replace ay:=I (ay.out.trans (bg.mono ay.out.size));clear jT aY bg;go_wp2_with fail;refine (cR.out _ _ _).mono ?_;rintro e cc ⟨rfl,cK⟩;have c8:=I (aO.out.below cK);have bL:=I (ay.out.trans (cK.mono (by have:=aO.out.lt;omega)));clear c0 c1 c2 c3 c4 f0 f1 f2 f3 f4;obtain⟨c0,c1,c2,c3,c4,f0,f1,f2,f3,f4⟩:=c8.out.cells;go_wp2_with fail;obtain⟨aM,aG,bj,bq,bA,_,_,_,_,_⟩:=(c8.out.set (.int .u8 6) (.int .i64 0) (.int .u64 r) (.string ⟨#[]⟩) (.slice J 0 0)).cells;exact bI (v:=.tuple #[.agg #[.int .u8 6,.int .i64 0,.int .u64 r,.string ⟨#[]⟩,.slice J 0 0],.bool (bm==0)]) (by simp[bK,results113,go_sem,aM,aG,bj,bq,bA]) rfl ⟨r,bm,rfl,dG bL.out (aC _) _ _ _ _ _⟩
theorem ac4 (x:bB) (m bm:Int) (v:aw) (w:af) (h:e2 w v [x]) (aE:∀W,aq ak 95 #[.int .u64 x.b] W fun e w'=>e=.returned (.tuple #[.int .i64 m,.int .i64 bm])∧W=w') :
 aq ak 94 #[v] w (ek w (bw 4 m 0 ⟨#[]⟩ (.slice J 0 0)) (bm==0)):=by
 obtain⟨ag,a6⟩:∃ag,w.alloc (.cells #[.int .u8 0,.int .i64 0,.int .u64 0,.string ⟨#[]⟩,.slice J 0 0] 28)=ag:=⟨_,rfl⟩;have aO:aj (bk ag w.heap.size (.int .u8 0) (.int .i64 0) (.int .u64 0) (.string ⟨#[]⟩) (.slice J 0 0)):=I (by rw[←a6];exact bk.new _ _ _ _ _ _);have ay:aj (ah w.heap.size w ag):=I (by rw[←a6];exact (aK _ _).alloc (aC _) _);obtain⟨al,gL,rfl,br,bT⟩:=h;have an:∀(i:Nat) (q:bB),[x][i]? = U q→∀(j:Nat) (u:aw),q.cells[j]? = U u→ag.cell? ⟨al,i*7+j,J⟩=U u:=fun i q aE j u hu=>by rw[ay.out.cell (p:=⟨al,i*7+j,J⟩) br];exact bT i q aE j u hu
 have aY:=cv br ay.out.size;obtain⟨c0,c1,c2,c3,c4,f0,f1,f2,f3,f4⟩:=aO.out.cells;have Dz:ag.cell? ⟨al,2,J⟩=_:=an 0 _ rfl 2 _ rfl;clear an bT;simp only[ch,du] at *;have cR:=I (fun W=>CZ m W);unfold bw at cR;have b3:=I (aE ag);clear aE;go_enter func94,ntmps94;go_wp2_with fail;refine (b3.out).mono ?_;rintro e aP ⟨rfl,rfl⟩;clear Dz aY;go_wp2_with fail;refine (cR.out _).mono ?_;rintro e aP ⟨rfl,bg⟩;have c8:=I (aO.out.below bg);have bL:=I (ay.out.trans (bg.mono (by have:=aO.out.lt;omega)));clear c0 c1 c2 c3 c4 f0 f1 f2 f3 f4;obtain⟨c0,c1,c2,c3,c4,f0,f1,f2,f3,f4⟩:=c8.out.cells;go_wp2_with fail;obtain⟨aM,aG,bj,bq,bA,_,_,_,_,_⟩:=(c8.out.set (.int .u8 4) (.int .i64 m) (.int .u64 0) (.string ⟨#[]⟩) (.slice J 0 0)).cells;exact bI (v:=.tuple #[.agg #[.int .u8 4,.int .i64 m,.int .u64 0,.string ⟨#[]⟩,.slice J 0 0],.bool (bm==0)]) (by simp[bK,results94,go_sem,aM,aG,bj,bq,bA]) rfl ⟨rfl,dG bL.out (aC _) _ _ _ _ _⟩
theorem apI (x y:bB) (v:aw) (w:af) (h:e2 w v [x,y]) (aW:y.n < -10000∨10000<y.n) :
 aq ak 96 #[v] w (ek w iA ab):=by
 obtain⟨ag,a6⟩:∃ag,w.alloc (.cells #[.int .u8 0,.int .i64 0,.int .u64 0,.string ⟨#[]⟩,.slice J 0 0] 28)=ag:=⟨_,rfl⟩;have aO:aj (bk ag w.heap.size (.int .u8 0) (.int .i64 0) (.int .u64 0) (.string ⟨#[]⟩) (.slice J 0 0)):=I (by rw[←a6];exact bk.new _ _ _ _ _ _);have ay:aj (ah w.heap.size w ag):=I (by rw[←a6];exact (aK _ _).alloc (aC _) _);obtain⟨al,gL,rfl,br,bT⟩:=h;have an:∀(i:Nat) (q:bB),[x,y][i]? = U q→∀(j:Nat) (u:aw),q.cells[j]? = U u→ag.cell? ⟨al,i*7+j,J⟩=U u:=fun i q aE j u hu=>by rw[ay.out.cell (p:=⟨al,i*7+j,J⟩) br];exact bT i q aE j u hu
 have aY:=cv br ay.out.size;obtain⟨c0,c1,c2,c3,c4,f0,f1,f2,f3,f4⟩:=aO.out.cells;have km:ag.cell? ⟨al,8,J⟩=_:=an 1 _ rfl 1 _ rfl;clear an bT;simp only[ch,du] at *;unfold ek iA bw;by_cases aa:y.n < -10000
 ·have d1:au (y.n < -10000)=ai:=bE aa;clear aW aa;go_enter JL,PG;go_wp2_with fail;obtain⟨aM,aG,bj,bq,bA,_,_,_,_,_⟩:=(aO.out.set (.int .u8 0) (.int .i64 0) (.int .u64 0) (.string ⟨#[]⟩) (.slice J 0 0)).cells;exact bI (v:=.tuple #[.agg #[.int .u8 0,.int .i64 0,.int .u64 0,.string ⟨#[]⟩,.slice J 0 0],.bool ab]) (by simp[bK,OL,go_sem,aM,aG,bj,bq,bA]) rfl ⟨rfl,dG ay.out (aC _) _ _ _ _ _⟩
 ·have d1:au (y.n < -10000)=ab:=bx aa;have d2:au (10000<y.n)=ai:=bE (by omega);clear aW aa;go_enter JL,PG;go_wp2_with fail;obtain⟨aM,aG,bj,bq,bA,_,_,_,_,_⟩:=(aO.out.set (.int .u8 0) (.int .i64 0) (.int .u64 0) (.string ⟨#[]⟩) (.slice J 0 0)).cells;exact bI (v:=.tuple #[.agg #[.int .u8 0,.int .i64 0,.int .u64 0,.string ⟨#[]⟩,.slice J 0 0],.bool ab]) (by simp[bK,OL,go_sem,aM,aG,bj,bq,bA]) rfl ⟨rfl,dG ay.out (aC _) _ _ _ _ _⟩
theorem apJ (x:bB) (r bm:Int) (v:aw) (w:af) (h:e2 w v [x]) (aE:∀W,ah w.heap.size w W→aq ak 47 #[.agg #[.bool x.g,.string x.s]] W fun e w'=>e=.returned (.tuple #[.int .u64 r,.int .i64 bm])∧ah W.heap.size W w') :
 aq ak 45 #[v] w (ek w (bw 6 0 r ⟨#[]⟩ (.slice J 0 0)) (bm==0)):=by
 obtain⟨ag,a6⟩:∃ag,w.alloc (.cells #[.int .u8 0,.int .i64 0,.int .u64 0,.string ⟨#[]⟩,.slice J 0 0] 28)=ag:=⟨_,rfl⟩;have aO:aj (bk ag w.heap.size (.int .u8 0) (.int .i64 0) (.int .u64 0) (.string ⟨#[]⟩) (.slice J 0 0)):=I (by rw[←a6];exact bk.new _ _ _ _ _ _);have ay:aj (ah w.heap.size w ag):=I (by rw[←a6];exact (aK _ _).alloc (aC _) _);obtain⟨al,gL,rfl,br,bT⟩:=h;have an:∀(i:Nat) (q:bB),[x][i]? = U q→∀(j:Nat) (u:aw),q.cells[j]? = U u→ag.cell? ⟨al,i*7+j,J⟩=U u:=fun i q aE j u hu=>by rw[ay.out.cell (p:=⟨al,i*7+j,J⟩) br];exact bT i q aE j u hu
 have aY:=cv br ay.out.size;obtain⟨c0,c1,c2,c3,c4,f0,f1,f2,f3,f4⟩:=aO.out.cells;have HD:ag.cell? ⟨al,5,J⟩=_:=an 0 _ rfl 5 _ rfl;have HE:ag.cell? ⟨al,6,J⟩=_:=an 0 _ rfl 6 _ rfl;clear an bT;simp only[ch,du] at *;have cR:=I (fun W=>DA r bm W);unfold bw at cR;have b3:=I (aE ag ay.out);clear aE;go_enter func45,ntmps45;go_wp2_with fail;refine (b3.out).mono ?_;rintro e aP ⟨rfl,bg⟩;replace aO:=I (aO.out.below bg);replace ay:=I (ay.out.trans (bg.mono ay.out.size));clear HD HE aY bg;go_wp2_with fail;refine (cR.out _).mono ?_;rintro e cc ⟨rfl,cK⟩;have c8:=I (aO.out.below cK);have bL:=I (ay.out.trans (cK.mono (by have:=aO.out.lt;omega)));clear c0 c1 c2 c3 c4 f0 f1 f2 f3 f4;obtain⟨c0,c1,c2,c3,c4,f0,f1,f2,f3,f4⟩:=c8.out.cells;go_wp2_with fail;obtain⟨aM,aG,bj,bq,bA,_,_,_,_,_⟩:=(c8.out.set (.int .u8 6) (.int .i64 0) (.int .u64 r) (.string ⟨#[]⟩) (.slice J 0 0)).cells;exact bI (v:=.tuple #[.agg #[.int .u8 6,.int .i64 0,.int .u64 r,.string ⟨#[]⟩,.slice J 0 0],.bool (bm==0)]) (by simp[bK,results45,go_sem,aM,aG,bj,bq,bA]) rfl ⟨rfl,dG bL.out (aC _) _ _ _ _ _⟩
theorem apK (R:Int) (x:bB) (v:aw) (w:af) (h:e2 w v [x])
 (bZ:∀W,aq ak 93 #[.int .u64 x.b] W fun e w'=>e=.returned (.tuple #[bz R,.int .i64 0])∧ah W.heap.size W w') (bS:o.bO R) :
 aq ak 92 #[v] w (tO w R):=by
 have jS:=I (fun W=>GF R W bS);obtain⟨rg,da,aF⟩:∃g S,bz R=.agg #[.bool g,.string S]:=⟨_,_,rfl⟩;rw[aF] at jS;have kn:=I bZ;simp only[aF] at kn;clear bZ bS aF;unfold tO ek bw at *;obtain⟨ag,a6⟩:∃ag,w.alloc (.cells #[.int .u8 0,.int .i64 0,.int .u64 0,.string ⟨#[]⟩,.slice J 0 0] 28)=ag:=⟨_,rfl⟩;have aO:aj (bk ag w.heap.size (.int .u8 0) (.int .i64 0) (.int .u64 0) (.string ⟨#[]⟩) (.slice J 0 0)):=I (by rw[←a6];exact bk.new _ _ _ _ _ _);have ay:aj (ah w.heap.size w ag):=I (by rw[←a6];exact (aK _ _).alloc (aC _) _);have dH:w.heap.size+1≤ag.heap.size:=by rw[←a6];simp
 obtain⟨al,gL,rfl,br,bT⟩:=h;have gg:ag.cell? ⟨al,2,J⟩=U (.int .u64 x.b):=by rw[ay.out.cell (p:=⟨al,2,J⟩) br];exact bT 0 x rfl 2 _ rfl
 simp only[ch,du] at *;clear bT;have aN:aj (∀W,ah ag.heap.size ag W→W.cell? ⟨al,2,J⟩=U (.int .u64 x.b)):=I (fun W ad=>by rw[ad.cell (p:=⟨al,2,J⟩) (by show al<_;omega)];exact gg);have dh:∀(W:af) (q i:Nat) (u a b c d e:aw),q<w.heap.size→W.cell? ⟨q,i,J⟩=U u→(cC W w.heap.size a b c d e).cell? ⟨q,i,J⟩=U u:=fun W q i u a b c d e aE hu=>by
  unfold cC;rw[b7 _ _ _ _ (by intro z;injection z with z;omega),b7 _ _ _ _ (by intro z;injection z with z;omega),b7 _ _ _ _ (by intro z;injection z with z;omega),b7 _ _ _ _ (by intro z;injection z with z;omega),b7 _ _ _ _ (by intro z;injection z with z;omega)];exact hu
 have e3:aj (∀W,ah ag.heap.size ag W→∀a b c d e,(cC W w.heap.size a b c d e).cell? ⟨al,2,J⟩=U (.int .u64 x.b)):=I (fun W ad a b c d e=>dh W al 2 _ a b c d e br (aN.out W ad));have cU:=I (show ah ag.heap.size ag ag.drew from (aK _ ag).drew);clear dh;unfold cC at e3;obtain⟨c0,c1,c2,c3,c4,f0,f1,f2,f3,f4⟩:=aO.out.cells;go_enter func92,ntmps92;go_wp2_with fail;refine (kn.out _).mono ?_;rintro e aQ ⟨rfl,bb⟩;go_wp2_with fail;refine (jS.out _).mono ?_;rintro e cf ⟨nh,mC,rt,ko,rfl,bf⟩;have jX:=I ko;obtain⟨kJ,kK⟩:∃kJ,ax rt=kJ:=⟨_,rfl⟩;have wK:=I kK;rw[kK];clear ko kK;have ft:ah ag.heap.size ag cf:=bb.trans (bf.mono bb.size);have fH:=I (aO.out.below ft);clear c0 c1 c2 c3 c4 f0 f1 f2 f3 f4 aN e3 gg;obtain⟨d0,d1,d2,d3,d4,ck,aH,aT,b8,eb⟩:=fH.out.cells;all_goals
  have dc:=I (ay.out.trans (ft.mono (by omega)));obtain⟨aM,aG,bj,bq,bA,_,_,_,_,_⟩:=(fH.out.set (.int .u8 nh) (.int .i64 mC) (.int .u64 0) (.string kJ) (.slice J 0 0)).cells;go_wp2;exact bI (v:=.tuple #[.agg #[.int .u8 nh,.int .i64 mC,.int .u64 0,.string kJ,.slice J 0 0],.bool ai]) (by simp[bK,results92,go_sem,aM,aG,bj,bq,bA]) rfl ⟨nh,mC,rt,jX.out,by rw[wK.out];exact⟨rfl,dG dc.out (aC _) _ _ _ _ _⟩⟩
theorem apL (rg:Bool) (da:ByteArray) (bm:Int) (x:bB) (v:aw) (w:af) (h:e2 w v [x])
 (bZ:∀W,aq ak 93 #[.int .u64 x.b] W fun e w'=>e=.returned (.tuple #[.agg #[.bool rg,.string da],.int .i64 bm])∧ah W.heap.size W w') (he:bm≠0) :
 aq ak 92 #[v] w (ek w iA ab):=by
 have jS:=I (fun W=>K4 rg da bm W he);have kn:=I bZ;clear bZ he;unfold ek iA bw at *;obtain⟨ag,a6⟩:∃ag,w.alloc (.cells #[.int .u8 0,.int .i64 0,.int .u64 0,.string ⟨#[]⟩,.slice J 0 0] 28)=ag:=⟨_,rfl⟩;have aO:aj (bk ag w.heap.size (.int .u8 0) (.int .i64 0) (.int .u64 0) (.string ⟨#[]⟩) (.slice J 0 0)):=I (by rw[←a6];exact bk.new _ _ _ _ _ _);have ay:aj (ah w.heap.size w ag):=I (by rw[←a6];exact (aK _ _).alloc (aC _) _);have dH:w.heap.size+1≤ag.heap.size:=by rw[←a6];simp
 obtain⟨al,gL,rfl,br,bT⟩:=h;have gg:ag.cell? ⟨al,2,J⟩=U (.int .u64 x.b):=by rw[ay.out.cell (p:=⟨al,2,J⟩) br];exact bT 0 x rfl 2 _ rfl
 simp only[ch,du] at *;clear bT;have aN:aj (∀W,ah ag.heap.size ag W→W.cell? ⟨al,2,J⟩=U (.int .u64 x.b)):=I (fun W ad=>by rw[ad.cell (p:=⟨al,2,J⟩) (by show al<_;omega)];exact gg);have dh:∀(W:af) (q i:Nat) (u a b c d e:aw),q<w.heap.size→W.cell? ⟨q,i,J⟩=U u→(cC W w.heap.size a b c d e).cell? ⟨q,i,J⟩=U u:=fun W q i u a b c d e aE hu=>by
  unfold cC;rw[b7 _ _ _ _ (by intro z;injection z with z;omega),b7 _ _ _ _ (by intro z;injection z with z;omega),b7 _ _ _ _ (by intro z;injection z with z;omega),b7 _ _ _ _ (by intro z;injection z with z;omega),b7 _ _ _ _ (by intro z;injection z with z;omega)];exact hu
 have e3:aj (∀W,ah ag.heap.size ag W→∀a b c d e,(cC W w.heap.size a b c d e).cell? ⟨al,2,J⟩=U (.int .u64 x.b)):=I (fun W ad a b c d e=>dh W al 2 _ a b c d e br (aN.out W ad));have cU:=I (show ah ag.heap.size ag ag.drew from (aK _ ag).drew);clear dh;unfold cC at e3;obtain⟨c0,c1,c2,c3,c4,f0,f1,f2,f3,f4⟩:=aO.out.cells;go_enter func92,ntmps92;go_wp2_with fail;refine (kn.out _).mono ?_;rintro e aQ ⟨rfl,bb⟩;go_wp2_with fail;refine (jS.out _).mono ?_;rintro e cf ⟨rfl,bf⟩;have ft:ah ag.heap.size ag cf:=bb.trans (bf.mono bb.size);have fH:=I (aO.out.below ft);clear c0 c1 c2 c3 c4 f0 f1 f2 f3 f4 aN e3 gg;obtain⟨d0,d1,d2,d3,d4,ck,aH,aT,b8,eb⟩:=fH.out.cells;all_goals
  have dc:=I (ay.out.trans (ft.mono (by omega)));obtain⟨aM,aG,bj,bq,bA,_,_,_,_,_⟩:=(fH.out.set (.int .u8 0) (.int .i64 0) (.int .u64 0) (.string ⟨#[]⟩) (.slice J 0 0)).cells;go_wp2;exact bI (v:=.tuple #[.agg #[.int .u8 0,.int .i64 0,.int .u64 0,.string ⟨#[]⟩,.slice J 0 0],.bool ab]) (by simp[bK,results92,go_sem,aM,aG,bj,bq,bA]) rfl ⟨rfl,dG dc.out (aC _) _ _ _ _ _⟩
theorem aqO (M:List UInt8) (h:0<M.length) (ao:M.length≤1000) (aL:48≤M[0].toNat∧M[0].toNat≤57):uq (ax M):=fun w=>aqG (ax M) w (by rw[fN];exact h) (by rw[fN];omega) aL
theorem aqP (M:List UInt8) (h:0<M.length) (ao:M.length≤1000) (aL:48≤M[0].toNat∧M[0].toNat≤57):uq (ax (45::M)):=fun w=>aqI (ax (45::M)) w (by rw[fN];simp) (by rw[fN];simp;exact h) (by rw[fN];simp;omega) rfl aL
structure ee where
 neg:Bool
 X:List UInt8
 Y:List UInt8
 ex:Option (Bool×List UInt8)
namespace ee
def body (t:ee):List UInt8:=t.X++46::t.Y
def tail (t:ee):List UInt8:=match t.ex with | none=>[] | some (ab,D)=>101::D | some (ai,D)=>101::45::D
def text (t:ee):List UInt8:=(if t.neg then [45] else [])++(t.body++t.tail)
def exp (t:ee):Int:=match t.ex with | none=>0 | some (ab,D)=>o.jB D | some (ai,D)=>-(o.jB D:Int)
structure pM (t:ee):Prop where
 gK:t.X≠[]
 l9:t.Y≠[]
 yX:∀c ∈ t.X,o.digit c
 Ia:∀c ∈ t.Y,o.digit c
 nm:∀s D,t.ex=U (s,D)→D≠[]∧∀c ∈ D,o.digit c
 len:t.text.length≤400
end ee
theorem adA (X:List UInt8) (fs:∀c ∈ X,o.digit c):(o.run X).dot=ab∧(X≠[]→(o.run X).dr=ai):=by
 induction X using o.UK with
 | nil=>exact⟨rfl,fun h=>absurd rfl h⟩
 | snoc X c dw=>
   have an:=fs c (by simp);obtain⟨i1,i2⟩:=dw (fun x hx=>fs x (by simp[hx]));rw[o.x1];unfold o.step;rw[aU (o.H' an)];constructor
   ·split
    ·exact i1
    ·split<;>exact i1
   ·intro _;split
    ·rfl
    ·split<;>rfl
theorem adB (X Y:List UInt8) (fs:∀c ∈ X,o.digit c) (w1:X≠[]) (gb:∀c ∈ Y,o.digit c):(o.run (X++46::Y)).dot=ai∧(o.run (X++46::Y)).dr=ai:=by
 induction Y using o.UK with
 | nil=>
   have e:X++46::[]=X++[46]:=rfl;rw[e,o.x1];unfold o.step;rw[ba rfl];exact⟨rfl,(adA X fs).2 w1⟩
 | snoc Y c dw=>
   have an:=gb c (by simp);obtain⟨i1,i2⟩:=dw (fun x hx=>gb x (by simp[hx]));have e:X++46::(Y++[c])=(X++46::Y)++[c]:=by simp
   rw[e,o.x1];unfold o.step;rw[aU (o.H' an)];constructor
   ·split
    ·exact i1
    ·split<;>exact i1
   ·split
    ·rfl
    ·split<;>rfl
theorem adC {X Y:List UInt8} (fs:∀c ∈ X,o.digit c) (gb:∀c ∈ Y,o.digit c):FW (X++46::Y):=by
 constructor
 ·intro c an;rcases List.mem_append.1 an with an | an
  ·exact .inr (fs c an)
  ·rcases List.mem_cons.1 an with an | an
   ·exact .inl an
   ·exact .inr (gb c an)
 ·intro k aA e;have Mr:k=X.length:=by
   rcases zk k X.length with aa | aa | aa
   ·exfalso;have:=fs X[k] (jc _);rw[Ec aa] at e;exact o.H' this e
   ·exact aa
   ·exfalso;rw[VY (by omega)] at e;obtain⟨j,bP⟩:∃j,k-X.length=j+1:=⟨k-X.length-1,by omega⟩;simp only[bP,V7] at e;exact o.H' (gb _ (jc _)) e
  subst Mr;rw[List.take_left' rfl];exact (adA X fs).1
theorem adD {X Y:List UInt8} (fs:∀c ∈ X,o.digit c) (ar:X≠[]) (q:0<(X++46::Y).length):o.digit (X++46::Y)[0]:=by
 have aa:=List.length_pos_iff.2 ar;rw[Ec aa];exact fs _ (jc _)
theorem nU (A B C:List UInt8):h9 (ax (A++(B++C))) A.length B:=fun k h ae=>by
 have:=x2 (A++(B++C)) (A.length+k) (by simp;omega) (by simpa using ae);simp only[hc] at this;rw[this,VY (by omega)];simp only[Nat.add_sub_cancel_left];rw[Ec h]
theorem DR (A:List UInt8) (c:UInt8) (C:List UInt8) (q:A.length<(ax (A++c::C)).size):(ax (A++c::C))[A.length]'q=c:=by
 have:=nU A [c] C 0 (by simp) (by simpa using q);simpa using this
theorem aqQ {t:ee} (h:t.pM):vx (ax t.text) (o.run t.body).m (o.n7 (o.run t.body) t.exp) t.neg (o.run t.body).cr t.text.length:=by
 have dy:=adC h.yX h.Ia;have aJ:3≤(t.X++46::t.Y).length:=by
  have aa:=List.length_pos_iff.2 h.gK;have ae:=List.length_pos_iff.2 h.l9;simp;omega
 have fr:=adD (Y:=t.Y) h.yX h.gK;obtain⟨f1,f2⟩:=adB t.X t.Y h.yX h.gK h.Ia;have ao:=h.len;have Ib:=h.nm;obtain⟨neg,X,Y,ex⟩:=t;simp only at dy aJ fr f1 f2 ao Ib;unfold ee.text ee.body at ao;simp only at ao;show vx (ax ((if neg=ai then [45] else [])++((X++46::Y)++ee.tail ⟨neg,X,Y,ex⟩))) (o.run (X++46::Y)).m (o.n7 (o.run (X++46::Y)) (ee.exp ⟨neg,X,Y,ex⟩)) neg (o.run (X++46::Y)).cr ((if neg=ai then [45] else [])++((X++46::Y)++ee.tail ⟨neg,X,Y,ex⟩)).length;generalize X++46::Y=M at dy aJ fr f1 f2 ao ⊢;have fr:=fr (by omega);cases neg
 ·rcases ex with _ | ⟨_ | _,D⟩
  ·have A6:M.length≤400:=by simp[ee.tail] at ao;omega
   simp only[ee.tail,ee.exp,oL,oV,oW,se,sd,rf];intro w;have r:=adv 0 ab (ax (M)) M w (I (by rw[fN];simp)) dy aJ (by omega) (by have:=nU [] M [];simpa using this) f2 f1 fr (.inl ⟨rfl,rfl⟩);have e:0+M.length=(M).length:=by simp
   rw[e] at r;exact r
  ·obtain⟨ck,nm⟩:=Ib ab D rfl;have dz:=List.length_pos_iff.2 ck;have A6:M.length+(D.length+1)≤400:=by simp[ee.tail] at ao;omega
   simp only[ee.tail,ee.exp,oL,oV,oW,se,sd,rf];intro w;have r:=ady 0 ab (ax ((M++101::D))) M D w (I (by rw[fN];simp<;>omega)) dz (by omega) nm (by have:=nU (M++[101]) D [];simpa[nW,jv,BJ] using this) (by rw[fN];simp<;>omega) (by have:=DR (M) 101 (D) (by rw[fN];simp);simpa[jv] using this) dy aJ (by omega) (by have:=nU [] M (101::D);simpa using this) f2 f1 fr (.inl ⟨rfl,rfl⟩);have e:0+M.length+1+D.length=((M++101::D)).length:=by simp<;>omega
   rw[e] at r;exact r
  ·obtain⟨ck,nm⟩:=Ib ai D rfl;have dz:=List.length_pos_iff.2 ck;have A6:M.length+(D.length+2)≤400:=by simp[ee.tail] at ao;omega
   simp only[ee.tail,ee.exp,oL,oV,oW,se,sd,rf];intro w;have r:=adz 0 ab (ax ((M++101::45::D))) M D w (I (by rw[fN];simp<;>omega)) dz (by omega) nm (by have:=nU (M++[101,45]) D [];simpa[nW,jv,BJ] using this) (by rw[fN];simp<;>omega) (by have:=DR (M) 101 (45::D) (by rw[fN];simp);simpa[jv] using this) (by rw[fN];simp<;>omega) (by have:=DR (M++[101]) 45 D (by rw[fN];simp);simpa[nW,jv,BJ] using this) dy aJ (by omega) (by have:=nU [] M (101::45::D);simpa using this) f2 f1 fr (.inl ⟨rfl,rfl⟩);have e:0+M.length+2+D.length=((M++101::45::D)).length:=by simp<;>omega
   rw[e] at r;exact r
 ·rcases ex with _ | ⟨_ | _,D⟩
  ·have A6:M.length+1≤400:=by simp[ee.tail] at ao;omega
   simp only[ee.tail,ee.exp,oL,oV,oW,se,sd,rf];intro w;have r:=adv 1 ai (ax (45::M)) M w (I (by rw[fN];simp<;>omega)) dy aJ (by omega) (by have:=nU [45] M [];simpa using this) f2 f1 fr (.inr ⟨rfl,rfl,by rw[fN];simp,rfl⟩);have e:1+M.length=(45::M).length:=by simp<;>omega
   rw[e] at r;exact r
  ·obtain⟨ck,nm⟩:=Ib ab D rfl;have dz:=List.length_pos_iff.2 ck;have A6:M.length+(D.length+2)≤400:=by simp[ee.tail] at ao;omega
   simp only[ee.tail,ee.exp,oL,oV,oW,se,sd,rf];intro w;have r:=ady 1 ai (ax (45::(M++101::D))) M D w (I (by rw[fN];simp<;>omega)) dz (by omega) nm (by have:=nU ([45]++M++[101]) D [];simpa[nW,jv,BJ] using this) (by rw[fN];simp<;>omega) (by have:=DR ([45]++M) 101 (D) (by rw[fN];simp);simpa[jv] using this) dy aJ (by omega) (by have:=nU [45] M (101::D);simpa using this) f2 f1 fr (.inr ⟨rfl,rfl,by rw[fN];simp,rfl⟩);have e:1+M.length+1+D.length=(45::(M++101::D)).length:=by simp<;>omega
   rw[e] at r;exact r
  ·obtain⟨ck,nm⟩:=Ib ai D rfl;have dz:=List.length_pos_iff.2 ck;have A6:M.length+(D.length+3)≤400:=by simp[ee.tail] at ao;omega
   simp only[ee.tail,ee.exp,oL,oV,oW,se,sd,rf];intro w;have r:=adz 1 ai (ax (45::(M++101::45::D))) M D w (I (by rw[fN];simp<;>omega)) dz (by omega) nm (by have:=nU ([45]++M++[101,45]) D [];simpa[nW,jv,BJ] using this) (by rw[fN];simp<;>omega) (by have:=DR ([45]++M) 101 (45::D) (by rw[fN];simp);simpa[jv] using this) (by rw[fN];simp<;>omega) (by have:=DR ([45]++M++[101]) 45 D (by rw[fN];simp);simpa[nW,jv,BJ] using this) dy aJ (by omega) (by have:=nU [45] M (101::45::D);simpa using this) f2 f1 fr (.inr ⟨rfl,rfl,by rw[fN];simp,rfl⟩);have e:1+M.length+2+D.length=(45::(M++101::45::D)).length:=by simp<;>omega
   rw[e] at r;exact r
theorem aqR:∀n:Fin 256,o.uP.contains (UInt8.ofNat n.val)=au (48≤n.val∧n.val≤57):=by decide +kernel
theorem ME (c:UInt8):o.uP.contains c=ai↔o.digit c:=by
 have h:=aqR ⟨c.toNat,UInt8.toNat_lt c⟩;simp only[UInt8.ofNat_toNat] at h;rw[h,ij];exact Iff.rfl
theorem UM (X Z:List UInt8) (fs:∀c ∈ X,o.digit c) (iz:∀c r,Z=c::r→¬ o.digit c):o.rest (X++Z)=Z:=by
 unfold o.rest Lib.trimLeftS;induction X with
 | nil=>
   cases Z with
   | nil=>rfl
   | cons c r=>
     have:=iz c r rfl;rw[se,IS,aU (fun h=>this ((ME c).1 h))]
 | cons x X dw=>
   rw[rf,IS,ba ((ME x).2 (fs x (by simp)))];exact dw (fun c an=>fs c (by simp[an]))
theorem UN (l:List UInt8):∃X,l=X++o.rest l∧(∀c ∈ X,o.digit c)∧X.length=o.ji l∧∀c r,o.rest l=c::r→¬ o.digit c:=by
 refine⟨l.takeWhile (o.uP.contains ·),(VR).symm,?_,?_,?_⟩
 ·intro c an;exact (ME c).1 (List.all_eq_true.1 List.all_takeWhile c an)
 ·unfold o.ji o.rest Lib.trimLeftS;have:=eS List.length (VR (p:=(o.uP.contains ·)) (l:=l));rw[ey] at this;omega
 ·intro c r e aL;have h:=V1 (o.uP.contains ·) l;unfold o.rest Lib.trimLeftS at e;rw[e] at h;simp at h;exact absurd ((ME c).2 aL) (by simpa using h)
theorem w4 (c:UInt8) (l:List UInt8):(Lib.hasPrefix l [c]=ai∧∃r,l=c::r∧Lib.trimPrefix l [c]=r)∨(Lib.hasPrefix l [c]=ab∧Lib.trimPrefix l [c]=l∧∀r,l≠c::r):=by
 cases l with
 | nil=>right;exact⟨rfl,rfl,by intro r h;cases h⟩
 | cons a r=>
   by_cases h:a=c
   ·subst h;left;have hp:Lib.hasPrefix (a::r) [a]=ai:=by simp[Lib.hasPrefix,List.isPrefixOf]
    exact⟨hp,r,rfl,by unfold Lib.trimPrefix;rw[hp];rfl⟩
   ·right;have hp:Lib.hasPrefix (a::r) [c]=ab:=by simp[Lib.hasPrefix,List.isPrefixOf];exact fun e=>h e.symm
    refine⟨hp,by unfold Lib.trimPrefix;rw[hp];rfl,?_⟩;intro ix e;exact h (by injection e)
theorem aqS {l:List UInt8} (h:o.formed l=ai):∃t:ee,t.pM∧l=t.text:=by
 unfold o.formed at h;split at h
 ·cases h
 ·rename_i ao;obtain⟨neg,nG⟩:∃neg:Bool,l=(if neg then [45] else [])++Lib.trimPrefix l [45]:=by
   rcases w4 45 l with ⟨_,r,e,aT⟩ | ⟨_,e,_⟩
   ·exact⟨ai,by rw[aT];exact e⟩
   ·exact⟨ab,by rw[e];rfl⟩
  generalize Lib.trimPrefix l [45]=iT at h nG;obtain⟨X,aH,fs,ay2,_⟩:=UN iT;split at h
  ·cases h
  ·rename_i an;have iN:o.ji iT≠0:=fun e=>an (.inl e);have mu:Lib.hasPrefix (o.rest iT) [46]≠ab:=fun e=>an (.inr (.inl e));have o2:o.ji (Lib.trimPrefix (o.rest iT) [46])≠0:=fun e=>an (.inr (.inr e));rcases w4 46 (o.rest iT)with ⟨_,r,aT,b8⟩ | ⟨e,_⟩
   ·rw[b8] at h o2;obtain⟨Y,eb,gb,ay3,ay4⟩:=UN r;have j1:X≠[]:=List.length_pos_iff.1 (by omega);have qi:Y≠[]:=List.length_pos_iff.1 (by omega);have hle:l.length≤400:=by omega
    split at h
    ·rename_i aqT;have vg:o.rest r=[]:=List.isEmpty_iff.1 aqT;have xK:l=ee.text ⟨neg,X,Y,J⟩:=by
      rw[nG,aH,aT,eb,vg];simp[ee.text,ee.body,ee.tail]
     refine⟨⟨neg,X,Y,J⟩,⟨j1,qi,fs,gb,(fun s D e=>by cases e),by rw[←xK];exact hle⟩,xK⟩
    ·rw[s6,s6] at h;obtain⟨⟨aa,ae⟩,aJ⟩:=h;rcases w4 101 (o.rest r)with ⟨_,q,vR,MF⟩ | ⟨e,_⟩
     ·rw[MF] at ae aJ;obtain⟨cy,jF⟩:∃cy:Bool,q=(if cy then [45] else [])++Lib.trimPrefix q [45]:=by
       rcases w4 45 q with ⟨_,r,e,aT⟩ | ⟨_,e,_⟩
       ·exact⟨ai,by rw[aT];exact e⟩
       ·exact⟨ab,by rw[e];rfl⟩
      generalize Lib.trimPrefix q [45]=D at ae aJ jF;obtain⟨fC,f1,f2,f3,_⟩:=UN D;have FO:fC.length=D.length:=by rw[f3];simpa using aJ
      have aqU:o.rest D=[]:=by
       have:=eS List.length f1;rw[ey] at this;exact r7 (by omega)
      rw[aqU,sd] at f1;have aqV:D≠[]:=by
       intro e;rw[e] at ae;simp at ae
      have xK:l=ee.text ⟨neg,X,Y,U (cy,D)⟩:=by
       rw[nG,aH,aT,eb,vR,jF];cases cy<;>simp[ee.text,ee.body,ee.tail]
      refine⟨⟨neg,X,Y,U (cy,D)⟩,⟨j1,qi,fs,gb,fun s dX e=>?_,by rw[←xK];exact hle⟩,xK⟩;simp only[re,Prod.mk.injEq] at e;obtain⟨rfl,rfl⟩:=e;exact⟨aqV,by rw[f1];exact f2⟩
     ·rw[e] at aa;cases aa
   ·exact absurd e mu
theorem aqW {t:ee} (h:t.pM):o.formed t.text=ai:=by
 obtain⟨neg,X,Y,ex⟩:=t;obtain⟨gK,l9,fs,gb,nm,ao⟩:=h;simp only at gK l9 fs gb nm;unfold o.formed;rw[aU (by omega)];have gu:=List.length_pos_iff.2 gK;have T2:=List.length_pos_iff.2 l9;obtain⟨Z,iz⟩:∃Z,ee.tail ⟨neg,X,Y,ex⟩=Z:=⟨_,rfl⟩;have aH:Lib.trimPrefix (ee.text ⟨neg,X,Y,ex⟩) [45]=X++(46::(Y++Z)):=by
  unfold ee.text ee.body;rw[iz];cases neg
  ·rcases w4 45 ((if ab=ai then [45] else [])++((X++46::Y)++Z))with ⟨_,r,e,_⟩ | ⟨_,e,_⟩
   ·exfalso;cases X with
    | nil=>exact gK rfl
    | cons a ay5=>
      simp at e;have:=fs a (by simp);rw[e.1] at this;exact absurd this.1 (by decide)
   ·rw[e];simp
  ·rcases w4 45 ((if ai=ai then [45] else [])++((X++46::Y)++Z))with ⟨_,r,e,aT⟩ | ⟨_,_,e⟩
   ·rw[aT];simp at e;rw[←e]
   ·exact absurd rfl (e ((X++46::Y)++Z))
 have aT:o.rest (X++(46::(Y++Z)))=46::(Y++Z):=UM X _ fs (fun c r e aL=>by
  injection e with e _;subst e;exact absurd aL.1 (by decide))
 have b8:Lib.trimPrefix (46::(Y++Z)) [46]=Y++Z:=by
  rcases w4 46 (46::(Y++Z))with ⟨_,r,e,lG⟩ | ⟨_,_,e⟩
  ·rw[lG];injection e with _ e;exact e.symm
  ·exact absurd rfl (e (Y++Z))
 have aqX:Lib.hasPrefix (46::(Y++Z)) [46]=ai:=by simp[Lib.hasPrefix,List.isPrefixOf]
 have aqY:∀c r,Z=c::r→¬ o.digit c:=by
  intro c r e aL;rw[←iz] at e;unfold ee.tail at e;rcases ex with _ | ⟨_ | _,D⟩
  ·cases e
  ·injection e with e _;subst e;exact absurd aL.2 (by decide)
  ·injection e with e _;subst e;exact absurd aL.2 (by decide)
 have eb:o.rest (Y++Z)=Z:=UM Y Z gb aqY;have dE:o.ji (X++(46::(Y++Z)))=X.length:=by unfold o.ji;rw[aT];simp<;>omega
 have lu:o.ji (Y++Z)=Y.length:=by unfold o.ji;rw[eb];simp
 rw[aH,aT,b8,eb,aqX,dE,lu,aU (by
  rintro (h | h | h)
  ·omega
  ·cases h
  ·omega)]
 rcases ex with _ | ⟨cy,D⟩
 ·have:Z=[]:=iz.symm;rw[this];rfl
 ·obtain⟨d0,dz⟩:=nm cy D rfl;have UO:Z=101::((if cy then [45] else [])++D):=by rw[←iz];cases cy<;>rfl
  have ay6:=List.length_pos_iff.2 d0;have bY:Lib.hasPrefix Z [101]=ai:=by rw[UO];simp[Lib.hasPrefix,List.isPrefixOf]
  have fA:Lib.trimPrefix Z [101]=(if cy then [45] else [])++D:=by
   unfold Lib.trimPrefix;rw[bY,UO];rfl
  have gW:Lib.trimPrefix ((if cy then [45] else [])++D) [45]=D:=by
   cases cy
   ·rcases w4 45 ((if ab=ai then [45] else [])++D)with ⟨_,r,e,_⟩ | ⟨_,e,_⟩
    ·exfalso;simp at e;have:=dz 45 (by rw[e];simp);exact absurd this.1 (by decide)
    ·rw[e];simp
   ·rcases w4 45 ((if ai=ai then [45] else [])++D)with ⟨_,r,e,aT⟩ | ⟨_,_,e⟩
    ·rw[aT];simp at e;exact e.symm
    ·exact absurd rfl (e D)
  have tQ:o.rest D=[]:=by
   have:=UM D [] dz (fun c r e=>by cases e);rwa[sd] at this
  have C8:o.ji D=D.length:=by unfold o.ji;rw[tQ];simp
  rw[aU (by rw[UO];simp),bY,fA,gW,C8];simp;exact d0
theorem atD (c:UInt8) (w:af):aq ak 158 #[.int .u8 c.toNat] w fun e w'=>e=.returned (.bool (au (48≤c.toNat∧c.toNat≤57)))∧w=w':=by
 have aa:=c.toNat_lt;generalize c.toNat=n at *;obtain⟨q,aE⟩:∃q,au (48≤n∧n≤57)=q:=⟨_,rfl⟩;have aL:(au ((48:Int)≤(n:Int))=ab∧q=ab)∨(au ((48:Int)≤(n:Int))=ai∧au ((n:Int)≤57)=q):=by
  rw[←aE];by_cases h:48≤n
  ·right;refine⟨bE (by omega),?_⟩;rw[mg,ij,ij];omega
  ·left;exact⟨bx (by omega),bx (by omega)⟩
 rw[aE];clear aE;rcases aL with ⟨d1,rfl⟩ | ⟨d1,d2⟩
 ·go_enter func158,ntmps158;go_wp2;go_ret;exact⟨rfl,rfl⟩
 ·go_enter func158,ntmps158;go_wp2;go_ret;exact⟨rfl,rfl⟩
namespace o
theorem ae1:∀(l:List UInt8) (k acc:Nat),(∀c ∈ l,48≤c.toNat∧c.toNat≤57)→acc<10^k→k+l.length≤19→Lib.parseUintM (2^64-1) acc l=.ok (l.foldl (fun a c=>a*10+(c.toNat-48)) acc)
 | [],_,_,_,_,_=>rfl
 | c::r,k,acc,aL,aS,aA=>by
   have an:=aL c (by simp);simp only[ch] at aA;have aa:acc<10^18:=cv aS (dB (by decide) (by omega));have ae:acc*10+(c.toNat-48)<10^(k+1):=by rw[ei];omega
   unfold Lib.parseUintM;rw[ba an,aU (by omega),aU (by omega)];exact ae1 r (k+1) _ (fun x hx=>aL x (by simp[hx])) ae (by omega)
theorem Vw {c:UInt8} (h:48≤c.toNat∧c.toNat≤57):dg c=c.toNat-48:=by
 unfold dg;rw[ba h]
theorem atE (l:List UInt8) (aL:∀c ∈ l,48≤c.toNat∧c.toNat≤57):l.foldl (fun a c=>a*10+(c.toNat-48)) 0=ep 10 (l.map dg):=by
 unfold ep;rw[List.foldl_map];have key:∀(m:List UInt8) (a:Nat),(∀c ∈ m,48≤c.toNat∧c.toNat≤57)→m.foldl (fun a c=>a*10+(c.toNat-48)) a=m.foldl (fun a c=>a*10+dg c) a:=by
  intro m;induction m with
  | nil=>intro a _;rfl
  | cons c r dw=>
    intro a h;rw[EG,EG,Vw (h c (by simp))];exact dw _ (fun x hx=>h x (by simp[hx]))
 exact key l 0 aL
theorem ae2 {l:List UInt8} {V:Nat} (h:nK 10 l V) (aL:∀c ∈ l,48≤c.toNat∧c.toNat≤57) (ao:l.length≤19):Lib.parseIntB 64 l=if 9223372036854775808≤V then .range else .ok (V:Int):=by
 have ar:l≠[]:=fun e=>h.ne (by rw[e];rfl);have hu:Lib.parseUintB 64 l=.ok V:=by
  unfold Lib.parseUintB;rw[aU ar,ae1 l 0 0 aL (by decide) (by omega),atE l aL,h.val]
 cases l with
 | nil=>exact absurd rfl ar
 | cons c r=>
   have an:=aL c (by simp);have atF:¬ (c.toNat=43∨c.toNat=45):=by omega
   have Vx:¬ c.toNat=45:=by omega
   have e:Lib.parseIntB 64 (c::r)=(match Lib.parseUintB 64 (if c.toNat=43∨c.toNat=45 then r else c::r)with | .syntax=>.syntax | .range=>.range | .ok u=>if ¬ (c.toNat=45)∧2^(64-1)≤u then .range else if c.toNat=45∧2^(64-1)<u then .range else .ok (if c.toNat=45 then -(u:Int) else u)):=rfl;rw[e,aU atF,hu];simp only;by_cases cA:9223372036854775808≤V
   ·rw[ba ⟨Vx,cA⟩,ba cA]
   ·rw[aU (fun h=>cA h.2),aU (fun h=>Vx h.1),aU Vx,aU cA]
theorem ae3 {l:List UInt8} {V:Nat} (h:nK 10 l V):∀c ∈ l,48≤c.toNat∧c.toNat≤57:=by
 intro c an;have aa:=h.lt (dg c) (List.mem_map.2 ⟨c,an,rfl⟩);have ae:=(wA c).2 aa;unfold gB at ae;simp only[uB,zp,zI] at ae;rcases ae with rfl | rfl | rfl | rfl | rfl | rfl | rfl | rfl | rfl | rfl<;>decide
theorem ae4 {l:List UInt8} {V:Nat} (h:nK 10 l V) (ao:19<l.length):10000000000000000000≤V:=by
 cases l with
 | nil=>simp at ao
 | cons c r=>
   have aa:dg c≠0:=fun e=>by
    have:=h.head (by rw[tb,e];rfl);rw[rh] at this;omega
   have ae:=XU 10 [dg c] (r.map dg);have aJ:ep 10 [dg c]=dg c:=by simp[ep]
   rw[aJ,List.singleton_append,rh,←tb,h.val] at ae;simp only[ch] at ao;have bQ:(10:Nat)^19≤10^r.length:=dB (by decide) (by omega);have dm:1*10^r.length≤dg c*10^r.length:=fD _ (by omega);have ga:(10:Nat)^19=10000000000000000000:=by decide
   omega
end o
theorem M' (w:af) (t:TypeId) (W:af) (h:W=w∨∃x,W=Lib.bytesWorld w t x):ah w.heap.size w W:=by
 rcases h with rfl | ⟨x,rfl⟩
 ·exact aK _ _
 ·exact bytesWorld_below _ _ _
namespace o
end o
theorem asb {t:ee} (h:t.pM):uq (ax t.text):=by
 have hx:=List.length_pos_iff.2 h.gK;have ao:=h.len;have key:∀M:List UInt8,M=t.X++46::t.Y++t.tail→(q:0<M.length)→48≤M[0].toNat∧M[0].toNat≤57:=by
  intro M e q;subst e;have aH:(t.X++46::t.Y++t.tail)[0]=t.X[0]:=by
   rw[Ec (by simp;omega),Ec hx]
  rw[aH];exact h.yX _ (jc _)
 obtain⟨neg,X,Y,ex⟩:=t;unfold ee.text at ao ⊢;cases neg
 ·simp only[oL,oV,se] at ao ⊢;have hp:0<(ee.body ⟨ab,X,Y,ex⟩++ee.tail ⟨ab,X,Y,ex⟩).length:=by unfold ee.body;simp;omega
  exact aqO _ hp (by omega) (key _ rfl hp)
 ·simp only[oW] at ao ⊢;have hp:0<(ee.body ⟨ai,X,Y,ex⟩++ee.tail ⟨ai,X,Y,ex⟩).length:=by unfold ee.body;simp;omega
  exact aqP _ hp (by simp at ao ⊢;omega) (key _ rfl hp)
def ee.num (t:ee):Nat:=o.FT (t.X++t.Y)
def y5 (r:Nat):Prop:=r<18446744073709551616∧r%9223372036854775808<9218868437227405312
def ael (neg:Bool):ee:=⟨neg,[48],[48],J⟩
theorem aem (a:Nat) (aS:a<18446744073709551616) (w:af):aq ak 147 #[.float .f64 a] w fun e w'=>e=.returned (.bool (au (9223372036854775808≤a)))∧w=w':=by
 have aa:=B';have ae:au (wrap64 (a:Int)<0)=au (9223372036854775808≤a):=by
  rw[mg,ij,ij];unfold wrap64;omega
 rw[←ae];clear ae;go_enter func147,ntmps147;go_wp2;go_ret;exact⟨rfl,rfl⟩
theorem asc (neg:Bool) (w:af) :
 aq ak 99 #[.int .u64 (o.eV neg:Nat)] w fun e w'=>e=.returned (.string (ax (ael neg).text))∧w=w':=by
 have key:∀a:Nat,a<18446744073709551616→au (a=9218868437227405312)=ab→au (a=18442240474082181120)=ab→FloatKind.f64.format.order a a=U .eq→FloatKind.f64.format.order a 0=U .eq→∀s:ByteArray,(∀w:af,aq ak 147 #[.float .f64 a] w fun e w'=>e=.returned (.bool (au (9223372036854775808≤a)))∧w=w')→
  (au (9223372036854775808≤a)=ab∧s=⟨#[48,46,48]⟩∨au (9223372036854775808≤a)=ai∧s=⟨#[45,48,46,48]⟩)→aq ak 99 #[.int .u64 a] w fun e w'=>e=.returned (.string s)∧w=w':=by
  intro a aS i1 i2 b6 aX s aN a1;have wb:=I (fun w=>QF a aS w);have we:=I (fun w=>QG a aS w);rw[i1] at wb;rw[i2] at we;have vi:=I aN;clear i1 i2 aN;generalize au (9223372036854775808≤a)=b at a1 vi;rcases a1 with ⟨rfl,rfl⟩ | ⟨rfl,rfl⟩;all_goals
   go_enter E5,E0;go_wp2_with fail;refine (h3 _ _).mono ?_;rintro e w' ⟨rfl,rfl⟩;go_wp2_with fail;refine (wb.out _).mono ?_;rintro e w' ⟨rfl,rfl⟩;go_wp2_with fail;refine (we.out _).mono ?_;rintro e w' ⟨rfl,rfl⟩;go_wp2_with (refine (vi.out _).mono ?_;rintro e w' ⟨rfl,rfl⟩);go_ret;exact⟨rfl,rfl⟩
 cases neg
 ·exact key 0 (by decide) (by decide) (by decide) (by decide +kernel) (by decide +kernel) _ (fun w=>aem 0 (by decide) w) (.inl ⟨by decide,rfl⟩)
 ·exact key 9223372036854775808 (by decide) (by decide) (by decide) (by decide +kernel) (by decide +kernel) _ (fun w=>aem 9223372036854775808 (by decide) w) (.inr ⟨by decide,rfl⟩)
theorem asd (s:ByteArray) (n:Nat) (p:Int) (neg cr:Bool) (w:af) (a1:uq s) (aF:vx s 0 p neg cr n) (he:Env w):q4 (fun r=>r=o.eV neg) False s n w:=by
 have aa:=he.opt;have ae:=y1;clear he;unfold q4;obtain⟨cy,jF,U3⟩:∃cy:Nat,o.eV neg=cy∧(neg=ab∧cy=0∨neg=ai∧cy=9223372036854775808):=⟨_,rfl,by cases neg<;>simp[o.eV]⟩;have cF:bits .or .u64 9223372036854775808 0=9223372036854775808:=by decide
 have fw:bits .or .u64 0 0=0:=by decide
 rw[jF];clear jF;rcases U3 with ⟨rfl,rfl⟩ | ⟨rfl,rfl⟩;all_goals
  go_enter zB,zx;go_wp2_with fail;refine (a1 _).mono ?_;rintro e w' ⟨rfl,rfl⟩;go_wp2_with fail;refine (aF _).mono ?_;rintro e w' ⟨rfl,rfl⟩;go_wp2_with fail;refine (vQ _ _).mono ?_;rintro e w' ⟨rfl,rfl⟩;go_wp2;go_ret3;exact⟨⟨_,.inl ⟨rfl,rfl⟩⟩,aK _ _⟩
def MV (s:ByteArray):Prop:=∀(w:af) (P:Nat),y8 w P→w.heap[P]? = U (.cells zeroCells218 218 (0,0))→
 aq ak 284 #[.pointer (U ⟨P,0,J⟩),.string s] w fun e cq=>e=.returned (.bool ai)∧ah P w cq∧
  aq ak 285 #[.pointer (U ⟨P,0,J⟩),.pointer (U ⟨10,0,J⟩)] cq fun e aP=>∃(b:Nat) (a7:Bool),e=.returned (.tuple #[.int .u64 b,.bool a7])∧b<18446744073709551616∧(a7=ab→b%9223372036854775808<9218868437227405312)∧ah P cq aP
def w9 (d:Nat) (p cy:Int) (v:Nat) (fZ:aw):Prop:=∀W:af,Env W→aq ak 289 #[.int .u64 d,.int .i64 p,.int .u64 cy] W fun e w'=>e=.returned (.tuple #[.float .f64 v,fZ])∧ah W.heap.size W w'
theorem aex (d:Nat) (p:Int) (neg:Bool) (fr:d≠0) (aL:d<18446744073709551616) (eU:-345≤p) (fE:p≤310):∃v fZ,w9 d p (o.eV neg:Nat) v fZ∧av.dC v=ab∧((fZ=.nilIface∧y5 v)∨fZ=.iface 188 (.int .i64 1)):=by
 have f1:=aek neg (d:=d) (p:=p) fr aL eU fE;have bD:o.iC av.bR (d,p)≤9218868437227405312:=av.Aw _ _;refine⟨av.D.word neg (o.iC av.bR (d,p)),if o.iC av.bR (d,p)=9218868437227405312 then .iface 188 (.int .i64 1) else .nilIface,fun W he=>?_,av.Fc neg bD,?_⟩
 ·have:=aed d p neg W fr aL eU fE he.vT (by have:=he.size;omega);rw[f1] at this;exact this
 ·by_cases h:o.iC av.bR (d,p)=9218868437227405312
  ·right;rw[ba h]
  ·left;rw[aU h];refine⟨rfl,(av.oX neg (by omega)).2.2,?_⟩;rw[(av.oX neg (by omega)).1];omega
theorem aso (s:ByteArray) (n d:Nat) (p:Int) (w:af) (a1:uq s) (aF:vx s d p ab ai n) (fr:d≠0) (aL:d<10000000000000000000) (eU:-345≤p) (fE:p≤310) (v1 v2:Nat) (aH aT:aw)
 (aO:w9 d p 0 v1 aH) (c8:w9 (d+1:Nat) p 0 v2 aT) (b6:(FloatKind.f64.format.order v1 v2==U .eq)=ai) (he:Env w) :
 aq ak 250 #[.string s] w fun e w'=>e=.returned (.tuple #[.float .f64 v1,.int .i64 n,aH])∧ah w.heap.size w w':=by
 have aa:=he.opt;have ae:=y1;have cd:((d:Int)==0)=ab:=by rw[cH];omega
 have Bm:=I aO;have Bn:=I c8;have dd:=I he;have gv:d+1<18446744073709551616:=by omega
 clear aO c8 he;go_enter zB,zx;go_wp2_with fail;refine (a1 _).mono ?_;rintro e w' ⟨rfl,rfl⟩;go_wp2_with fail;refine (aF _).mono ?_;rintro e w' ⟨rfl,rfl⟩;go_wp2_with fail;refine (vQ _ _).mono ?_;rintro e w' ⟨rfl,rfl⟩;go_wp2_with fail;refine (Bm.out _ dd.out).mono ?_;rintro e aP ⟨rfl,bg⟩;have bL:=I bg;have mc:=I (dd.out.below bg);clear bg;go_wp2_with fail;refine (Bn.out _ mc.out).mono ?_;rintro e cc ⟨rfl,cK⟩;have bu:=I (bL.out.trans (cK.mono bL.out.size));have Ip:=I (mc.out.below cK);clear cK;go_wp2;go_ret3;exact⟨rfl,bu.out⟩
theorem asp (s:ByteArray) (n d:Nat) (p:Int) (w:af) (a1:uq s) (aF:vx s d p ai ai n) (fr:d≠0) (aL:d<10000000000000000000) (eU:-345≤p) (fE:p≤310) (v1 v2:Nat) (aH aT:aw)
 (aO:w9 d p 9223372036854775808 v1 aH) (c8:w9 (d+1:Nat) p 9223372036854775808 v2 aT) (b6:(FloatKind.f64.format.order v1 v2==U .eq)=ai) (he:Env w) :
 aq ak 250 #[.string s] w fun e w'=>e=.returned (.tuple #[.float .f64 v1,.int .i64 n,aH])∧ah w.heap.size w w':=by
 have aa:=he.opt;have ae:=y1;have cd:((d:Int)==0)=ab:=by rw[cH];omega
 have Bm:=I aO;have Bn:=I c8;have dd:=I he;have gv:d+1<18446744073709551616:=by omega
 clear aO c8 he;go_enter zB,zx;go_wp2_with fail;refine (a1 _).mono ?_;rintro e w' ⟨rfl,rfl⟩;go_wp2_with fail;refine (aF _).mono ?_;rintro e w' ⟨rfl,rfl⟩;go_wp2_with fail;refine (vQ _ _).mono ?_;rintro e w' ⟨rfl,rfl⟩;go_wp2_with fail;refine (Bm.out _ dd.out).mono ?_;rintro e aP ⟨rfl,bg⟩;have bL:=I bg;have mc:=I (dd.out.below bg);clear bg;go_wp2_with fail;refine (Bn.out _ mc.out).mono ?_;rintro e cc ⟨rfl,cK⟩;have bu:=I (bL.out.trans (cK.mono bL.out.size));have Ip:=I (mc.out.below cK);clear cK;go_wp2;go_ret3;exact⟨rfl,bu.out⟩
theorem asq (s:ByteArray) (n d:Nat) (p:Int) (w:af) (a1:uq s) (aF:vx s d p ab ai n) (fr:d≠0) (aL:d<10000000000000000000) (eU:-345≤p) (fE:p≤310) (v1 v2:Nat) (aH aT:aw)
 (aO:w9 d p 0 v1 aH) (c8:w9 (d+1:Nat) p 0 v2 aT) (b6:(FloatKind.f64.format.order v1 v2==U .eq)=ab) (aB:s.size=n) (b5:s.size≤100000) (cP:MV s) (he:Env w) :
 aq ak 250 #[.string s] w fun e w'=>(∃r,(y5 r∧e=.returned (.tuple #[.float .f64 r,.int .i64 n,.nilIface]))∨True∧e=.returned (.tuple #[.float .f64 r,.int .i64 n,.iface 188 (.int .i64 1)]))∧ah w.heap.size w w':=by
 have aa:=he.opt;have ae:=y1;have cd:((d:Int)==0)=ab:=by rw[cH];omega
 have Bm:=I aO;have Bn:=I c8;have dd:=I he;have gv:d+1<18446744073709551616:=by omega
 clear aO c8 he;have DW:=I cP;have asr:s.extract 0 n=s:=by rw[←aB];simp
 have mG:n≤s.size:=by omega
 clear cP;go_enter zB,zx;go_wp2_with fail;refine (a1 _).mono ?_;rintro e w' ⟨rfl,rfl⟩;go_wp2_with fail;refine (aF _).mono ?_;rintro e w' ⟨rfl,rfl⟩;go_wp2_with fail;refine (vQ _ _).mono ?_;rintro e w' ⟨rfl,rfl⟩;go_wp2_with fail;refine (Bm.out _ dd.out).mono ?_;rintro e aP ⟨rfl,bg⟩;have bL:=I bg;have mc:=I (dd.out.below bg);clear bg;go_wp2_with fail;refine (Bn.out _ mc.out).mono ?_;rintro e cc ⟨rfl,cK⟩;have bu:=I (bL.out.trans (cK.mono bL.out.size));have Ip:=I (mc.out.below cK);clear cK;go_upto_region 28 with (fail)
 go_upto_region 29 with (fail)
 have o0:cc.heap.size<(cc.alloc (.cells zeroCells218 218)).heap.size:=by simp
 have dM:=I (fX cc (.cells zeroCells218 218));have Bo:=I ((aK cc.heap.size cc).alloc (aC _) (.cells zeroCells218 218));generalize cc.alloc (.cells zeroCells218 218)=aQ at o0 dM Bo ⊢;have U6:=I (DW.out aQ cc.heap.size (Ip.out.aew.below Bo.out) dM.out);go_wp2_with fail;refine U6.out.mono ?_;rintro e cf ⟨rfl,bf,A3⟩;have Hs:=I A3;have dc:=I (Bo.out.trans bf);clear bf A3;go_wp2_with fail;refine Hs.out.mono ?_;rintro e cw ⟨b,a7,rfl,U7,ht,cL⟩;have og:=I ht;have gA:=I (bu.out.trans ((dc.out.trans cL).mono bu.out.size));clear cL ht;cases a7
 ·go_wp2;go_ret3;exact⟨⟨b,.inl ⟨⟨U7,og.out (by trivial)⟩,rfl⟩⟩,gA.out⟩
 ·go_wp2;go_ret3;exact⟨⟨b,.inr ⟨trivial,rfl⟩⟩,gA.out⟩
theorem ass (s:ByteArray) (n d:Nat) (p:Int) (w:af) (a1:uq s) (aF:vx s d p ai ai n) (fr:d≠0) (aL:d<10000000000000000000) (eU:-345≤p) (fE:p≤310) (v1 v2:Nat) (aH aT:aw)
 (aO:w9 d p 9223372036854775808 v1 aH) (c8:w9 (d+1:Nat) p 9223372036854775808 v2 aT) (b6:(FloatKind.f64.format.order v1 v2==U .eq)=ab) (aB:s.size=n) (b5:s.size≤100000) (cP:MV s) (he:Env w) :
 aq ak 250 #[.string s] w fun e w'=>(∃r,(y5 r∧e=.returned (.tuple #[.float .f64 r,.int .i64 n,.nilIface]))∨True∧e=.returned (.tuple #[.float .f64 r,.int .i64 n,.iface 188 (.int .i64 1)]))∧ah w.heap.size w w':=by
 have aa:=he.opt;have ae:=y1;have cd:((d:Int)==0)=ab:=by rw[cH];omega
 have Bm:=I aO;have Bn:=I c8;have dd:=I he;have gv:d+1<18446744073709551616:=by omega
 clear aO c8 he;have DW:=I cP;have asr:s.extract 0 n=s:=by rw[←aB];simp
 have mG:n≤s.size:=by omega
 clear cP;go_enter zB,zx;go_wp2_with fail;refine (a1 _).mono ?_;rintro e w' ⟨rfl,rfl⟩;go_wp2_with fail;refine (aF _).mono ?_;rintro e w' ⟨rfl,rfl⟩;go_wp2_with fail;refine (vQ _ _).mono ?_;rintro e w' ⟨rfl,rfl⟩;go_wp2_with fail;refine (Bm.out _ dd.out).mono ?_;rintro e aP ⟨rfl,bg⟩;have bL:=I bg;have mc:=I (dd.out.below bg);clear bg;go_wp2_with fail;refine (Bn.out _ mc.out).mono ?_;rintro e cc ⟨rfl,cK⟩;have bu:=I (bL.out.trans (cK.mono bL.out.size));have Ip:=I (mc.out.below cK);clear cK;go_upto_region 28 with (fail)
 go_upto_region 29 with (fail)
 have o0:cc.heap.size<(cc.alloc (.cells zeroCells218 218)).heap.size:=by simp
 have dM:=I (fX cc (.cells zeroCells218 218));have Bo:=I ((aK cc.heap.size cc).alloc (aC _) (.cells zeroCells218 218));generalize cc.alloc (.cells zeroCells218 218)=aQ at o0 dM Bo ⊢;have U6:=I (DW.out aQ cc.heap.size (Ip.out.aew.below Bo.out) dM.out);go_wp2_with fail;refine U6.out.mono ?_;rintro e cf ⟨rfl,bf,A3⟩;have Hs:=I A3;have dc:=I (Bo.out.trans bf);clear bf A3;go_wp2_with fail;refine Hs.out.mono ?_;rintro e cw ⟨b,a7,rfl,U7,ht,cL⟩;have og:=I ht;have gA:=I (bu.out.trans ((dc.out.trans cL).mono bu.out.size));clear cL ht;cases a7
 ·go_wp2;go_ret3;exact⟨⟨b,.inl ⟨⟨U7,og.out (by trivial)⟩,rfl⟩⟩,gA.out⟩
 ·go_wp2;go_ret3;exact⟨⟨b,.inr ⟨trivial,rfl⟩⟩,gA.out⟩
theorem ast (s:ByteArray) (n d:Nat) (p:Int) (neg:Bool) (w:af) (a1:uq s) (aF:vx s d p neg ai n) (aB:s.size=n) (b5:s.size≤100000) (fr:d≠0) (aL:d<10000000000000000000) (eU:-345≤p) (fE:p≤310) (cP:MV s) (he:Env w) :
 q4 y5 True s n w:=by
 obtain⟨v1,aH,aO,_,aD⟩:=aex d p neg fr (by omega) eU fE;obtain⟨v2,aT,c8,_,_⟩:=aex (d+1) p neg (by omega) (by omega) eU fE;unfold q4;cases b6:(FloatKind.f64.format.order v1 v2==U .eq)
 ·cases neg
  ·exact asq s n d p w a1 aF fr aL eU fE v1 v2 aH aT aO c8 b6 aB b5 cP he
  ·exact ass s n d p w a1 aF fr aL eU fE v1 v2 aH aT aO c8 b6 aB b5 cP he
 ·have key:aq ak 250 #[.string s] w fun e w'=>e=.returned (.tuple #[.float .f64 v1,.int .i64 n,aH])∧ah w.heap.size w w':=by
   cases neg
   ·exact aso s n d p w a1 aF fr aL eU fE v1 v2 aH aT aO c8 b6 he
   ·exact asp s n d p w a1 aF fr aL eU fE v1 v2 aH aT aO c8 b6 he
  refine key.mono ?_;rintro e w' ⟨rfl,az⟩;rcases aD with ⟨rfl,aD⟩ | rfl
  ·exact⟨⟨v1,.inl ⟨aD,rfl⟩⟩,az⟩
  ·exact⟨⟨v1,.inr ⟨trivial,rfl⟩⟩,az⟩
theorem q4.mono {R aey:Nat→Prop} {E aez:Prop} {s:ByteArray} {n:Nat} {w:af} (h:q4 R E s n w) (bS:∀r,R r→aey r) (ef:E→aez):q4 aey aez s n w:=by
 refine Calls.mono h ?_;rintro e w' ⟨⟨r,⟨aa,ae⟩ | ⟨aa,ae⟩⟩,az⟩
 ·exact⟨⟨r,.inl ⟨bS r aa,ae⟩⟩,az⟩
 ·exact⟨⟨r,.inr ⟨ef aa,ae⟩⟩,az⟩
theorem asu (s:ByteArray) (w:af) (h:400<s.size) (ae:s.size≤140737488355328):aq ak 160 #[.string s] w fun e w'=>e=.returned (.bool ab)∧w=w':=by
 have aa:(400:Int)<(s.size:Int):=by omega
 go_enter Pr,OX;go_wp2;go_ret;exact⟨rfl,rfl⟩
theorem tail_at (p:List UInt8) (B:List UInt8) (t:ee) (he:∀s D,t.ex=U (s,D)→D≠[]∧∀c ∈ D,o.digit c):Ix (ax (p++(B++t.tail))) (p.length+B.length) t.ex:=by
 obtain⟨neg,X,Y,ex⟩:=t;simp only at he;rcases ex with _ | ⟨_ | _,D⟩
 ·show (ax (p++(B++[]))).size=_;rw[fN];simp
 ·obtain⟨ar,aa⟩:=he ab D rfl;change Ix (ax (p++(B++101::D))) _ (U (ab,D));refine⟨by rw[fN];simp;omega,?_,?_,List.length_pos_iff.2 ar,aa⟩
  ·have:=nU (p++B) [101] D;simpa using this
  ·have:=nU (p++B++[101]) D [];simpa[nW] using this
 ·obtain⟨ar,aa⟩:=he ai D rfl;change Ix (ax (p++(B++101::45::D))) _ (U (ai,D));refine⟨by rw[fN];simp;omega,?_,?_,List.length_pos_iff.2 ar,aa⟩
  ·have:=nU (p++B) [101,45] D;simpa using this
  ·have:=nU (p++B++[101,45]) D [];simpa[nW] using this
theorem att (t:ee):Vg t.ex=t.exp:=by obtain⟨_,_,_,_ | ⟨_ | _,D⟩⟩:=t<;>rfl
theorem atu (t:ee) (h:t.pM) (hm:(o.run t.body).m≠0):MV (ax t.text):=by
 intro w P bn aX;have dy:=adC h.yX h.Ia;have aJ:3≤(t.X++46::t.Y).length:=by
  have aa:=List.length_pos_iff.2 h.gK;have ae:=List.length_pos_iff.2 h.l9;simp;omega
 have fr:=adD (Y:=t.Y) h.yX h.gK;obtain⟨f1,f2⟩:=adB t.X t.Y h.yX h.gK h.Ia;have ao:=h.len;have e4:=o.Cy t.body dy.1;have k1:t.body.length≤400:=by
  unfold ee.text at ao;rw[ey,ey] at ao;omega
 have nY:-100000≤t.exp∧t.exp≤100000:=by
  unfold ee.exp;rcases hx:t.ex with _ | ⟨_ | _,D⟩
  ·simp only;omega
  ·have:=o.Cz D (h.nm _ _ hx).2;simp only;omega
  ·have:=o.Cz D (h.nm _ _ hx).2;simp only;omega
 have key:∀i0:Nat,((t.neg=ab∧i0=0)∨(t.neg=ai∧i0=1∧h9 (ax t.text) 0 [45]))→h9 (ax t.text) i0 t.body→Ix (ax t.text) (i0+t.body.length) t.ex→
  aq ak 284 #[.pointer (U ⟨P,0,J⟩),.string (ax t.text)] w fun e cq=>e=.returned (.bool ai)∧ah P w cq∧
   aq ak 285 #[.pointer (U ⟨P,0,J⟩),.pointer (U ⟨10,0,J⟩)] cq fun e aP=>∃(b:Nat) (a7:Bool),e=.returned (.tuple #[.int .u64 b,.bool a7])∧b<18446744073709551616∧(a7=ab→b%9223372036854775808<9218868437227405312)∧ah P cq aP:=by
  intro i0 aa ae bQ;refine (asR (ax t.text) i0 P t.body t.ex t.neg w dy aJ (by rw[fN];exact ao) ae f2 f1 aa (fr (by omega)) bQ (asO aX)).mono ?_;rintro e cq ⟨rfl,⟨D,hh,a1⟩,ad⟩;refine⟨rfl,ad,?_⟩;have adW:D.nd≠0:=fun e=>hm (o.asN t.body dy.1 (by rw[←a1.nd];exact e));have kS:=a1.a8;rw[att] at kS;have aG:=e4.nd;have bj:=e4.lo;have bq:=e4.up;have azI:=a1.nd;exact as9 P _ D cq (a1.T'.is (by omega) (by omega)) (by omega) (by omega) (bn.below ad) hh
 cases aB:t.neg
 ·have e:t.text=[]++(t.body++t.tail):=by unfold ee.text;rw[aB];rfl
  refine key 0 (.inl ⟨aB,rfl⟩) ?_ ?_
  ·rw[e];exact nU [] t.body t.tail
  ·rw[e];exact tail_at [] t.body t h.nm
 ·have e:t.text=[45]++(t.body++t.tail):=by unfold ee.text;rw[aB];rfl
  refine key 1 (.inr ⟨aB,rfl,?_⟩) ?_ ?_
  ·rw[e];exact nU [] [45] _
  ·rw[e];exact nU [45] t.body t.tail
  ·rw[e];exact tail_at [45] t.body t h.nm
end Go.Proofs.YtkhphoonnkoipaaGreatDoor
