/- Lemmas. -/
import Derived.Test.YtkhphoonnkoipaaGreatDoorVabg
import Derived.Test.YtkhphoonnkoipaaGreatDoorVabd
set_option linter.all false
set_option maxHeartbeats 8000000
set_option maxRecDepth 100000
open Go.Proofs.Tryz Go.RowKit Go.Lib
open Option renaming none→J,some→U
open Bool renaming true→ai,false→ab
open Decidable renaming decide→au
open Go renaming World→af,Value→aw,Calls→aq,results→bK
open Go.RowKit renaming Below→ah,Hid→aj
open Go.Proofs.Tryz renaming prog→ak
namespace Go.Proofs.YtkhphoonnkoipaaGreatDoor
theorem an3 (R:Int) (f:Bool) (s:ByteArray) (ck:Int) (h:e7 R=.tuple #[.agg #[.bool f,.string s],.int .i64 ck]) (W:af) :
 aq ak 18 #[.agg #[.bool f,.string s],.int .i64 ck] W fun e w'=>∃k n Gh is,(is=ai→∃R,qG R k n Gh∧o.bO R)∧ek W (bw k n 0 (ax Gh) (.slice J 0 0)) is e w':=by
 by_cases bS:o.bO R
 ·rw[LK bS] at h;have aa:bz R=.agg #[.bool f,.string s]∧ck=0:=by
   injection h with h;have a:=eS (fun z=>z[0]?) h;have b:=eS (fun z=>z[1]?) h;simp at a b;exact⟨a,b.symm⟩
  obtain⟨ae,rfl⟩:=aa;rw[←ae];exact (GF R W bS).mono fun e w' ⟨k,n,Gh,aJ,bQ⟩=>⟨k,n,Gh,ai,fun _=>⟨R,aJ,bS⟩,bQ⟩
 ·unfold e7 at h;rw[aU bS] at h;have aa:ck=92:=by
   injection h with h;have b:=eS (fun z=>z[1]?) h;simp at b;exact b.symm
  subst aa;exact (K4 f s 92 W (by decide)).mono fun e w' h=>⟨0,0,[],ab,fun h=>(by cases h),h⟩
theorem an4 (x y:bB) (v:aw) (w:af) (h:e2 w v [x,y]) (T2:-32768≤y.n) (zY:y.n≤32768)
 (bZ:∀W,aq ak 41 #[.agg #[.bool x.g,.string x.s],.int .i64 y.n] W fun e w'=>∃R,hX W R e w') :
 aq ak 40 #[v] w fun e w'=>∃k n s is,(is=ai→∃R,qG R k n s∧o.bO R)∧ek w (bw k n 0 (ax s) (.slice J 0 0)) is e w':=by
 have an5:=I an3;have kn:=I bZ;clear bZ;unfold ek bw hX at *;obtain⟨ag,a6⟩:∃ag,w.alloc (.cells #[.int .u8 0,.int .i64 0,.int .u64 0,.string ⟨#[]⟩,.slice J 0 0] 28)=ag:=⟨_,rfl⟩;have aO:aj (bk ag w.heap.size (.int .u8 0) (.int .i64 0) (.int .u64 0) (.string ⟨#[]⟩) (.slice J 0 0)):=I (by rw[←a6];exact bk.new _ _ _ _ _ _);have ay:aj (ah w.heap.size w ag):=I (by rw[←a6];exact (aK _ _).alloc (aC _) _);have dH:w.heap.size+1≤ag.heap.size:=by rw[←a6];simp
 obtain⟨al,gL,rfl,br,bT⟩:=h;have ov:ag.cell? ⟨al,5,J⟩=U (.bool x.g):=by rw[ay.out.cell (p:=⟨al,5,J⟩) br];exact bT 0 x rfl 5 _ rfl
 have ow:ag.cell? ⟨al,6,J⟩=U (.string x.s):=by rw[ay.out.cell (p:=⟨al,6,J⟩) br];exact bT 0 x rfl 6 _ rfl
 have acA:ag.cell? ⟨al,8,J⟩=U (.int .i64 y.n):=by rw[ay.out.cell (p:=⟨al,8,J⟩) br];exact bT 1 y rfl 1 _ rfl
 simp only[ch,du] at *;clear bT;have ayC:au (y.n < -32768)=ab:=bx (by omega);have ayD:au (32768<y.n)=ab:=bx (by omega);have aN:aj (∀W,ah ag.heap.size ag W→W.cell? ⟨al,5,J⟩=U (.bool x.g)∧W.cell? ⟨al,6,J⟩=U (.string x.s)∧W.cell? ⟨al,8,J⟩=U (.int .i64 y.n)):=I (fun W ad=>⟨by rw[ad.cell (p:=⟨al,5,J⟩) (by show al<_;omega)];exact ov,by rw[ad.cell (p:=⟨al,6,J⟩) (by show al<_;omega)];exact ow,by rw[ad.cell (p:=⟨al,8,J⟩) (by show al<_;omega)];exact acA⟩);have dh:∀(W:af) (q i:Nat) (u a b c d e:aw),q<w.heap.size→W.cell? ⟨q,i,J⟩=U u→(cC W w.heap.size a b c d e).cell? ⟨q,i,J⟩=U u:=fun W q i u a b c d e aE hu=>by
  unfold cC;rw[b7 _ _ _ _ (by intro z;injection z with z;omega),b7 _ _ _ _ (by intro z;injection z with z;omega),b7 _ _ _ _ (by intro z;injection z with z;omega),b7 _ _ _ _ (by intro z;injection z with z;omega),b7 _ _ _ _ (by intro z;injection z with z;omega)];exact hu
 have e3:aj (∀W,ah ag.heap.size ag W→∀a b c d e,(cC W w.heap.size a b c d e).cell? ⟨al,5,J⟩=U (.bool x.g)∧(cC W w.heap.size a b c d e).cell? ⟨al,6,J⟩=U (.string x.s)∧(cC W w.heap.size a b c d e).cell? ⟨al,8,J⟩=U (.int .i64 y.n)):=I (fun W ad a b c d e=>⟨dh W al 5 _ a b c d e br (aN.out W ad).1,dh W al 6 _ a b c d e br (aN.out W ad).2.1,dh W al 8 _ a b c d e br (aN.out W ad).2.2⟩);have cU:=I (show ah ag.heap.size ag ag.drew from (aK _ ag).drew);clear dh;unfold cC at e3;obtain⟨c0,c1,c2,c3,c4,f0,f1,f2,f3,f4⟩:=aO.out.cells;go_enter JG,PB;go_wp2;go_region_held3 (fun W=>W.cell? ⟨al,5,J⟩=U (.bool x.g)∧W.cell? ⟨al,6,J⟩=U (.string x.s)∧W.cell? ⟨al,8,J⟩=U (.int .i64 y.n)) (first | with_reducible exact⟨ov,ow,acA⟩ | with_reducible exact aN.out _ cU.out | with_reducible exact aN.out _ bb | with_reducible exact aN.out _ ft | with_reducible exact e3.out _ ft _ _ _ _ _) (first
  | (go_at_call 18;(with_reducible refine (an5.out _ _ _ _ gC _).mono ?_);rintro e cf ⟨nh,mC,rt,acB,ko,rfl,bf⟩;have jX:=I ko;obtain⟨kJ,kK⟩:∃kJ,ax rt=kJ:=⟨_,rfl⟩;have wK:=I kK;rw[kK];clear ko kK;have ft:ah ag.heap.size ag cf:=bb.trans (bf.mono bb.size);have fH:=I (aO.out.below ft);obtain⟨d0,d1,d2,d3,d4,ck,aH,aT,b8,eb⟩:=fH.out.cells)
  | (go_at_call 41;(with_reducible refine (kn.out _).mono ?_);rintro e aQ ⟨R,aE,e0⟩;(obtain⟨hY,hZ,gr,gC⟩:=acw R);rw[gC] at aE;subst aE;have bb:ah ag.heap.size ag aQ:=cU.out.trans e0;clear e0))
 all_goals
  have dc:=I (ay.out.trans (ft.mono (by omega)));obtain⟨aM,aG,bj,bq,bA,_,_,_,_,_⟩:=(fH.out.set (.int .u8 nh) (.int .i64 mC) (.int .u64 0) (.string kJ) (.slice J 0 0)).cells;go_wp2;exact bI (v:=.tuple #[.agg #[.int .u8 nh,.int .i64 mC,.int .u64 0,.string kJ,.slice J 0 0],.bool acB]) (by simp[bK,OH,go_sem,aM,aG,bj,bq,bA]) rfl ⟨nh,mC,rt,acB,jX.out,by rw[wK.out];exact⟨rfl,dG dc.out (aC _) _ _ _ _ _⟩⟩
theorem an6 (x y:bB) (v:aw) (w:af) (h:e2 w v [x,y]) (aW:y.n < -32768∨32768<y.n) :
 aq ak 40 #[v] w (ek w iA ab):=by
 obtain⟨ag,a6⟩:∃ag,w.alloc (.cells #[.int .u8 0,.int .i64 0,.int .u64 0,.string ⟨#[]⟩,.slice J 0 0] 28)=ag:=⟨_,rfl⟩;have aO:aj (bk ag w.heap.size (.int .u8 0) (.int .i64 0) (.int .u64 0) (.string ⟨#[]⟩) (.slice J 0 0)):=I (by rw[←a6];exact bk.new _ _ _ _ _ _);have ay:aj (ah w.heap.size w ag):=I (by rw[←a6];exact (aK _ _).alloc (aC _) _);obtain⟨al,gL,rfl,br,bT⟩:=h;have an:∀(i:Nat) (q:bB),[x,y][i]? = U q→∀(j:Nat) (u:aw),q.cells[j]? = U u→ag.cell? ⟨al,i*7+j,J⟩=U u:=fun i q aE j u hu=>by rw[ay.out.cell (p:=⟨al,i*7+j,J⟩) br];exact bT i q aE j u hu
 have aY:=cv br ay.out.size;obtain⟨c0,c1,c2,c3,c4,f0,f1,f2,f3,f4⟩:=aO.out.cells;have km:ag.cell? ⟨al,8,J⟩=_:=an 1 _ rfl 1 _ rfl;clear an bT;simp only[ch,du] at *;unfold ek iA bw;by_cases aa:y.n < -32768
 ·have d1:au (y.n < -32768)=ai:=bE aa;clear aW aa;go_enter JG,PB;go_wp2_with fail;obtain⟨aM,aG,bj,bq,bA,_,_,_,_,_⟩:=(aO.out.set (.int .u8 0) (.int .i64 0) (.int .u64 0) (.string ⟨#[]⟩) (.slice J 0 0)).cells;exact bI (v:=.tuple #[.agg #[.int .u8 0,.int .i64 0,.int .u64 0,.string ⟨#[]⟩,.slice J 0 0],.bool ab]) (by simp[bK,OH,go_sem,aM,aG,bj,bq,bA]) rfl ⟨rfl,dG ay.out (aC _) _ _ _ _ _⟩
 ·have d1:au (y.n < -32768)=ab:=bx aa;have d2:au (32768<y.n)=ai:=bE (by omega);clear aW aa;go_enter JG,PB;go_wp2_with fail;obtain⟨aM,aG,bj,bq,bA,_,_,_,_,_⟩:=(aO.out.set (.int .u8 0) (.int .i64 0) (.int .u64 0) (.string ⟨#[]⟩) (.slice J 0 0)).cells;exact bI (v:=.tuple #[.agg #[.int .u8 0,.int .i64 0,.int .u64 0,.string ⟨#[]⟩,.slice J 0 0],.bool ab]) (by simp[bK,OH,go_sem,aM,aG,bj,bq,bA]) rfl ⟨rfl,dG ay.out (aC _) _ _ _ _ _⟩
theorem an7 (x y:bB) (v:aw) (w:af) (h:e2 w v [x,y]) (aW:y.n<2∨36<y.n) :
 aq ak 42 #[v] w (ek w iA ab):=by
 obtain⟨ag,a6⟩:∃ag,w.alloc (.cells #[.int .u8 0,.int .i64 0,.int .u64 0,.string ⟨#[]⟩,.slice J 0 0] 28)=ag:=⟨_,rfl⟩;have aO:aj (bk ag w.heap.size (.int .u8 0) (.int .i64 0) (.int .u64 0) (.string ⟨#[]⟩) (.slice J 0 0)):=I (by rw[←a6];exact bk.new _ _ _ _ _ _);have ay:aj (ah w.heap.size w ag):=I (by rw[←a6];exact (aK _ _).alloc (aC _) _);obtain⟨al,gL,rfl,br,bT⟩:=h;have an:∀(i:Nat) (q:bB),[x,y][i]? = U q→∀(j:Nat) (u:aw),q.cells[j]? = U u→ag.cell? ⟨al,i*7+j,J⟩=U u:=fun i q aE j u hu=>by rw[ay.out.cell (p:=⟨al,i*7+j,J⟩) br];exact bT i q aE j u hu
 have aY:=cv br ay.out.size;obtain⟨c0,c1,c2,c3,c4,f0,f1,f2,f3,f4⟩:=aO.out.cells;have km:ag.cell? ⟨al,8,J⟩=_:=an 1 _ rfl 1 _ rfl;clear an bT;simp only[ch,du] at *;unfold ek iA bw;by_cases aa:y.n<2
 ·have d1:au (y.n<2)=ai:=bE aa;clear aW aa;go_enter JH,PC;go_wp2_with fail;obtain⟨aM,aG,bj,bq,bA,_,_,_,_,_⟩:=(aO.out.set (.int .u8 0) (.int .i64 0) (.int .u64 0) (.string ⟨#[]⟩) (.slice J 0 0)).cells;exact bI (v:=.tuple #[.agg #[.int .u8 0,.int .i64 0,.int .u64 0,.string ⟨#[]⟩,.slice J 0 0],.bool ab]) (by simp[bK,OI,go_sem,aM,aG,bj,bq,bA]) rfl ⟨rfl,dG ay.out (aC _) _ _ _ _ _⟩
 ·have d1:au (y.n<2)=ab:=bx aa;have d2:au (36<y.n)=ai:=bE (by omega);clear aW aa;go_enter JH,PC;go_wp2_with fail;obtain⟨aM,aG,bj,bq,bA,_,_,_,_,_⟩:=(aO.out.set (.int .u8 0) (.int .i64 0) (.int .u64 0) (.string ⟨#[]⟩) (.slice J 0 0)).cells;exact bI (v:=.tuple #[.agg #[.int .u8 0,.int .i64 0,.int .u64 0,.string ⟨#[]⟩,.slice J 0 0],.bool ab]) (by simp[bK,OI,go_sem,aM,aG,bj,bq,bA]) rfl ⟨rfl,dG ay.out (aC _) _ _ _ _ _⟩
theorem nO.alloc {w:af} {v:aw} {l:List fo} (h:nO w v l) (a7:Obj):nO (w.alloc a7) v l:=by
 obtain⟨g,cap,aa,ae,aJ⟩:=h;have ad:ah w.heap.size w (w.alloc a7):=(aK _ _).alloc (aC _) _;exact⟨g,cap,aa,cv ae ad.size,fun i x hx j u hu=>by rw[ad.cell (p:=⟨g,i*5+j,J⟩) ae];exact aJ i x hx j u hu⟩
theorem avO (W:af) (a7:Obj) (l:List fo) (cs:Array aw) (T:TypeId) (h:cs.toList=l.flatMap fo.cells) (m:Nat) (hm:m=l.length):nO ((W.alloc a7).alloc (.cells cs T)) (.slice (U ⟨W.heap.size+1,0,J⟩) m m) l:=by
 have:=Di (W.alloc a7) l cs T h m hm;rwa[show (W.alloc a7).heap.size=W.heap.size+1 by simp] at this
theorem bk.avP (w:af) (a7:Obj) (a b c d e:aw):bk ((w.alloc a7).alloc (.cells #[a,b,c,d,e] 28)) (w.heap.size+1) a b c d e:=by
 have:=bk.new (w.alloc a7) a b c d e;rwa[show (w.alloc a7).heap.size=w.heap.size+1 by simp] at this
def za:List UInt8:=[49,49,53,50,57,50,49,53,48,52,54,48,54,56,52,54,57,55,54]
theorem o.afp:o.fl 10 za (1152921504606846975+1):=by
 unfold o.fl;rw[aU (by omega)];exact⟨by decide,by decide,by decide,by decide⟩
theorem avQ {k n b:Int} {t:ByteArray} {is:Bool} (h:ve (1152921504606846975+1) k n b t is):k=5∧n=0∧b=0∧t=⟨#[49,49,53,50,57,50,49,53,48,52,54,48,54,56,52,54,57,55,54]⟩∧is=ai:=by
 obtain⟨s,h,rfl,rfl,rfl⟩:=h;rcases h with ⟨h,_⟩ | ⟨_,rfl,rfl,h,_⟩
 ·unfold cJ at h;omega
 ·exact⟨rfl,rfl,rfl,by rw[o.ajc (by omega) (by omega) h o.afp];rfl,rfl⟩
theorem avR {k n b:Int} {t:ByteArray} {is:Bool} (h:ve (1152921504606846975+1-1) k n b t is):k=4∧n=1152921504606846975∧b=0∧t=⟨#[]⟩∧is=ai:=by
 obtain⟨s,h,rfl,rfl,rfl⟩:=h;rcases h with ⟨_,rfl,rfl,rfl⟩ | ⟨h,_⟩
 ·exact⟨rfl,by omega,rfl,rfl,rfl⟩
 ·exact absurd (show cJ _ by unfold cJ;omega) h
theorem avS:wT (vf za) (Dj za (1152921504606846975+1)) (1152921504606846975+1):=al3 (by decide) (tZ (by omega) (by omega)) o.afp (by unfold cJ;omega)
theorem avT (w:af):aq ak 4 #[] w fun e w'=>e=.returned (.bool ai)∧ah w.heap.size w w':=by
 have cR:=I (fun n W=>alI n W);have de:=I (aK w.heap.size w);go_enter func4,ntmps4;go_wp2_with (go_at_call 10;refine (cR.out _ _).mono ?_);rintro e cq ⟨rfl,ad⟩;replace de:=I (de.out.trans (ad.mono de.out.size));clear ad;unfold bw;go_wp2_with (go_at_call 10;refine (cR.out _ _).mono ?_);rintro e aP ⟨rfl,ad⟩;replace de:=I (de.out.trans (ad.mono de.out.size));clear ad;unfold bw;go_wp2_with fail;refine (al4 (l' 1152921504606846975) (l' 1) (oz 1152921504606846975) (oz 1) 1152921504606846975 1 _ _ (G7 (by unfold cJ;omega)) (G7 (by unfold cJ;omega)) (tZ (by omega) (by omega)) (Di _ _ _ _ rfl _ rfl)).mono ?_;rintro e cc ⟨bq,n3,fw,t3,D5,hI,rfl,ad⟩;obtain⟨rfl,rfl,rfl,rfl,rfl⟩:=avQ hI;clear hI;replace de:=I ((de.out.alloc de.out.size _).trans (ad.mono (by have:=de.out.size;simp;omega)));clear ad;unfold bw;go_wp2_with (go_at_call 10;refine (cR.out _ _).mono ?_);obtain⟨v3,aD⟩:∃W,cc.alloc (.cells #[.int .u8 5,.int .i64 0,.int .u64 0,.string ⟨#[49,49,53,50,57,50,49,53,48,52,54,48,54,56,52,54,57,55,54]⟩,.slice J 0 0] 28)=W:=⟨_,rfl⟩;have mV:aj (ah w.heap.size w v3):=I (by rw[←aD];exact de.out.alloc de.out.size _);have eQ:aj (bk v3 cc.heap.size (.int .u8 5) (.int .i64 0) (.int .u64 0) (.string ⟨#[49,49,53,50,57,50,49,53,48,52,54,48,54,56,52,54,57,55,54]⟩) (.slice J 0 0)):=I (by rw[←aD];exact bk.new _ _ _ _ _ _);rw[aD];clear aD de;have de:=mV;clear mV;rintro e aQ ⟨rfl,ad⟩;replace eQ:=I (eQ.out.below ad);replace de:=I (de.out.trans (ad.mono de.out.size));clear ad;unfold bw;go_wp2_with (go_at_call 10;refine (cR.out _ _).mono ?_);rintro e cf ⟨rfl,ad⟩;replace eQ:=I (eQ.out.below ad);replace de:=I (de.out.trans (ad.mono de.out.size));clear ad;unfold bw;go_wp2_with fail;refine (al6 _ _ (Di _ _ _ _ rfl _ rfl)).mono ?_;rintro e cw ⟨bq,n3,fw,t3,D5,⟨rfl,rfl,rfl,rfl,rfl⟩,rfl,ad⟩;replace eQ:=I ((eQ.out.alloc _).below ad);replace de:=I ((de.out.alloc de.out.size _).trans (ad.mono (by have:=de.out.size;simp;omega)));clear ad;unfold bw;go_wp2_with (go_at_call 11;refine (alJ _ _).mono ?_);obtain⟨v6,aD⟩:∃W,cw.alloc (.cells #[.int .u8 0,.int .i64 0,.int .u64 0,.string ⟨#[]⟩,.slice J 0 0] 28)=W:=⟨_,rfl⟩;have mV:aj (ah w.heap.size w v6):=I (by rw[←aD];exact de.out.alloc de.out.size _);have zb:aj (bk v6 cc.heap.size (.int .u8 5) (.int .i64 0) (.int .u64 0) (.string ⟨#[49,49,53,50,57,50,49,53,48,52,54,48,54,56,52,54,57,55,54]⟩) (.slice J 0 0)):=I (by rw[←aD];exact eQ.out.alloc _);rw[aD];clear aD de eQ;have de:=mV;have eQ:=zb;clear mV zb;rintro e fb ⟨rfl,ad⟩;replace eQ:=I (eQ.out.below ad);replace de:=I (de.out.trans (ad.mono de.out.size));clear ad;unfold bw;go_wp2_with (go_at_call 10;refine (cR.out _ _).mono ?_);rintro e hM ⟨rfl,ad⟩;replace eQ:=I (eQ.out.below ad);replace de:=I (de.out.trans (ad.mono de.out.size));clear ad;unfold bw;go_wp2_with (go_at_call 10;refine (cR.out _ _).mono ?_);rintro e yr ⟨rfl,ad⟩;replace eQ:=I (eQ.out.below ad);replace de:=I (de.out.trans (ad.mono de.out.size));clear ad;unfold bw;go_wp2_with fail;refine (alT ⟨#[97,98,99]⟩ 2 3 1 3 _ _ (by decide) (by omega) (by omega) (by omega) (by decide) (Di _ _ _ _ rfl _ rfl)).mono ?_;rintro e qJ ⟨bq,n3,fw,t3,D5,⟨rfl,rfl,rfl,rfl,rfl⟩,rfl,ad⟩;rw[show (⟨#[97,98,99]⟩:ByteArray).extract 1 3=⟨#[98,99]⟩ from by decide];replace eQ:=I ((eQ.out.alloc _).below ad);replace de:=I ((de.out.alloc de.out.size _).trans (ad.mono (by have:=de.out.size;simp;omega)));clear ad;unfold bw;go_upto_region 4 with fail
 obtain⟨v10,aD⟩:∃W,qJ.alloc (.cells #[.int .u8 8,.int .i64 0,.int .u64 0,.string ⟨#[98,99]⟩,.slice J 0 0] 28)=W:=⟨_,rfl⟩;have mV:aj (ah w.heap.size w v10):=I (by rw[←aD];exact de.out.alloc de.out.size _);have zb:aj (bk v10 cc.heap.size (.int .u8 5) (.int .i64 0) (.int .u64 0) (.string ⟨#[49,49,53,50,57,50,49,53,48,52,54,48,54,56,52,54,57,55,54]⟩) (.slice J 0 0)):=I (by rw[←aD];exact eQ.out.alloc _);have ay:aj (bk v10 qJ.heap.size (.int .u8 8) (.int .i64 0) (.int .u64 0) (.string ⟨#[98,99]⟩) (.slice J 0 0)):=I (by rw[←aD];exact bk.new _ _ _ _ _ _);rw[aD];clear aD de eQ;have de:=mV;have eQ:=zb;clear mV zb;obtain⟨a0,b1,a2,a3,a4,_,_,_,_,_⟩:=eQ.out.cells;have aN:aj (∀W,ah v10.heap.size v10 W→W.cell? ⟨cc.heap.size,0,J⟩=U (.int .u8 5)∧W.cell? ⟨cc.heap.size,1,J⟩=U (.int .i64 0)∧W.cell? ⟨cc.heap.size,2,J⟩=U (.int .u64 0)∧W.cell? ⟨cc.heap.size,3,J⟩=U (.string ⟨#[49,49,53,50,57,50,49,53,48,52,54,48,54,56,52,54,57,55,54]⟩)∧W.cell? ⟨cc.heap.size,4,J⟩=U (.slice J 0 0)):=I (fun W ad=>by obtain⟨a0,b1,a2,a3,a4,_,_,_,_,_⟩:=(eQ.out.below ad).cells;exact⟨a0,b1,a2,a3,a4⟩);have cU:=I (show ah v10.heap.size v10 v10.drew from (aK _ v10).drew);have tY:=I (show ∀a7,ah v10.heap.size v10 (v10.alloc a7).drew from fun a7=>((aK _ v10).alloc (aC _) a7).drew);have hT:aj (∀fu W,nO W fu [vf za,l' 1]→aq ak 6 #[.int .i64 2,fu] W (h0 W (ve (1152921504606846975+1-1)))):=I (fun fu W h=>al5 (vf za) (l' 1) (Dj za (1152921504606846975+1)) (oz 1) (1152921504606846975+1) 1 fu W avS (G7 (by unfold cJ;omega)) (tZ (by omega) (by omega)) h);go_cut [7,8] from 35 to 93 (fun Le Lh hJ=>∃k,Le=.pointer (U ⟨k,0,J⟩)∧Lh=.bool ai∧bk hJ k (.int .u8 4) (.int .i64 1152921504606846975) (.int .u64 0) (.string ⟨#[]⟩) (.slice J 0 0)∧ah v10.heap.size v10 hJ);case first=>
  go_region_held3 (fun W=>W.cell? ⟨cc.heap.size,0,J⟩=U (.int .u8 5)∧W.cell? ⟨cc.heap.size,1,J⟩=U (.int .i64 0)∧W.cell? ⟨cc.heap.size,2,J⟩=U (.int .u64 0)∧W.cell? ⟨cc.heap.size,3,J⟩=U (.string ⟨#[49,49,53,50,57,50,49,53,48,52,54,48,54,56,52,54,57,55,54]⟩)∧W.cell? ⟨cc.heap.size,4,J⟩=U (.slice J 0 0)) (first | with_reducible exact⟨a0,b1,a2,a3,a4⟩ | with_reducible exact aN.out _ cU.out | with_reducible exact aN.out _ (tY.out _) | with_reducible exact aN.out _ bb | with_reducible exact aN.out _ (bb.alloc bb.size _) | with_reducible exact aN.out _ ((bb.alloc bb.size _).alloc (cp bb.size (by simp)) _) | with_reducible exact aN.out _ cL | with_reducible exact aN.out _ (cL.alloc cL.size _) | with_reducible exact aN.out _ (dG cL (by omega) _ _ _ _ _)) (first
   | (go_at_call 10;(with_reducible refine (cR.out _ _).mono ?_);rintro e vm ⟨rfl,e0⟩;(first | (have bb:ah v10.heap.size v10 vm:=cU.out.trans e0) | (have bb:ah v10.heap.size v10 vm:=(tY.out _).trans (e0.mono (by simp));have avU:bk vm v10.heap.size (.int .u8 0) (.int .i64 0) (.int .u64 0) (.string ⟨#[]⟩) (.slice J 0 0):=(bk.new v10 _ _ _ _ _).drew.below e0));have iy:=bb.size;have afq:=Di vm [vf za,l' 1] #[.int .u8 5,.int .i64 0,.int .u64 0,.string ⟨#[49,49,53,50,57,50,49,53,48,52,54,48,54,56,52,54,57,55,54]⟩,.slice J 0 0,.int .u8 4,.int .i64 1,.int .u64 0,.string ⟨#[]⟩,.slice J 0 0] 28 rfl 2 rfl;have avV:=afq.alloc (.cells #[.int .u8 0,.int .i64 0,.int .u64 0,.string ⟨#[]⟩,.slice J 0 0] 28);have avW:=avO vm (.cells #[.int .u8 0,.int .i64 0,.int .u64 0,.string ⟨#[]⟩,.slice J 0 0] 28) [vf za,l' 1] #[.int .u8 5,.int .i64 0,.int .u64 0,.string ⟨#[49,49,53,50,57,50,49,53,48,52,54,48,54,56,52,54,57,55,54]⟩,.slice J 0 0,.int .u8 4,.int .i64 1,.int .u64 0,.string ⟨#[]⟩,.slice J 0 0] 28 rfl 2 rfl;clear e0;unfold bw)
   | (go_at_call 6;(first
     | ((with_reducible refine (hT.out _ _ afq).mono ?_);rintro e xf ⟨bq,n3,fw,t3,D5,hI,rfl,bf⟩;(have cL:ah v10.heap.size v10 xf:=(bb.alloc iy _).trans (bf.mono (by simp;omega)));(first | (have D6:bk xf v10.heap.size (.int .u8 0) (.int .i64 0) (.int .u64 0) (.string ⟨#[]⟩) (.slice J 0 0):=(avU.alloc _).below bf;obtain⟨z0,n5,z2,z3,z4,l9,ou,a',y3,y4⟩:=D6.cells) | skip))
     | ((with_reducible refine (hT.out _ _ avW).mono ?_);rintro e xf ⟨bq,n3,fw,t3,D5,hI,rfl,bf⟩;(have cL:ah v10.heap.size v10 xf:=((bb.alloc iy _).alloc (cp iy (by simp)) _).trans (bf.mono (by simp;omega)));have D6:bk xf vm.heap.size (.int .u8 0) (.int .i64 0) (.int .u64 0) (.string ⟨#[]⟩) (.slice J 0 0):=((bk.new vm _ _ _ _ _).alloc _).below bf;obtain⟨z0,n5,z2,z3,z4,l9,ou,a',y3,y4⟩:=D6.cells)
     | ((with_reducible refine (hT.out _ _ avV).mono ?_);rintro e xf ⟨bq,n3,fw,t3,D5,hI,rfl,bf⟩;(have cL:ah v10.heap.size v10 xf:=((bb.alloc iy _).alloc (cp iy (by simp)) _).trans (bf.mono (by simp;omega)));have D6:bk xf (vm.heap.size+1) (.int .u8 0) (.int .i64 0) (.int .u64 0) (.string ⟨#[]⟩) (.slice J 0 0):=(bk.avP vm (.cells #[.int .u8 5,.int .i64 0,.int .u64 0,.string ⟨#[49,49,53,50,57,50,49,53,48,52,54,48,54,56,52,54,57,55,54]⟩,.slice J 0 0,.int .u8 4,.int .i64 1,.int .u64 0,.string ⟨#[]⟩,.slice J 0 0] 28) (.int .u8 0) (.int .i64 0) (.int .u64 0) (.string ⟨#[]⟩) (.slice J 0 0)).below bf;obtain⟨z0,n5,z2,z3,z4,l9,ou,a',y3,y4⟩:=D6.cells));obtain⟨rfl,rfl,rfl,rfl,rfl⟩:=avR hI;clear hI;unfold bw))
  all_goals
   go_wp2_with fail;go_meet;case rel=>first | exact⟨_,rfl,rfl,D6.set _ _ _ _ _,dG cL (by omega) _ _ _ _ _⟩ | exact⟨_,rfl,rfl,bk.new xf _ _ _ _ _,cL.alloc cL.size _⟩
 case rest=>
  obtain⟨AO,rfl,rfl,hC,ad⟩:=hcut;have bJ:=I hC;replace eQ:=I (eQ.out.below ad);replace ay:=I (ay.out.below ad);replace de:=I (de.out.trans (ad.mono de.out.size));clear ad hC aN cU tY hT a0 b1 a2 a3 a4;go_wp2_with (go_at_call 10;refine (cR.out _ _).mono ?_);rintro e C3 ⟨rfl,ad⟩;replace eQ:=I (eQ.out.below ad);replace ay:=I (ay.out.below ad);replace bJ:=I (bJ.out.below ad);replace de:=I (de.out.trans (ad.mono de.out.size));clear ad;unfold bw;go_wp2_with fail;refine (al8 _ _ (Di _ _ _ _ rfl _ rfl)).mono ?_;rintro e GH ⟨bq,n3,fw,t3,D5,⟨rfl,rfl,rfl,rfl,rfl⟩,rfl,ad⟩;replace eQ:=I ((eQ.out.alloc _).below ad);replace ay:=I ((ay.out.alloc _).below ad);replace bJ:=I ((bJ.out.alloc _).below ad);replace de:=I ((de.out.alloc de.out.size _).trans (ad.mono (by have:=de.out.size;simp;omega)));clear ad;unfold bw;go_wp2_with (go_at_call 7;refine (al9 _).mono ?_);obtain⟨v12,aD⟩:∃W,GH.alloc (.cells #[.int .u8 0,.int .i64 0,.int .u64 0,.string ⟨#[]⟩,.slice J 0 0] 28)=W:=⟨_,rfl⟩;have mV:aj (ah w.heap.size w v12):=I (by rw[←aD];exact de.out.alloc de.out.size _);have zb:aj (bk v12 cc.heap.size (.int .u8 5) (.int .i64 0) (.int .u64 0) (.string ⟨#[49,49,53,50,57,50,49,53,48,52,54,48,54,56,52,54,57,55,54]⟩) (.slice J 0 0)):=I (by rw[←aD];exact eQ.out.alloc _);have bu:aj (bk v12 qJ.heap.size (.int .u8 8) (.int .i64 0) (.int .u64 0) (.string ⟨#[98,99]⟩) (.slice J 0 0)):=I (by rw[←aD];exact ay.out.alloc _);have xU:aj (bk v12 AO (.int .u8 4) (.int .i64 1152921504606846975) (.int .u64 0) (.string ⟨#[]⟩) (.slice J 0 0)):=I (by rw[←aD];exact bJ.out.alloc _);rw[aD];clear aD de eQ ay bJ;have de:=mV;have eQ:=zb;have ay:=bu;have bJ:=xU;clear mV zb bu xU;rintro e azP ⟨rfl,ad⟩;replace eQ:=I (eQ.out.below ad);replace ay:=I (ay.out.below ad);replace bJ:=I (bJ.out.below ad);replace de:=I (de.out.trans (ad.mono de.out.size));clear ad;go_wp2_with (go_at_call 7;refine (al' _).mono ?_);rintro e azQ ⟨rfl,ad⟩;replace eQ:=I (eQ.out.below ad);replace ay:=I (ay.out.below ad);replace bJ:=I (bJ.out.below ad);replace de:=I (de.out.trans (ad.mono de.out.size));clear ad;obtain⟨a0,b1,a2,a3,a4,_,_,_,_,_⟩:=eQ.out.cells;obtain⟨im,cd,cF,fw,lP,_,_,_,_,_⟩:=ay.out.cells;obtain⟨c0,c1,c2,c3,c4,_,_,_,_,_⟩:=bJ.out.cells;go_wp2;go_ret;exact⟨rfl,de.out⟩
def VM (x:o.Lit) (v:aw):aw:=.agg #[.int .u8 x.kind,.int .i64 x.n,.int .u64 x.bits,.string x.text,v]
namespace o
theorem afr {l:List Lit} {i:Nat} {x:Lit} (h:l[i]? = U x):lK (l.take (i+1))=lK (l.take i)+zc x:=by
 rw[List.take_add_one,h];have:∀(a:List Lit) (x:Lit),lK (a++[x])=lK a+zc x:=by
  intro a x;induction a with
  | nil=>simp[lK]
  | cons y r dw=>simp only[rf,lK];rw[dw];omega
 exact this _ _
end o
theorem avY {B:Nat} {aR:af} {l:List o.Lit} {v:aw} (h:mf B aR l v) (AV:B≤aR.heap.size):∀(x:o.Lit) (n deep:Nat) (w:af),x.items=l→o.IF x→ah B aR w→n≤262144→deep≤60001→
 aq ak 12 #[VM x v,.int .i64 n,.int .i64 deep] w fun e w'=>(∃m:Nat,e=.returned (.int .i64 m)∧m≤140737488617473∧(m≤262144→n+o.zc x≤m))∧ah w.heap.size w w':=by
 induction h with
 | mk A l cap V az cj hw aF dw=>
   intro x n deep w hx kG afs aB aL;have Z6:=cj.le;have xP:=cj.len;have bn:=kG.t;subst hx;have jO:o.zc x=1+x.text.size+o.lK x.items:=by cases x;rfl
   have u5:=I jO;clear jO;unfold VM;by_cases azR:60000<deep
   ·go_enter func12,ntmps12;go_wp2;go_ret;exact⟨⟨262145,rfl,by omega,fun h=>absurd h (by decide)⟩,(aK _ _).alloc (aC _) _⟩
   ·go_enter func12,ntmps12;go_wp2_with fail;have oC:=afs.size;go_loopw [1,7] (fun VN xe wr=>∃m k:Nat,VN=.int .i64 m∧xe=.int .i64 k∧k≤x.items.length∧m≤140737488617473∧(m≤262144→n+1+x.text.size+o.lK (x.items.take k)≤m)∧ah (w.heap.size+1) (w.alloc (.cells #[.int .u8 x.kind,.int .i64 x.n,.int .u64 x.bits,.string x.text,.slice A x.items.length cap] 28)) wr) (fun _ xe _=>x.items.length-(RowKit.intOf xe).toNat);case atStart=>exact⟨n+1+x.text.size,0,by go_num,rfl,il _,by omega,fun _=>by simp[o.lK],aK _ _⟩
    case round=>
     obtain⟨m,k,rfl,rfl,aA,hm,hrel,ad⟩:=hrel;have c4:wr.cell? ⟨w.heap.size,4,J⟩=U (.slice A x.items.length cap):=by
      rw[ad.cell (p:=⟨w.heap.size,4,J⟩) (by simp)];simp[go_sem]
     have bG:=I hrel;clear hrel;have b5:=ad.size;simp only[World.size_alloc] at b5;by_cases bV:k<x.items.length
     ·by_cases hd:m≤262144
      ·obtain⟨b,a7,rfl,pb⟩:=cj.yb bV;obtain⟨y,aW⟩:∃y,x.items[k]? = U y:=⟨_,eE bV⟩;have Ro:b<B:=az (by intro e;rw[e] at bV;simp at bV) _ rfl;have dP:ah B aR wr:=afs.trans ((((aK w.heap.size w).alloc (aC _) _).trans (ad.mono (by omega))).mono (by omega));have rA:=cj.tD dP az;obtain⟨ck,aH,aT,b8,eb⟩:=rA.lit aW;have hi:=I aW;have tx:=hw y (r9 aW);clear aW;go_wp2_with fail;refine (dw k y hi.out y m (deep+1) wr rfl tx dP hd (by omega)).mono ?_;rintro e aP ⟨⟨m2,rfl,pU,yp⟩,bg⟩;have di:=I yp;clear yp;go_wp2;go_roundw;case rel=>
        refine⟨m2,k+1,rfl,by go_num,by omega,pU,?_,ad.trans (bg.mono (by omega))⟩;intro h;have aa:=di.out h;have ae:=bG.out hd;rw[o.afr hi.out];omega
       case measure=>simp[RowKit.intOf];omega
      ·go_wp2;go_ret;exact⟨⟨m,rfl,hm,fun h=>absurd h hd⟩,((aK _ _).alloc (aC _) _).trans (ad.mono (by omega))⟩
     ·have fh:k=x.items.length:=by omega
      have cI:=I fh;clear fh;go_wp2;go_ret;refine⟨⟨m,rfl,hm,fun h=>?_⟩,((aK _ _).alloc (aC _) _).trans (ad.mono (by omega))⟩;have ae:=bG.out h;rw[cI.out,EF] at ae;rw[u5.out];omega
theorem avZ {B:Nat} {cb:List o.Lit} {v:aw} (w:af) (h:mf B w cb v) (az:B≤w.heap.size) :
 aq ak 5 #[v] w fun e w'=>(∃t:Bool,e=.returned (.bool t)∧(t=ab→o.lK cb≤262144))∧ah w.heap.size w w':=by
 have ar:=h;have av0:=h.len;obtain⟨azS,azT,azU,rfl,ym,VO,Hl,m'⟩:=h.out;have aa:=VO.le;obtain⟨N,cW⟩:∃N,cb.length=N:=⟨_,rfl⟩;have bU:=I cW;rw[cW] at av0 aa ⊢;clear cW h ar;go_enter func5,ntmps5;go_wp2;go_loopw [3,4] (fun VN xe wr=>∃m k:Nat,VN=.int .i64 m∧xe=.int .i64 k∧k≤N∧m≤400000000000000∧(m≤262144→o.lK (cb.take k)≤m)∧ah w.heap.size w wr) (fun _ xe _=>N-(RowKit.intOf xe).toNat);case atStart=>exact⟨N,0,rfl,rfl,il _,by omega,fun _=>by simp[o.lK],aK _ _⟩
 case round=>
  obtain⟨m,k,rfl,rfl,aA,hm,hrel,ad⟩:=hrel;have bG:=I hrel;clear hrel;have b5:=ad.size;by_cases bV:k<N
  ·have uG:au ((k:Int)<(N:Int))=ai:=bE (by omega);by_cases hd:m≤262144
   ·have av1:au ((m:Int)≤262144)=ai:=bE (by omega);have IG:k<cb.length:=by rw[bU.out];exact bV
    obtain⟨b,a7,rfl,pb⟩:=VO.yb IG;obtain⟨y,aW⟩:∃y,cb[k]? = U y:=⟨_,eE IG⟩;have Ro:b<B:=ym (by intro e;rw[e] at IG;simp at IG) _ rfl;have dP:ah B w wr:=ad.mono az;have rA:=VO.tD dP ym;obtain⟨ck,aH,aT,b8,eb⟩:=rA.lit aW;have hi:=I aW;have tx:=Hl y (r9 aW);have Gj:=I (avY (m' k y aW) az y m 0 wr rfl tx dP hd (by omega));clear aW IG rA;unfold VM at Gj;go_wp2_with fail;refine Gj.out.mono ?_;rintro e aP ⟨⟨m2,rfl,pU,yp⟩,bg⟩;have di:=I yp;clear yp;go_wp2;go_roundw;case rel=>
     refine⟨m2,k+1,rfl,by go_num,by omega,by omega,?_,ad.trans (bg.mono (by omega))⟩;intro h;have aa:=di.out h;have ae:=bG.out hd;rw[o.afr hi.out];omega
    case measure=>simp[RowKit.intOf];omega
   ·have av1:au ((m:Int)≤262144)=ab:=bx (by omega);have d2:au ((262144:Int)<(m:Int))=ai:=bE (by omega);go_wp2;go_ret;exact⟨⟨ai,rfl,fun h=>by cases h⟩,ad⟩
  ·have uG:au ((k:Int)<(N:Int))=ab:=bx (by omega);obtain⟨q,aE⟩:∃q,au ((262144:Int)<(m:Int))=q:=⟨_,rfl⟩;have b3:aj (q=ab→o.lK cb≤262144):=I (fun h=>by
    have ae:=vI (aE.trans h);have aJ:=bG.out (by omega);rw[fp (by rw[bU.out];omega)] at aJ;omega)
   go_wp2;go_ret;exact⟨⟨q,rfl,b3.out⟩,ad⟩
theorem atv (s:ByteArray) (n d:Nat) (p:Int) (neg cr:Bool) (w:af) (a1:uq s) (aF:vx s d p neg cr n) (fr:d≠0) (hp:310<p∨p < -345) (he:Env w):q4 (fun r=>y5 r∧r%9223372036854775808=0) True s n w:=by
 have aa:=he.opt;have ae:=y1;have cd:((d:Int)==0)=ab:=by rw[cH];omega
 clear he;unfold q4;have cF:bits .or .u64 9223372036854775808 0=9223372036854775808:=by decide
 have fw:bits .or .u64 0 0=0:=by decide
 have lP:bits .or .u64 9223372036854775808 9218868437227405312=18442240474082181120:=by decide
 have aqH:bits .or .u64 0 9218868437227405312=9218868437227405312:=by decide
 rcases hp with hp | hp;all_goals
  cases neg;all_goals
   go_enter zB,zx;go_wp2_with fail;refine (a1 _).mono ?_;rintro e w' ⟨rfl,rfl⟩;go_wp2_with fail;refine (aF _).mono ?_;rintro e w' ⟨rfl,rfl⟩;go_wp2_with fail;refine (vQ _ _).mono ?_;rintro e w' ⟨rfl,rfl⟩;go_wp2;go_ret3;first
    | exact⟨⟨_,.inr ⟨trivial,rfl⟩⟩,aK _ _⟩
    | exact⟨⟨_,.inl ⟨⟨⟨by decide,by decide⟩,by decide⟩,rfl⟩⟩,aK _ _⟩
def ID (t:ee) (r:Nat):Prop:=y5 r∧((o.run t.body).cr=ai∨r%9223372036854775808=0∨((o.run t.body).m≠0∧(o.run t.body).cr=ab∧r%9223372036854775808=o.iC av.bR ((o.run t.body).m,o.n7 (o.run t.body) t.exp)))
theorem atw {t:ee} (h:t.pM) (w:af) (he:Env w):q4 (ID t) True (ax t.text) t.text.length w:=by
 have r:=aqQ h;have a1:=asb h;have ao:=h.len;have e4:=o.Cy t.body (fun c an=>by
  rcases List.mem_append.1 an with an | an
  ·exact .inr (h.yX c an)
  ·rcases List.mem_cons.1 an with an | an
   ·exact .inl an
   ·exact .inr (h.Ia c an))
 have hm:(o.run t.body).m<10000000000000000000:=cv e4.m (dB (n:=10) (by decide) e4.dj);obtain⟨d,aL⟩:∃d,(o.run t.body).m=d:=⟨_,rfl⟩;obtain⟨p,hp⟩:∃p,o.n7 (o.run t.body) t.exp=p:=⟨_,rfl⟩;rw[aL,hp] at r;rw[aL] at hm;have bS:∀x,y5 x→((o.run t.body).cr=ai∨x%9223372036854775808=0∨(d≠0∧(o.run t.body).cr=ab∧x%9223372036854775808=o.iC av.bR (d,p)))→ID t x:=by
  intro x aa ae;unfold ID;rw[aL,hp];exact⟨aa,ae⟩
 by_cases ar:d=0
 ·subst ar;refine (asd _ _ p t.neg (o.run t.body).cr w a1 r he).mono ?_ (fun f=>f.elim);rintro x rfl;refine bS _ ?_ (.inr (.inl ?_))
  ·unfold y5 o.eV;cases t.neg<;>exact⟨by decide,by decide⟩
  ·unfold o.eV;cases t.neg<;>decide
 ·by_cases mR:310<p∨p < -345
  ·exact (atv _ _ d p t.neg _ w a1 r ar mR he).mono (fun x hx=>bS x hx.1 (.inr (.inl hx.2))) id
  ·cases tN:(o.run t.body).cr
   ·rw[tN] at r;rw[tN] at bS;refine (ar6 _ _ d p t.neg w a1 r ar (by omega) (by omega) (by omega) he).mono ?_;rintro e w' ⟨rfl,az⟩;have bD:o.iC av.bR (d,p)≤9218868437227405312:=av.Aw _ _;unfold Io;by_cases h:o.iC av.bR (d,p)=9218868437227405312
    ·rw[ba h];exact⟨⟨_,.inr ⟨trivial,rfl⟩⟩,az⟩
    ·rw[aU h];have hw:=av.oX t.neg (show o.iC av.bR (d,p)<9223372036854775808 by omega);refine⟨⟨_,.inl ⟨bS _ ⟨hw.2.2,?_⟩ (.inr (.inr ⟨ar,rfl,hw.1⟩)),rfl⟩⟩,az⟩;rw[hw.1];omega
   ·rw[tN] at r;exact (ast _ _ d p t.neg w a1 r (by rw[fN]) (by rw[fN];omega) ar hm (by omega) (by omega) (atu t h (by rw[aL];exact ar)) he).mono (fun x hx=>bS x hx (.inl tN)) id
theorem atx {t:ee} (h:t.pM) (w:af) (he:Env w):aq ak 114 #[.string (ax t.text)] w fun e w'=>((∃x,ID t x∧e=.returned (.tuple #[.int .u64 x,.int .i64 0]))∨e=.returned (.tuple #[.int .u64 0,.int .i64 101]))∧ah w.heap.size w w':=by
 refine (asa (R:=ID t) (E:=True) t.text w (by have:=h.len;omega) (aqW h) he (fun w he=>atw h w he)).mono ?_;rintro e w' ⟨⟨r,aF,rfl⟩ | ⟨_,rfl⟩,az⟩
 ·refine⟨.inl ⟨r,aF,?_⟩,az⟩;have:av.told r=r:=by
   unfold av.told;have aB:av.dC r=ab:=by unfold av.dC;rw[ux];have:=aF.1.2;omega
   rw[aB];rfl
  rw[this]
 ·exact⟨.inr rfl,az⟩
theorem aty (s:ByteArray) (w:af) (ae:s.size≤140737488355328) (he:Env w) (ad:¬ ∃t:ee,t.pM∧s=ax t.text):aq ak 114 #[.string s] w fun e w'=>e=.returned (.tuple #[.int .u64 0,.int .i64 100])∧ah w.heap.size w w':=by
 rcases eh 400 s.size with nf | atz
 ·have bZ:=I (asu s w nf ae);go_enter PI,O0;go_wp2_with fail;refine bZ.out.mono ?_;rintro e cq ⟨rfl,rfl⟩;go_wp2;go_ret2;exact⟨rfl,aK _ _⟩
 ·obtain⟨l,ao,aeX⟩:∃l:List UInt8,s=ax l∧l.length≤400:=⟨s.data.toList,by apply xx;unfold ax;simp,by simpa using atz⟩;subst ao;cases bd:o.formed l
  ·exact aqN l w (by omega) bd
  ·obtain⟨t,e4,rfl⟩:=aqS bd;exact absurd ⟨t,e4,rfl⟩ ad
end Go.Proofs.YtkhphoonnkoipaaGreatDoor
