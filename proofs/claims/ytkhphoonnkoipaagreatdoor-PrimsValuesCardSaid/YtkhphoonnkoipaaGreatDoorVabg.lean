/- Lemmas. -/
import Derived.Test.YtkhphoonnkoipaaGreatDoorVabf
import Derived.Test.YtkhphoonnkoipaaGreatDoorVaax
set_option linter.all false
set_option maxHeartbeats 8000000
set_option maxRecDepth 4000
open Go.Proofs.Tryz Go.RowKit Go.Lib
open Option renaming none→J,some→U
open Bool renaming true→ai,false→ab
open Decidable renaming decide→au
open Go renaming World→af,Value→aw,Calls→aq,results→bK,Addr→ho
open Go.RowKit renaming Below→ah,Hid→aj
open Go.Proofs.Tryz renaming prog→ak
namespace Go.Proofs.YtkhphoonnkoipaaGreatDoor
noncomputable def HU (neg:Bool) (V:Nat):aw:=
 if av.er (V*2^av.bR) 1=9218868437227405312 then .tuple #[.int .u64 0,.int .i64 101] else .tuple #[.int .u64 (av.D.word neg (av.er (V*2^av.bR) 1):Nat),.int .i64 0]
theorem ap0 (V:Nat):V<2^o.bt V:=by
 unfold o.bt;by_cases h:V=0
 ·rw[ba h,h];decide
 ·rw[aU h];exact oM
theorem ap1 {V:Nat} (h:V≠0):2^(o.bt V-1)≤V:=by
 unfold o.bt;rw[aU h];exact sa h
theorem ap2 (V:Nat) (cA:V<256^4096):∃k,o.bt V-62=k∧o.bt V≤32768∧V/2^k<4611686018427387904∧V/2^k*2^k≤V∧av.heads V k<4611686018427387904∧av.lr (av.j9 (av.heads V k)) k=av.D.word ab (av.er (V*2^av.bR) 1):=by
 refine⟨_,rfl,?_,?_,Ej _ _,?_,?_⟩
 ·unfold o.bt;by_cases h:V=0
  ·rw[ba h];omega
  ·rw[aU h];have:V.log2<32768:=(nX h).2 (by
    obtain⟨b,ad⟩:∃b,b=4096:=⟨_,rfl⟩;rw[←ad] at cA;rw[show 32768=8*b by omega,mi];exact cA)
   omega
 all_goals
  have aa:=ap0 V;have dZ:V/2^(o.bt V-62)<4611686018427387904:=by
   rw[kQ (ez _),show (4611686018427387904:Nat)=2^62 from rfl,←cm];exact cv aa (dB (by decide) (by omega))
 ·exact dZ
 ·unfold av.heads;split
  ·exact dZ
  ·rw[av.HT];omega
 ·by_cases ar:V=0
  ·subst ar;have aH:o.bt 0-62=0:=by decide
   rw[aH,vN,av.Ud];have aT:av.heads 0 0=0:=by decide
   rw[aT];have b8:av.j9 ((0:Nat):Int)=0:=by decide +kernel
   rw[b8,av.Ug _ (by omega) (by omega)];decide +kernel
  ·have ae:=ap1 ar;have hh:av.heads V (o.bt V-62)≠0:=by
    unfold av.heads;split
    ·intro h;rename_i he;rw[h,vN] at he;omega
    ·rw[av.HT];omega
   have bV:av.heads V (o.bt V-62)<18446744073709551616:=by
    unfold av.heads;split
    ·omega
    ·rw[av.HT];omega
   rw[av.apT hh bV,av.apV];rcases eh 62 (o.bt V)with h | h
   ·right;rw[kP (ez _)];refine cp ?_ ae;rw[show (18014398509481984:Nat)=2^54 from rfl,←cm];exact dB (by decide) (by omega)
   ·left;omega
theorem ap3 (T k:Nat) (w:af) (cA:T*2^k<256^4096) (aA:k≤32768) :
 aq ak 41 #[cO ab (o.bs T),.int .i64 (k:Int)] w fun e w'=>e=.returned (.tuple #[cO ab (o.bs (T*2^k)),.int .i64 0])∧ah w.heap.size w w':=by
 have dZ:T<256^4096:=gQ (Nu _ (ez k)) cA;have h:=Rf ab (o.bs T) k w (o.oa dZ) (o.Ah dZ (by simp)) aA (by rw[o.CJ];exact o.oa cA);unfold F2 at h;rw[o.CJ,ri] at h;exact h
theorem ap4 {a b:Nat} (h:o.bs a=o.bs b):a=b:=by rw[←o.lC a,h,o.lC]
theorem ap5 {T:Nat} (h:T<4611686018427387904):bits .or .i64 (T:Int) 1=((T ||| 1:Nat):Int):=by
 have kA:(2:Nat)^IntKind.i64.bits=18446744073709551616:=rfl;have hw:∀n:Nat,n<9223372036854775808→IntKind.i64.wrap (n:Int)=n:=fun n aB=>by rw[sb];omega
 have ao:T ||| 1<9223372036854775808:=by rw[av.HT];omega
 rw[show (1:Int)=((1:Nat):Int) from rfl];simp only[bits,oK,vL,ns,kA];rw[eF (show T<18446744073709551616 by omega),eF (show 1<18446744073709551616 by omega),hw _ ao]
theorem ap6 (a b:Nat) (w:af):(binOp .neq 46 (cO ab (o.bs a)) (cO ab (o.bs b))).run ak w=.ok (.bool (!decide (a=b))) w:=by
 unfold cO;rw[apY];have e:((ax (o.bs a)).toList==(ax (o.bs b)).toList)=au (a=b):=by
  have aa:∀l:List UInt8,(ax l).toList=l:=fun l=>by rw[lL]
  rw[aa,aa];by_cases h:a=b
  ·subst h;simp
  ·rw[bx h,cH];exact fun ae=>h (ap4 ae)
 rw[e];simp
theorem ap7 (neg:Bool) (V:Nat) (w:af) (cA:V<256^4096) (nG:neg=ai→V≠0) :
 aq ak 47 #[cO neg (o.bs V)] w fun e w'=>e=.returned (HU neg V)∧ah w.heap.size w w':=by
 have Uo:o.uO neg (o.bs V)=0:=o.Ah cA nG;have bJ:=I (fun w=>Cw neg (o.bs V) w (by have:=o.oa cA;omega));rw[Uo] at bJ;have bU:=I (fun w=>aj0 neg V w cA Uo);obtain⟨k,aA,aB,dZ,ac5,rj,hF⟩:=ap2 V cA;have rG:=I (fun w=>ajY V k w cA (by omega));have jm:=I (fun w=>ap3 (V/2^k) k w (gQ ac5 cA) (by omega));have cR:=I (fun w=>aj3 (V/2^k) w (by omega));have b3:=I (fun w=>ap6 (V/2^k*2^k) V w);have iH:=I (show av.heads V k=if V/2^k*2^k=V then V/2^k else V/2^k ||| 1 from rfl);have Mv:=I (fun w=>Uh (av.j9 (av.heads V k)) k w (by rw[av.Ue];exact (av.oX _ (gQ (av.Aw _ _) (by decide))).2.2) (by omega));rw[hF] at Mv;obtain⟨R,bS⟩:∃R,av.er (V*2^av.bR) 1=R:=⟨_,rfl⟩;have ayQ:R≤9218868437227405312:=by rw[←bS];exact av.Aw _ _
 have cM:=I (show HU neg V=if R=9218868437227405312 then .tuple #[.int .u64 0,.int .i64 101] else .tuple #[.int .u64 (av.D.word neg R:Nat),.int .i64 0] by unfold HU;rw[bS]);rw[bS] at Mv;have ac6:1100<o.bt V→R=9218868437227405312:=fun h=>by
  rw[←bS];unfold o.bt at h;by_cases ar:V=0
  ·rw[ba ar] at h;omega
  ·rw[aU ar] at h;exact av.apW ar (by omega)
 obtain⟨ac7,Up⟩:∃ac7,HU neg V=ac7:=⟨_,rfl⟩;have Uq:=I (Up.symm.trans cM.out);rw[Up];clear hF bS cM Uo Up;generalize o.bt V=n at *;generalize V/2^k=T at *;generalize av.heads V k=H at *;have Ln:=I (fun g=>show cO g (o.bs V)=.agg #[.bool g,.string (ax (o.bs V))] from rfl);have Lp:=I (show cO ab (o.bs T)=.agg #[.bool ab,.string (ax (o.bs T))] from rfl);have rN:=I (show cO ab (o.bs (T*2^k))=.agg #[.bool ab,.string (ax (o.bs (T*2^k)))] from rfl);obtain⟨DL,Ur⟩:∃b,au (T*2^k=V)=b:=⟨_,rfl⟩;rw[Ur] at b3;simp only[Ln.out,Lp.out,rN.out] at bJ bU rG jm cR b3 ⊢;have Us:=I (show H=if DL then T else T ||| 1 by rw[iH.out,←Ur];by_cases h:T*2^k=V<;>simp[h]);clear Ln Lp rN iH Ur ac5 cA;generalize ax (o.bs V)=DM at *;generalize ax (o.bs T)=ST at *;generalize ax (o.bs (T*2^k))=Mw at *;have yn:max ((n:Int)-62) 0=(k:Int):=by omega
 go_enter func47,ntmps47;go_wp2_with fail;refine (bJ.out _).mono ?_;rintro e cq ⟨rfl,gT⟩;have hh:(w.alloc (.cells #[.bool neg,.string DM] 46)).heap[w.heap.size]? = U (.cells #[.bool neg,.string DM] 46):=fX _ _;have cQ:=I (show ah w.heap.size w cq from ((aK _ _).alloc (aC _) _).trans (gT.mono (by simp)));have Ut:=I (ob hh gT);obtain⟨c0,c1,_⟩:=wu Ut.out;clear gT hh bJ;go_wp2_with fail;refine (bU.out _).mono ?_;rintro e aP ⟨rfl,dP⟩;have bL:=I (cQ.out.trans (dP.mono cQ.out.size));have c8:=I (ob Ut.out dP);clear c0 c1;obtain⟨c0,c1,_⟩:=wu c8.out;clear dP Ut cQ bU;go_wp2_with fail;obtain⟨ayR,hC⟩:∃C,aP.heap.size=C:=⟨_,rfl⟩;have ad:ah aP.heap.size aP (aP.alloc (.cells #[.bool ab,.string DM] 46)):=(aK _ _).alloc (aC _) _;have hh:(aP.alloc (.cells #[.bool ab,.string DM] 46)).heap[aP.heap.size]? = U (.cells #[.bool ab,.string DM] 46):=fX _ _;rw[hC] at hh ⊢;generalize aP.alloc (.cells #[.bool ab,.string DM] 46)=cc at ad hh ⊢;have bu:=I (bL.out.trans (ad.mono bL.out.size));have jU:=I (ob c8.out ad);have ac8:=I hh;clear ad bL c8 hh hC c0 c1;refine (rG.out _).mono ?_;rintro e aQ ⟨rfl,ad⟩;have eN:=I (bu.out.trans (ad.mono bu.out.size));have DN:=I (ob jU.out ad);have ac9:=I (ob ac8.out ad);clear ad bu jU ac8;go_wp2_with fail;obtain⟨ap8,hC⟩:∃C,aQ.heap.size=C:=⟨_,rfl⟩;have ad:ah aQ.heap.size aQ (aQ.alloc (.cells #[.bool ab,.string ST] 46)):=(aK _ _).alloc (aC _) _;have hh:(aQ.alloc (.cells #[.bool ab,.string ST] 46)).heap[aQ.heap.size]? = U (.cells #[.bool ab,.string ST] 46):=fX _ _;rw[hC] at hh ⊢;generalize aQ.alloc (.cells #[.bool ab,.string ST] 46)=cf at ad hh ⊢;have dc:=I (eN.out.trans (ad.mono eN.out.size));have fH:=I (ob DN.out ad);have ac':=I (ob ac9.out ad);have KW:=I hh;clear ad eN DN ac9 hh hC;refine (jm.out _).mono ?_;rintro e cw ⟨rfl,ad⟩;have gA:=I (dc.out.trans (ad.mono dc.out.size));have yk:=I (ob fH.out ad);have ada:=I (ob ac'.out ad);have Uu:=I (ob KW.out ad);clear ad dc fH ac' KW;obtain⟨c0,c1,_⟩:=wu Uu.out;have Sm:ap8≠cw.heap.size:=by have:=(wu Uu.out).2.2;omega
 go_wp2_with fail;clear c0 c1 Sm;obtain⟨ayS,hC⟩:∃C,cw.heap.size=C:=⟨_,rfl⟩;have ad:ah cw.heap.size cw (cw.alloc (.cells #[.bool ab,.string Mw] 46)):=(aK _ _).alloc (aC _) _;have hh:(cw.alloc (.cells #[.bool ab,.string Mw] 46)).heap[cw.heap.size]? = U (.cells #[.bool ab,.string Mw] 46):=fX _ _;rw[hC] at hh ⊢;generalize cw.alloc (.cells #[.bool ab,.string Mw] 46)=fb at ad hh ⊢;have l0:=I (gA.out.trans (ad.mono gA.out.size));have CV:=I (ob yk.out ad);have L4:=I (ob ada.out ad);have adb:=I hh;clear ad gA yk ada Uu hh hC;refine (cR.out _).mono ?_;rintro e hM ⟨rfl,ad⟩;have ku:=I (l0.out.trans (ad.mono l0.out.size));have ug:=I (ob CV.out ad);have yA:=I (ob L4.out ad);have ade:=I (ob adb.out ad);clear ad l0 CV L4 adb;obtain⟨cn,bY,_⟩:=wu ug.out;obtain⟨dO,dV,_⟩:=wu yA.out;obtain⟨im,cd,_⟩:=wu ade.out;clear ug yA ade cR rG jm;have aY:=apZ;have aE:=b3.out;have ap9:aj (∀w,aq ak 80 #[.float .f64 (floatOfInt .f64 (H:Int)),.int .i64 k] w fun e w'=>e=.returned (.float .f64 R)∧w=w'):=I Mv.out;have CW:=I (fun w=>Cs R (by omega) w);rw[eF (by omega)] at CW;have xY:=I (fun w=>nx R w);rw[show av.told R=R by unfold av.told av.dC;rw[aU (by simp;omega)]] at xY;have adf:R ^^^ 9223372036854775808=9223372036854775808+R:=av.B5 (by omega);have uQ:=I (fun w=>nx (9223372036854775808+R) w);rw[show av.told (9223372036854775808+R)=9223372036854775808+R by unfold av.told av.dC;rw[aU (by simp;omega)]] at uQ;have sl:∀w,(Op.unary .neg (.float .f64 R)).run ak w=.ok (.float .f64 (9223372036854775808+R)) w:=fun w=>by rw[JV,adf]
 have gU:DL=ab→bits .or .i64 (T:Int) 1=(H:Int):=fun h=>by
  rw[Us.out,h];exact ap5 dZ
 have adg:DL=ai→H=T:=fun h=>by rw[Us.out,h];rfl
 clear Mv b3 Us adf rj;have ht:(au (R=9218868437227405312)=ai)∨(au (R=9218868437227405312)=ab∧au (1100<(n:Int))=ab):=by
  by_cases h:R=9218868437227405312
  ·exact .inl (bE h)
  ·exact .inr ⟨bx h,bx (fun ae=>h (ac6 (by omega)))⟩
 have HV:(DL=ai∧H=T)∨(DL=ab∧bits .or .i64 (T:Int) 1=(H:Int)):=by
  cases DL
  ·exact .inr ⟨rfl,gU rfl⟩
  ·exact .inl ⟨rfl,adg rfl⟩
 clear gU adg ac6 nG;rcases HV with ⟨rfl,rfl⟩ | ⟨rfl,gU⟩;all_goals
  go_wp2_with fail;refine (ap9.out _).mono ?_;rintro e w' ⟨rfl,rfl⟩;go_wp2_with fail;refine (CW.out _).mono ?_;rintro e w' ⟨rfl,rfl⟩;rcases ht with bd | ⟨bd,RR⟩
  ·have dd:=I (jb bd);rw[bd];clear bd;go_wp2;go_ret2;exact⟨by rw[Uq.out,ba dd.out];rfl,ku.out⟩
  ·have dd:=I (vI bd);rw[bd];clear bd;cases neg
   ·go_wp2_with fail;refine (xY.out _).mono ?_;rintro e w' ⟨rfl,rfl⟩;go_wp2;go_ret2;exact⟨by rw[Uq.out,aU dd.out,av.w0];simp,ku.out⟩
   ·go_wp2_with fail;refine (uQ.out _).mono ?_;rintro e w' ⟨rfl,rfl⟩;go_wp2;go_ret2;exact⟨by rw[Uq.out,aU dd.out,av.w0];simp,ku.out⟩
theorem o.aqq {l:List UInt8} {k:Nat} (h:k<l.length):o.le (l.drop k)=l[k].toNat+256*o.le (l.drop (k+1)):=by
 rw[xh h,o.le]
theorem aqr (n:Int) (w:af) (aB:o.bO n) :
 aq ak 126 #[bz n] w fun e w'=>e=.returned (fU n)∧ah w.heap.size w w':=by
 have bJ:aj (∀W,aq ak 165 #[bz n] W fun e w'=>e=.returned (.int .i64 0)∧ah W.heap.size W w'):=I (fun W=>aqj (au (n<0)) n.natAbs W aB (fun h=>by have:=jb h;omega));obtain⟨dJ,hz⟩:∃dJ,au (n<0)=dJ:=⟨_,rfl⟩;have aS:bz n=.agg #[.bool dJ,.string (ax (o.bs n.natAbs))]:=by unfold bz cO;rw[hz]
 rw[aS] at bJ ⊢;clear aS;obtain⟨l,ao⟩:∃l,o.bs n.natAbs=l:=⟨_,rfl⟩;have hle:o.le l=n.natAbs:=by rw[←ao,o.lC]
 have nf:8<l.length→18446744073709551616≤n.natAbs:=fun h=>by
  have aa:=o.wq (o.sx n.natAbs) (by rw[ao];intro e;rw[e] at h;simp at h);rw[ao,hle] at aa;rw[show (18446744073709551616:Nat)=256^8 from rfl];exact o.XL (a:=8) aa (by omega)
 rw[ao] at bJ ⊢;clear ao aB;have b5:(ax l).size=l.length:=rfl;have iM:=I (x2 l);generalize ax l=s at *;obtain⟨N,cW⟩:∃N,l.length=N:=⟨_,rfl⟩;have bU:=I cW;rw[cW] at b5 nf;clear cW;obtain⟨ag,a6⟩:∃ag,w.alloc (.cells #[.bool dJ,.string s] 46)=ag:=⟨_,rfl⟩;have cY:aj (aI ag w.heap.size 46 (.bool dJ) (.string s)):=I (by rw[←a6];exact aI.new _ _ _ _);have cQ:aj (ah w.heap.size w ag):=I (by rw[←a6];exact (aK _ _).alloc (aC _) _);have dH:w.heap.size+1≤ag.heap.size:=by rw[←a6];simp
 obtain⟨cn,bY,_,_⟩:=cY.out.cells;rcases eh 8 N with jn | jn
 ·have ad:=nf jn;have cM:aj (fU n=.tuple #[.int .i64 0,.bool ab]):=I (by
   unfold fU;rw[aU];unfold In64;omega)
  have GB:au (8<(N:Int))=ai:=bE (by omega);clear ad nf hle;go_enter func126,ntmps126;go_wp2_with fail;refine (bJ.out _).mono ?_;rintro e cq ⟨rfl,dD⟩;have AA:=I (cY.out.below dD);have bL:=I (chain cQ.out dD (by omega));clear cn bY dD;obtain⟨cn,bY,_,_⟩:=AA.out.cells;go_wp2;go_ret2;exact⟨by rw[cM.out];rfl,bL.out⟩
 ·have GB:au (8<(N:Int))=ab:=bx (by omega);have x8:=I hle;have vv:=I hz;clear nf hle hz;go_enter func126,ntmps126;go_wp2_with fail;refine (bJ.out _).mono ?_;rintro e cq ⟨rfl,dD⟩;have AA:=I (cY.out.below dD);have bL:=I (chain cQ.out dD (by omega));clear cn bY dD a6 cY;obtain⟨cn,bY,_,_⟩:=AA.out.cells;go_wp2;go_loop [4,5] (fun x i=>∃k:Nat,k≤N∧i=.int .i64 ((k:Int)-1)∧x=.int .u64 (o.le (l.drop k):Nat)) (fun _ i=>(RowKit.intOf i+1).toNat);case atStart=>exact⟨N,aC _,rfl,by rw[Ee (by rw[bU.out];exact aC _)];rfl⟩
  case round=>
   obtain⟨k,aA,rfl,rfl⟩:=hrel;cases k with
   | succ k=>
     have eM:k<l.length:=by rw[bU.out];omega
     have fr:au ((0:Int)≤((k+1:Nat):Int)-1)=ai:=bE (by omega);have fx:((k+1:Nat):Int)-1=(k:Int):=by omega
     rw[fx] at *;have q:k<s.size:=by omega
     have jP:s[k]'q=l[k]:=iM.out.get eM q (by omega);have yl:=I (o.aqq eM);have bV:=o.ru (l.drop (k+1));rw[zo,bU.out] at bV;have iL:o.le (l.drop (k+1))<256^7:=o.ye bV (by omega);have adn:(256:Nat)^7=72057594037927936:=by decide
     rw[adn] at iL;have lX:=(l[k]'eM).toNat_lt;generalize o.le (l.drop (k+1))=V at *;obtain⟨c,an⟩:∃c,l[k]'eM=c:=⟨_,rfl⟩;rw[an] at jP lX yl;obtain⟨m,hm⟩:∃m,c.toNat+256*V=m:=⟨_,rfl⟩;rw[hm] at yl;have Gb:(V:Int)*256+(c.toNat:Int)=(m:Int):=by omega
     have SZ:IntKind.u64.wrap ((V:Int)*256)=(V:Int)*256:=by rw[ha];omega
     have uH:IntKind.u64.wrap ((V:Int)*256+(c.toNat:Int))=(m:Int):=by rw[Gb,ha];omega
     have R8:IntKind.u64.wrap (c.toNat:Int)=(c.toNat:Int):=by rw[ha];omega
     clear bV iL adn lX hm Gb an eM;go_wp2;go_round;case rel=>exact⟨k,by omega,by go_num,by rw[yl.out]⟩
     case measure=>simp[RowKit.intOf]
   | zero=>
     have fr:au ((0:Int)≤((0:Nat):Int)-1)=ab:=by decide
     have ar:((0:Nat):Int)-1 = -1:=by omega
     rw[ar] at *;rw[xu,x8.out];have hz:=vv.out;obtain⟨V,cA⟩:∃V,n.natAbs=V:=⟨_,rfl⟩;have AB:V<18446744073709551616:=by
      rw[←cA,←x8.out];have aa:=o.ru l;rw[bU.out] at aa;have ae:=o.ye (b:=8) aa (by omega);rwa[show (256:Nat)^8=18446744073709551616 from by decide] at ae
     rw[cA];cases dJ
     ·have kh:=vI hz;rcases eh V 9223372036854775808 with aD | aD
      ·have cM:aj (fU n=.tuple #[.int .i64 V,.bool ai]):=I (by
        unfold fU;rw[ba (by unfold In64;omega),show n=(V:Int) by omega])
       have hw:IntKind.i64.wrap (V:Int)=V:=gF _ (by omega);have aL:au (9223372036854775807<(V:Int))=ab:=bx (by omega);clear aD kh AB hz;go_wp2;go_ret2;exact⟨by rw[cM.out];rfl,bL.out⟩
      ·have cM:aj (fU n=.tuple #[.int .i64 0,.bool ab]):=I (by
        unfold fU;rw[aU (by unfold In64;omega)])
       have aL:au (9223372036854775807<(V:Int))=ai:=bE (by omega);clear aD kh AB hz;go_wp2;go_ret2;exact⟨by rw[cM.out];rfl,bL.out⟩
     ·have kh:=jb hz;rcases eh 9223372036854775808 V with aD | aD
      ·have cM:aj (fU n=.tuple #[.int .i64 0,.bool ab]):=I (by
        unfold fU;rw[aU (by unfold In64;omega)])
       have aL:au (9223372036854775808<(V:Int))=ai:=bE (by omega);clear aD kh AB hz;go_wp2;go_ret2;exact⟨by rw[cM.out];rfl,bL.out⟩
      ·have cM:aj (fU n=.tuple #[.int .i64 (-(V:Int)),.bool ai]):=I (by
        unfold fU;rw[ba (by unfold In64;omega),show n = -(V:Int) by omega])
       have aL:au (9223372036854775808<(V:Int))=ab:=bx (by omega);have hw:IntKind.i64.wrap (IntKind.u64.wrap (-(V:Int))) = -(V:Int):=by rw[ha,sb];omega
       clear aD kh AB hz;go_wp2;go_ret2;exact⟨by rw[cM.out];rfl,bL.out⟩
def w3 (k n:Int) (l:List UInt8) (e:Ending):Prop:=
 (k=4∧e=.returned (.tuple #[bz n,.bool (au (cJ n))]))∨(k=5∧∃A,o.fl 10 l A∧o.bO A∧e=.returned (.tuple #[bz A,.bool (!decide (cJ A))]))∨
 (k≠4∧(k=5→∀A,o.fl 10 l A→¬ o.bO A)∧e=.returned (.tuple #[cO ab [],.bool ab]))
theorem aqs (n b:Int) (t:ByteArray) (cx:Option ho) (dp ct:Nat) (w:af) (aa:-9223372036854775808≤n) (ae:n≤9223372036854775807) :
 aq ak 54 #[bw 4 n b t (.slice cx dp ct)] w fun e w'=>e=.returned (.tuple #[bz n,.bool (au (cJ n))])∧ah w.heap.size w w':=by
 have sL:=I (fun W=>aqg n W aa ae);obtain⟨dJ,S,aS⟩:∃g s,bz n=.agg #[.bool g,.string s]:=⟨_,_,rfl⟩;rw[aS] at sL ⊢;unfold bw;clear aS;obtain⟨cG,fy⟩:∃cG,(w.alloc (.cells #[.int .u8 4,.int .i64 n,.int .u64 b,.string t,.slice cx dp ct] 28)).alloc (.cells #[.bool ab,.string ⟨#[]⟩] 46)=cG:=⟨_,rfl⟩;have cD:aj (bk cG w.heap.size (.int .u8 4) (.int .i64 n) (.int .u64 b) (.string t) (.slice cx dp ct)):=I (by rw[←fy];exact (bk.new _ _ _ _ _ _).alloc _);have bG:aj (aI cG (w.heap.size+1) 46 (.bool ab) (.string ⟨#[]⟩)):=I (by
  rw[←fy];have:=aI.new (w.alloc (.cells #[.int .u8 4,.int .i64 n,.int .u64 b,.string t,.slice cx dp ct] 28)) 46 (.bool ab) (.string ⟨#[]⟩);simpa using this)
 have bL:aj (ah w.heap.size w cG):=I (by rw[←fy];exact ((aK _ _).alloc (aC _) _).alloc (by simp) _);have dY:w.heap.size+2≤cG.heap.size:=by rw[←fy];simp
 obtain⟨c0,c1,c2,c3,c4,_,_,_,_,_⟩:=cD.out.cells;have cU:=I (show ah cG.heap.size cG cG.drew from (aK _ cG).drew);have aN:aj (∀W,ah cG.heap.size cG W→W.cell? ⟨w.heap.size,1,J⟩=U (.int .i64 n)):=I (fun W ad=>(cD.out.below ad).cells.c1);have jm:aj (∀W,ah cG.heap.size cG W→∀u v,((W.setCell ⟨w.heap.size+1,0,J⟩ u).setCell ⟨w.heap.size+1,1,J⟩ v).cell? ⟨w.heap.size,1,J⟩=U (.int .i64 n)):=I (fun W ad u v=>by
  rw[b7 _ _ _ _ (by intro z;injection z with z;omega),b7 _ _ _ _ (by intro z;injection z with z;omega)];exact aN.out W ad)
 have hF:∃f1 f2,au (-1152921504606846976≤n)=f1∧au (n≤1152921504606846975)=f2∧au (cJ n)=(f1&&f2):=⟨_,_,rfl,rfl,by unfold cJ;exact Bool.decide_and _ _⟩;obtain⟨f1,f2,ayV,RR,ado⟩:=hF;rw[ado];clear ado;cases f1;case' false=>
  go_enter JM,Jz;go_wp2_with fail;first | go_region_with (go_at_call 124;(with_reducible refine (sL.out _).mono ?_);rintro e aQ ⟨rfl,e0⟩;have bb:ah cG.heap.size cG aQ:=cU.out.trans e0;have lD:=bG.out.below bb;have MB:=aN.out _ bb;obtain⟨cl,bH,g0,g1⟩:=lD.cells;clear e0) | fail
 case' true=>cases f2
 case' true.false=>
  go_enter JM,Jz;go_wp2;go_region_held3 (fun W=>W.cell? ⟨w.heap.size,1,J⟩=U (.int .i64 n)) (first | with_reducible exact c1 | with_reducible exact aN.out _ cU.out | with_reducible exact aN.out _ bb | with_reducible exact jm.out _ bb _ _) ((go_at_call 124;(with_reducible refine (sL.out _).mono ?_);rintro e aQ ⟨rfl,e0⟩;have bb:ah cG.heap.size cG aQ:=cU.out.trans e0;have lD:=bG.out.below bb;have MB:=aN.out _ bb;obtain⟨cl,bH,g0,g1⟩:=lD.cells;clear e0))
 case' true.true=>
  go_enter JM,Jz;go_wp2;go_region_held3 (fun W=>W.cell? ⟨w.heap.size,1,J⟩=U (.int .i64 n)) (first | with_reducible exact c1 | with_reducible exact aN.out _ cU.out | with_reducible exact aN.out _ bb | with_reducible exact jm.out _ bb _ _) ((go_at_call 124;(with_reducible refine (sL.out _).mono ?_);rintro e aQ ⟨rfl,e0⟩;have bb:ah cG.heap.size cG aQ:=cU.out.trans e0;have lD:=bG.out.below bb;have MB:=aN.out _ bb;obtain⟨cl,bH,g0,g1⟩:=lD.cells;clear e0))
 all_goals
  obtain⟨aM,aG,_,_⟩:=(lD.set (.bool dJ) (.string S)).cells;have j2:=fG (chain bL.out bb (by omega)) (show w.heap.size≤w.heap.size+1 by omega) (.bool dJ) (.string S);go_wp2;refine bI (v:=.tuple #[.agg #[.bool dJ,.string S],.bool _]) (by simp[bK,Jc,go_sem,aM,aG]) rfl ⟨rfl,j2⟩
theorem aqt {n:Int} (h:¬ o.bO n):e7 n=.tuple #[cO ab [],.int .i64 92]:=by unfold e7;exact aU h
theorem aqu (k n b:Int) (l:List UInt8) (cx:Option ho) (dp ct:Nat) (w:af) (aA:k≠4) (ao:l.length≤300000) :
 aq ak 54 #[bw k n b (ax l) (.slice cx dp ct)] w fun e w'=>w3 k n l e∧ah w.heap.size w w':=by
 have l6:=I (fun W=>aqp l W ao);have cR:=I (fun A W (h:o.bO A)=>aqr A W h);unfold bw;have ss:(k==4)=ab:=by rw[cH];exact aA
 obtain⟨cG,fy⟩:∃cG,(w.alloc (.cells #[.int .u8 k,.int .i64 n,.int .u64 b,.string (ax l),.slice cx dp ct] 28)).alloc (.cells #[.bool ab,.string ⟨#[]⟩] 46)=cG:=⟨_,rfl⟩;have cD:aj (bk cG w.heap.size (.int .u8 k) (.int .i64 n) (.int .u64 b) (.string (ax l)) (.slice cx dp ct)):=I (by rw[←fy];exact (bk.new _ _ _ _ _ _).alloc _);have bG:aj (aI cG (w.heap.size+1) 46 (.bool ab) (.string ⟨#[]⟩)):=I (by
  rw[←fy];have:=aI.new (w.alloc (.cells #[.int .u8 k,.int .i64 n,.int .u64 b,.string (ax l),.slice cx dp ct] 28)) 46 (.bool ab) (.string ⟨#[]⟩);simpa using this)
 have bL:aj (ah w.heap.size w cG):=I (by rw[←fy];exact ((aK _ _).alloc (aC _) _).alloc (by simp) _);have dY:w.heap.size+2≤cG.heap.size:=by rw[←fy];simp
 obtain⟨c0,c1,c2,c3,c4,_,_,_,_,_⟩:=cD.out.cells;go_enter JM,Jz;go_wp2_with fail;refine (l6.out _).mono ?_;rintro e cc ⟨adp,cK⟩;have bu:=I (chain bL.out cK (by omega));have rN:=I (cD.out.below cK);have kX:=I (bG.out.below cK);have dL:=cp dY cK.size;clear c0 c1 c2 c3 c4 cK fy cD bG bL;obtain⟨dA,A8,nz,rfl,jL⟩:∃g s r,e=.returned (.tuple #[.agg #[.bool g,.string s],.int .i64 r])∧((r=0∧∃A,o.fl 10 l A∧o.bO A∧Value.agg #[.bool g,.string s]=bz A)∨(r≠0∧∀A,o.fl 10 l A→¬ o.bO A)):=by
  rcases adp with ⟨A,be,rfl⟩ | ⟨lZ,rfl⟩
  ·by_cases az:o.bO A
   ·exact⟨_,_,_,by rw[adk az];rfl,.inl ⟨rfl,A,be,az,rfl⟩⟩
   ·refine⟨_,_,_,by rw[aqt az];rfl,.inr ⟨by decide,fun B ae=>?_⟩⟩;rw[o.CR (by decide) ae be];exact az
  ·exact⟨_,_,_,rfl,.inr ⟨by decide,fun A h=>absurd h (lZ A)⟩⟩
 have DH:=I jL;clear jL adp;obtain⟨gd,iv⟩:∃gd,cc.alloc (.cells #[.bool dA,.string A8] 46)=gd:=⟨_,rfl⟩;have Hy:aj (aI gd cc.heap.size 46 (.bool dA) (.string A8)):=I (by rw[←iv];exact aI.new _ _ _ _);have eN:aj (ah w.heap.size w gd):=I (by rw[←iv];exact bu.out.alloc (by omega) _);have aqv:aj (bk gd w.heap.size (.int .u8 k) (.int .i64 n) (.int .u64 b) (.string (ax l)) (.slice cx dp ct)):=I (by rw[←iv];exact rN.out.alloc _);have yj:aj (aI gd (w.heap.size+1) 46 (.bool ab) (.string ⟨#[]⟩)):=I (by rw[←iv];exact kX.out.alloc _);have iy:cc.heap.size+1≤gd.heap.size:=by rw[←iv];simp
 clear bu rN kX;obtain⟨c0,c1,c2,c3,c4,_,_,_,_,_⟩:=aqv.out.cells;obtain⟨kj,dE,_,_⟩:=Hy.out.cells;obtain⟨cl,bH,g0,g1⟩:=yj.out.cells;have fQ:=I (yj.out.set (.bool ab) (.string ⟨#[]⟩));have adq:=I (fG eN.out (show w.heap.size≤w.heap.size+1 by omega) (.bool ab) (.string ⟨#[]⟩));by_cases kt:k=5
 ·have adr:(k != 5)=ab:=by rw[kt];rfl
  rcases DH.out with ⟨aF,A,be,az,UA⟩ | ⟨aF,lZ⟩
  ·have iW:(nz != 0)=ab:=by rw[aF];rfl
   have jm:=I (fun W=>cR.out A W az);rw[←UA] at jm;obtain⟨vw,dN,HX,kC⟩:∃vw dN,fU A=.tuple #[.int .i64 vw,.bool dN]∧((dN=ai∧vw=A)∨(dN=ab∧¬ cJ A)):=by
    unfold fU;by_cases h:In64 A
    ·exact⟨A,ai,by rw[ba h],.inl ⟨rfl,rfl⟩⟩
    ·exact⟨0,ab,by rw[aU h],.inr ⟨rfl,fun ae=>h (by unfold cJ at ae;unfold In64;omega)⟩⟩
   rw[HX] at jm;have og:aj (∀q bW,q=(!decide (cJ A))→ah w.heap.size w bW→w3 k n l (.returned (.tuple #[.agg #[.bool dA,.string A8],.bool q]))∧ah w.heap.size w bW):=I (fun q bW aE ad=>⟨.inr (.inl ⟨kt,A,be,az,by rw[aE,UA]⟩),ad⟩);have ads:(dN=ab∧(!decide (cJ A))=ai)∨(dN=ai∧au (vw < -1152921504606846976)=ai∧(!decide (cJ A))=ai)∨(dN=ai∧au (vw < -1152921504606846976)=ab∧au (1152921504606846975<vw)=ai∧(!decide (cJ A))=ai)∨(dN=ai∧au (vw < -1152921504606846976)=ab∧au (1152921504606846975<vw)=ab∧(!decide (cJ A))=ab):=by
    rcases kC with ⟨rfl,rfl⟩ | ⟨rfl,bd⟩
    ·by_cases aa:vw < -1152921504606846976
     ·exact .inr (.inl ⟨rfl,bE aa,by rw[bx (by unfold cJ;omega)];rfl⟩)
     ·by_cases ae:1152921504606846975<vw
      ·exact .inr (.inr (.inl ⟨rfl,bx aa,bE ae,by rw[bx (by unfold cJ;omega)];rfl⟩))
      ·exact .inr (.inr (.inr ⟨rfl,bx aa,bx ae,by rw[bE (by unfold cJ;omega)];rfl⟩))
    ·exact .inl ⟨rfl,by rw[bx bd];rfl⟩
   have aqw:=I ads;clear ads kC HX be az UA aF kt aA DH l6 cR;go_wp2_with fail;refine (jm.out _).mono ?_;rintro e cf ⟨rfl,bf⟩;have Mi:=I (Hy.out.below bf);have adt:=I (yj.out.below bf);have dc:=I (chain eN.out bf (by omega));clear bf c0 c1 c2 c3 c4 kj dE cl bH g0 g1;obtain⟨kj,dE,_,_⟩:=Mi.out.cells;obtain⟨cl,bH,g0,g1⟩:=adt.out.cells;obtain⟨aM,aG,_,_⟩:=(adt.out.set (.bool dA) (.string A8)).cells;have hW:=I (fG dc.out (show w.heap.size≤w.heap.size+1 by omega) (.bool dA) (.string A8));rcases aqw.out with ⟨rfl,aE⟩ | ⟨rfl,d1,aE⟩ | ⟨rfl,d1,d2,aE⟩ | ⟨rfl,d1,d2,aE⟩;all_goals
    have b3:=I (og.out _ _ aE.symm hW.out);clear aE;go_wp2;refine bI (v:=.tuple #[.agg #[.bool dA,.string A8],.bool _]) (by simp[bK,Jc,go_sem,aM,aG]) rfl b3.out
  ·have iW:(nz != 0)=ai:=by rw[kR];exact aF
   have og:aj (∀bW,ah w.heap.size w bW→w3 k n l (.returned (.tuple #[.agg #[.bool ab,.string ⟨#[]⟩],.bool ab]))∧ah w.heap.size w bW):=I (fun bW ad=>⟨.inr (.inr ⟨aA,fun _=>lZ,rfl⟩),ad⟩);clear lZ aF kt aA DH l6 cR;obtain⟨aM,aG,_,_⟩:=fQ.out.cells;go_wp2;refine bI (v:=.tuple #[.agg #[.bool ab,.string ⟨#[]⟩],.bool ab]) (by simp[bK,Jc,go_sem,aM,aG]) rfl (og.out _ adq.out)
 ·have adr:(k != 5)=ai:=by rw[kR];exact kt
  have og:aj (∀bW,ah w.heap.size w bW→w3 k n l (.returned (.tuple #[.agg #[.bool ab,.string ⟨#[]⟩],.bool ab]))∧ah w.heap.size w bW):=I (fun bW ad=>⟨.inr (.inr ⟨aA,fun h=>absurd h kt,rfl⟩),ad⟩);clear kt aA DH l6 cR;obtain⟨aM,aG,_,_⟩:=fQ.out.cells;go_wp2;refine bI (v:=.tuple #[.agg #[.bool ab,.string ⟨#[]⟩],.bool ab]) (by simp[bK,Jc,go_sem,aM,aG]) rfl (og.out _ adq.out)
theorem aqx (k n b:Int) (l:List UInt8) (cx:Option ho) (dp ct:Nat) (w:af) (ao:l.length≤300000) (aa:-9223372036854775808≤n) (ae:n≤9223372036854775807) :
 aq ak 54 #[bw k n b (ax l) (.slice cx dp ct)] w fun e w'=>w3 k n l e∧ah w.heap.size w w':=by
 by_cases aA:k=4
 ·subst aA;exact (aqs n b _ cx dp ct w aa ae).mono fun e w' ⟨he,ad⟩=>⟨.inl ⟨rfl,he⟩,ad⟩
 ·exact aqu k n b l cx dp ct w aA ao
def yV (k n b:Int) (l:List UInt8) (len:Nat) (A:Int):Prop:=len=0∧b=0∧((k=4∧l=[]∧n=A∧cJ A)∨(k=5∧n=0∧o.fl 10 l A∧o.bO A∧¬ cJ A))
theorem UB {k n b:Int} {l:List UInt8} {e:Ending} (h:w3 k n l e) (bQ:k=4→b=0∧l=[]) (dm:k=5→b=0∧n=0):∃g s q,e=.returned (.tuple #[.agg #[.bool g,.string s],.bool q])∧(q=ai↔∃A,yV k n b l 0 A):=by
 rcases h with ⟨rfl,rfl⟩ | ⟨rfl,A,be,az,rfl⟩ | ⟨aA,lZ,rfl⟩
 ·refine⟨_,_,_,rfl,?_⟩;rw[ij];exact⟨fun bd=>⟨n,rfl,(bQ rfl).1,.inl ⟨rfl,(bQ rfl).2,rfl,bd⟩⟩,fun⟨A,_,_,h⟩=>by
   rcases h with ⟨_,_,rfl,bd⟩ | ⟨h,_⟩
   ·exact bd
   ·omega⟩
 ·refine⟨_,_,_,rfl,?_⟩;rw[Bool.not_eq_true',ux];exact⟨fun bd=>⟨A,rfl,(dm rfl).1,.inr ⟨rfl,(dm rfl).2,be,az,bd⟩⟩,fun⟨B,_,_,h⟩=>by
   rcases h with ⟨h,_⟩ | ⟨_,_,aa,_,bd⟩
   ·omega
   ·rwa[←o.CR (by decide) aa be]⟩
 ·refine⟨_,_,_,rfl,?_⟩;exact⟨fun h=>(by cases h),fun⟨A,_,_,h⟩=>by
   rcases h with ⟨h,_⟩ | ⟨h,_,aa,ae,_⟩
   ·exact absurd h aA
   ·exact absurd ae (lZ h A aa)⟩
def UC (k n b:Int) (l:List UInt8) (len:Nat) (e:Ending):Prop:=∃q,e=.returned (.bool q)∧(q=ai↔∃A,yV k n b l len A)
theorem adu {k n b:Int} {l:List UInt8} {len:Nat} (h:0<len∨b≠0∨(k≠4∧k≠5)∨(k=4∧l≠[])∨(k=5∧n≠0)):UC k n b l len (.returned (.bool ab)):=by
 refine⟨ab,rfl,fun h=>(by cases h),fun⟨A,aa,ae,aJ⟩=>?_⟩;rcases aJ with ⟨bD,cX,_⟩ | ⟨bD,cX,_⟩
 ·rcases h with h | h | h | h | h
  ·omega
  ·omega
  ·omega
  ·exact absurd cX h.2
  ·omega
 ·rcases h with h | h | h | h | h<;>omega
theorem aqy (k n b:Int) (l:List UInt8) (cx:Option ho) (dp ct:Nat) (w:af) (ao:l.length≤300000) (aa:-9223372036854775808≤n) (ae:n≤9223372036854775807) :
 aq ak 15 #[bw k n b (ax l) (.slice cx dp ct),.int .u8 73] w fun e w'=>UC k n b l dp e∧ah w.heap.size w w':=by
 have ll:=I (fun W=>aqx k n b l cx dp ct W ao aa ae);unfold bw at *;obtain⟨ag,a6⟩:∃ag,w.alloc (.cells #[.int .u8 k,.int .i64 n,.int .u64 b,.string (ax l),.slice cx dp ct] 28)=ag:=⟨_,rfl⟩;have cD:aj (bk ag w.heap.size (.int .u8 k) (.int .i64 n) (.int .u64 b) (.string (ax l)) (.slice cx dp ct)):=I (by rw[←a6];exact bk.new _ _ _ _ _ _);have cQ:aj (ah w.heap.size w ag):=I (by rw[←a6];exact (aK _ _).alloc (aC _) _);have dH:w.heap.size+1≤ag.heap.size:=by rw[←a6];simp
 obtain⟨c0,c1,c2,c3,c4,_,_,_,_,_⟩:=cD.out.cells;clear ao aa ae;obtain⟨jq,r0⟩:∃q,(ax l).toList.isEmpty=q:=⟨_,rfl⟩;have mr:aj (jq=ai↔l=[]):=I (by rw[←r0,lL];cases l<;>simp);generalize ax l=T at *;by_cases hx:dp=0;case neg=>
  have bZ:=I (adu (k:=k) (n:=n) (b:=b) (l:=l) (len:=dp) (.inl (by omega)));have j1:au ((0:Int)<(dp:Int))=ai:=bE (by omega);go_enter jJ,jI;go_wp2;go_ret;exact⟨bZ.out,cQ.out⟩
 subst hx;have j1:au ((0:Int)<((0:Nat):Int))=ab:=by decide
 have sV:aj (b≠0∨(k≠4∧k≠5)∨(k=4∧jq=ab)∨(k=5∧n≠0)→UC k n b l 0 (.returned (.bool ab))):=I (fun h=>adu (by
  rcases h with h | h | ⟨h,ae⟩ | h
  ·exact .inr (.inl h)
  ·exact .inr (.inr (.inl h))
  ·refine .inr (.inr (.inr (.inl ⟨h,fun e=>?_⟩)));rw[mr.out.2 e] at ae;cases ae
  ·exact .inr (.inr (.inr (.inr h)))))
 by_cases ss:k=4
 ·subst ss;by_cases ad:b=0;case neg=>
   have hs:(b != 0)=ai:=by rw[kR];exact ad
   have bZ:=I (sV.out (.inl ad));clear ad;go_enter jJ,jI;go_wp2;go_ret;exact⟨bZ.out,cQ.out⟩
  subst ad;have cI:aj (∀e,w3 4 n l e→jq=ai→∃g s q,e=.returned (.tuple #[.agg #[.bool g,.string s],.bool q])∧(q=ai↔∃A,yV 4 n 0 l 0 A)):=I (fun e h bQ=>UB h (fun _=>⟨rfl,mr.out.1 bQ⟩) (fun h=>by omega));cases jq;case false=>
   have bZ:=I (sV.out (.inr (.inr (.inl ⟨rfl,rfl⟩))));go_enter jJ,jI;go_wp2;go_ret;exact⟨bZ.out,cQ.out⟩
  case true=>
   replace cI:=I (fun e h=>cI.out e h rfl);go_enter jJ,jI;go_wp2_with fail;refine (ll.out _).mono ?_;rintro e aQ ⟨mH,bb⟩;obtain⟨g,S,q,rfl,aE⟩:=cI.out _ mH;have b3:=I aE;have eN:=I (chain cQ.out bb (by omega));clear mH aE bb;go_wp2;go_ret;exact⟨⟨q,rfl,b3.out⟩,eN.out.alloc eN.out.size _⟩
 by_cases kt:k=5
 ·subst kt;by_cases ad:b=0;case neg=>
   have hs:(b != 0)=ai:=by rw[kR];exact ad
   have bZ:=I (sV.out (.inl ad));clear ad;go_enter jJ,jI;go_wp2;go_ret;exact⟨bZ.out,cQ.out⟩
  subst ad;by_cases aB:n=0;case neg=>
   have zW:(n != 0)=ai:=by rw[kR];exact aB
   have bZ:=I (sV.out (.inr (.inr (.inr ⟨rfl,aB⟩))));clear aB;go_enter jJ,jI;go_wp2;go_ret;exact⟨bZ.out,cQ.out⟩
  subst aB;have cI:aj (∀e,w3 5 0 l e→∃g s q,e=.returned (.tuple #[.agg #[.bool g,.string s],.bool q])∧(q=ai↔∃A,yV 5 0 0 l 0 A)):=I (fun e h=>UB h (fun h=>by omega) (fun _=>⟨rfl,rfl⟩));go_enter jJ,jI;go_wp2_with fail;refine (ll.out _).mono ?_;rintro e aQ ⟨mH,bb⟩;obtain⟨g,S,q,rfl,aE⟩:=cI.out _ mH;have b3:=I aE;have eN:=I (chain cQ.out bb (by omega));clear mH aE bb;go_wp2;go_ret;exact⟨⟨q,rfl,b3.out⟩,eN.out.alloc eN.out.size _⟩
 have bZ:=I (sV.out (.inr (.inl ⟨ss,kt⟩)));have cI:aj (∀e,w3 k n l e→∃g s q,e=.returned (.tuple #[.agg #[.bool g,.string s],.bool q])∧(q=ai↔∃A,yV k n b l 0 A)):=I (fun e h=>UB h (fun h=>absurd h ss) (fun h=>absurd h kt));clear sV mr;by_cases DP:k=6
 ·subst DP;clear ss kt;by_cases aB:n=0;case neg=>
   have zW:(n != 0)=ai:=by rw[kR];exact aB
   clear aB;go_enter jJ,jI;go_wp2;go_ret;exact⟨bZ.out,cQ.out⟩
  subst aB;cases jq;case false=>
   go_enter jJ,jI;go_wp2;go_ret;exact⟨bZ.out,cQ.out⟩
  case true=>
   go_enter jJ,jI;go_wp2_with fail;refine (ll.out _).mono ?_;rintro e aQ ⟨mH,bb⟩;obtain⟨g,S,q,rfl,aE⟩:=cI.out _ mH;have b3:=I aE;have eN:=I (chain cQ.out bb (by omega));clear mH aE bb;go_wp2;go_ret;exact⟨⟨q,rfl,b3.out⟩,eN.out.alloc eN.out.size _⟩
 by_cases HY:k=7
 ·subst HY;clear ss kt DP;by_cases ad:b=0;case neg=>
   have hs:(b != 0)=ai:=by rw[kR];exact ad
   clear ad;go_enter jJ,jI;go_wp2;go_ret;exact⟨bZ.out,cQ.out⟩
  subst ad;cases jq;case false=>
   go_enter jJ,jI;go_wp2;go_ret;exact⟨bZ.out,cQ.out⟩
  case true=>
   go_enter jJ,jI;go_wp2_with fail;refine (ll.out _).mono ?_;rintro e aQ ⟨mH,bb⟩;obtain⟨g,S,q,rfl,aE⟩:=cI.out _ mH;have b3:=I aE;have eN:=I (chain cQ.out bb (by omega));clear mH aE bb;go_wp2;go_ret;exact⟨⟨q,rfl,b3.out⟩,eN.out.alloc eN.out.size _⟩
 by_cases DQ:k=8
 ·subst DQ;clear ss kt DP HY;by_cases ad:b=0;case neg=>
   have hs:(b != 0)=ai:=by rw[kR];exact ad
   clear ad;go_enter jJ,jI;go_wp2;go_ret;exact⟨bZ.out,cQ.out⟩
  subst ad;by_cases aB:n=0;case neg=>
   have zW:(n != 0)=ai:=by rw[kR];exact aB
   clear aB;go_enter jJ,jI;go_wp2;go_ret;exact⟨bZ.out,cQ.out⟩
  subst aB;go_enter jJ,jI;go_wp2_with fail;refine (ll.out _).mono ?_;rintro e aQ ⟨mH,bb⟩;obtain⟨g,S,q,rfl,aE⟩:=cI.out _ mH;have b3:=I aE;have eN:=I (chain cQ.out bb (by omega));clear mH aE bb;go_wp2;go_ret;exact⟨⟨q,rfl,b3.out⟩,eN.out.alloc eN.out.size _⟩
 by_cases MC:k=9
 ·subst MC;clear ss kt DP HY DQ;by_cases ad:b=0;case neg=>
   have hs:(b != 0)=ai:=by rw[kR];exact ad
   clear ad;go_enter jJ,jI;go_wp2;go_ret;exact⟨bZ.out,cQ.out⟩
  subst ad;by_cases aB:n=0;case neg=>
   have zW:(n != 0)=ai:=by rw[kR];exact aB
   clear aB;go_enter jJ,jI;go_wp2;go_ret;exact⟨bZ.out,cQ.out⟩
  subst aB;go_enter jJ,jI;go_wp2_with fail;refine (ll.out _).mono ?_;rintro e aQ ⟨mH,bb⟩;obtain⟨g,S,q,rfl,aE⟩:=cI.out _ mH;have b3:=I aE;have eN:=I (chain cQ.out bb (by omega));clear mH aE bb;go_wp2;go_ret;exact⟨⟨q,rfl,b3.out⟩,eN.out.alloc eN.out.size _⟩
 have ayW:(k != 4)=ai:=by rw[kR];exact ss
 have adr:(k != 5)=ai:=by rw[kR];exact kt
 have ayX:(k != 6)=ai:=by rw[kR];exact DP
 have ayY:(k != 7)=ai:=by rw[kR];exact HY
 have ayZ:(k != 8)=ai:=by rw[kR];exact DQ
 have ay0:(k != 9)=ai:=by rw[kR];exact MC
 clear ss kt DP HY DQ MC;by_cases ad:b=0;case neg=>
  have hs:(b != 0)=ai:=by rw[kR];exact ad
  clear ad;go_enter jJ,jI;go_wp2;go_ret;exact⟨bZ.out,cQ.out⟩
 subst ad;by_cases aB:n=0;case neg=>
  have zW:(n != 0)=ai:=by rw[kR];exact aB
  clear aB;go_enter jJ,jI;go_wp2;go_ret;exact⟨bZ.out,cQ.out⟩
 subst aB;cases jq;case false=>
  go_enter jJ,jI;go_wp2;go_ret;exact⟨bZ.out,cQ.out⟩
 case true=>
  go_enter jJ,jI;go_wp2_with fail;refine (ll.out _).mono ?_;rintro e aQ ⟨mH,bb⟩;obtain⟨g,S,q,rfl,aE⟩:=cI.out _ mH;have b3:=I aE;have eN:=I (chain cQ.out bb (by omega));clear mH aE bb;go_wp2;go_ret;exact⟨⟨q,rfl,b3.out⟩,eN.out.alloc eN.out.size _⟩
theorem aqz (k n b:Int) (t:ByteArray) (cx:Option ho) (dp ct:Nat) (w:af) :
 aq ak 15 #[bw k n b t (.slice cx dp ct),.int .u8 83] w fun e w'=>e=.returned (.bool (au (dp=0∧(k=6∨b=0)∧(k=4∨k=7∨n=0)∧(k=5∨k=8∨k=9∨t.size=0)∧k=8∧t.size≤65536)))∧ah w.heap.size w w':=by
 unfold bw;obtain⟨ag,a6⟩:∃ag,w.alloc (.cells #[.int .u8 k,.int .i64 n,.int .u64 b,.string t,.slice cx dp ct] 28)=ag:=⟨_,rfl⟩;have cD:aj (bk ag w.heap.size (.int .u8 k) (.int .i64 n) (.int .u64 b) (.string t) (.slice cx dp ct)):=I (by rw[←a6];exact bk.new _ _ _ _ _ _);have cQ:aj (ah w.heap.size w ag):=I (by rw[←a6];exact (aK _ _).alloc (aC _) _);obtain⟨c0,c1,c2,c3,c4,_,_,_,_,_⟩:=cD.out.cells;have r0:=MD t;obtain⟨R,bS⟩:∃R,au (dp=0∧(k=6∨b=0)∧(k=4∨k=7∨n=0)∧(k=5∨k=8∨k=9∨t.size=0)∧k=8∧t.size≤65536)=R:=⟨_,rfl⟩;have bG:=I bS;rw[bS];clear bS;by_cases h6:t.size=0;case' pos=>rw[bE h6] at r0
 case' neg=>rw[bx h6] at r0
 all_goals
  have qT:=I h6;clear h6;go_enter jJ,jI;go_wp2_with fail;all_goals
   go_ret;refine⟨eS (fun z=>Ending.returned (Value.bool z)) ?_,cQ.out⟩;rw[←bG.out];have h6:=qT.out;symm;first
   | (refine bx ?_;omega)
   | (refine bE ?_;omega)
   | (refine decide_eq_decide.2 ?_;omega)
theorem aqA (k n b:Int) (t:ByteArray) (cx:Option ho) (dp ct:Nat) (w:af) :
 aq ak 15 #[bw k n b t (.slice cx dp ct),.int .u8 89] w fun e w'=>e=.returned (.bool (au (dp=0∧(k=6∨b=0)∧(k=4∨k=7∨n=0)∧(k=5∨k=8∨k=9∨t.size=0)∧k=9∧t.size≤65536)))∧ah w.heap.size w w':=by
 unfold bw;obtain⟨ag,a6⟩:∃ag,w.alloc (.cells #[.int .u8 k,.int .i64 n,.int .u64 b,.string t,.slice cx dp ct] 28)=ag:=⟨_,rfl⟩;have cD:aj (bk ag w.heap.size (.int .u8 k) (.int .i64 n) (.int .u64 b) (.string t) (.slice cx dp ct)):=I (by rw[←a6];exact bk.new _ _ _ _ _ _);have cQ:aj (ah w.heap.size w ag):=I (by rw[←a6];exact (aK _ _).alloc (aC _) _);obtain⟨c0,c1,c2,c3,c4,_,_,_,_,_⟩:=cD.out.cells;have r0:=MD t;obtain⟨R,bS⟩:∃R,au (dp=0∧(k=6∨b=0)∧(k=4∨k=7∨n=0)∧(k=5∨k=8∨k=9∨t.size=0)∧k=9∧t.size≤65536)=R:=⟨_,rfl⟩;have bG:=I bS;rw[bS];clear bS;by_cases h6:t.size=0;case' pos=>rw[bE h6] at r0
 case' neg=>rw[bx h6] at r0
 all_goals
  have qT:=I h6;clear h6;go_enter jJ,jI;go_wp2_with fail;all_goals
   go_ret;refine⟨eS (fun z=>Ending.returned (Value.bool z)) ?_,cQ.out⟩;rw[←bG.out];have h6:=qT.out;symm;first
   | (refine bx ?_;omega)
   | (refine bE ?_;omega)
   | (refine decide_eq_decide.2 ?_;omega)
theorem avI (k n b:Int) (t:ByteArray) (cx:Option ho) (dp ct:Nat) (w:af) :
 aq ak 15 #[bw k n b t (.slice cx dp ct),.int .u8 70] w fun e w'=>e=.returned (.bool (au (dp=0∧(k=6∨b=0)∧(k=4∨k=7∨n=0)∧(k=5∨k=8∨k=9∨t.size=0)∧k=6)))∧ah w.heap.size w w':=by
 unfold bw;obtain⟨ag,a6⟩:∃ag,w.alloc (.cells #[.int .u8 k,.int .i64 n,.int .u64 b,.string t,.slice cx dp ct] 28)=ag:=⟨_,rfl⟩;have cD:aj (bk ag w.heap.size (.int .u8 k) (.int .i64 n) (.int .u64 b) (.string t) (.slice cx dp ct)):=I (by rw[←a6];exact bk.new _ _ _ _ _ _);have cQ:aj (ah w.heap.size w ag):=I (by rw[←a6];exact (aK _ _).alloc (aC _) _);obtain⟨c0,c1,c2,c3,c4,_,_,_,_,_⟩:=cD.out.cells;have r0:=MD t;obtain⟨R,bS⟩:∃R,au (dp=0∧(k=6∨b=0)∧(k=4∨k=7∨n=0)∧(k=5∨k=8∨k=9∨t.size=0)∧k=6)=R:=⟨_,rfl⟩;have bG:=I bS;rw[bS];clear bS;by_cases h6:t.size=0;case' pos=>rw[bE h6] at r0
 case' neg=>rw[bx h6] at r0
 all_goals
  have qT:=I h6;clear h6;go_enter jJ,jI;go_wp2_with fail;all_goals
   go_ret;refine⟨eS (fun z=>Ending.returned (Value.bool z)) ?_,cQ.out⟩;rw[←bG.out];have h6:=qT.out;symm;first
   | (refine bx ?_;omega)
   | (refine bE ?_;omega)
   | (refine decide_eq_decide.2 ?_;omega)
theorem avJ (k n b:Int) (t:ByteArray) (cx:Option ho) (dp ct:Nat) (w:af) :
 aq ak 15 #[bw k n b t (.slice cx dp ct),.int .u8 67] w fun e w'=>e=.returned (.bool (au (dp=0∧(k=6∨b=0)∧(k=4∨k=7∨n=0)∧(k=5∨k=8∨k=9∨t.size=0)∧k=7∧0≤n∧n≤2097151)))∧ah w.heap.size w w':=by
 unfold bw;obtain⟨ag,a6⟩:∃ag,w.alloc (.cells #[.int .u8 k,.int .i64 n,.int .u64 b,.string t,.slice cx dp ct] 28)=ag:=⟨_,rfl⟩;have cD:aj (bk ag w.heap.size (.int .u8 k) (.int .i64 n) (.int .u64 b) (.string t) (.slice cx dp ct)):=I (by rw[←a6];exact bk.new _ _ _ _ _ _);have cQ:aj (ah w.heap.size w ag):=I (by rw[←a6];exact (aK _ _).alloc (aC _) _);obtain⟨c0,c1,c2,c3,c4,_,_,_,_,_⟩:=cD.out.cells;have r0:=MD t;obtain⟨R,bS⟩:∃R,au (dp=0∧(k=6∨b=0)∧(k=4∨k=7∨n=0)∧(k=5∨k=8∨k=9∨t.size=0)∧k=7∧0≤n∧n≤2097151)=R:=⟨_,rfl⟩;have bG:=I bS;rw[bS];clear bS;by_cases h6:t.size=0;case' pos=>rw[bE h6] at r0
 case' neg=>rw[bx h6] at r0
 all_goals
  have qT:=I h6;clear h6;go_enter jJ,jI;go_wp2_with fail;all_goals
   go_ret;refine⟨eS (fun z=>Ending.returned (Value.bool z)) ?_,cQ.out⟩;rw[←bG.out];have h6:=qT.out;symm;first
   | (refine bx ?_;omega)
   | (refine bE ?_;omega)
   | (refine decide_eq_decide.2 ?_;omega)
theorem apM (x y:bB) (r:Int) (v:aw) (w:af) (h:e2 w v [x,y]) (T2:-10000≤y.n) (zY:y.n≤10000) (aE:∀W,aq ak 97 #[.int .u64 x.b,.int .i64 y.n] W fun e w'=>e=.returned (.int .u64 r)∧W=w') :
 aq ak 96 #[v] w (ek w (bw 6 0 r ⟨#[]⟩ (.slice J 0 0)) ai):=by
 obtain⟨ag,a6⟩:∃ag,w.alloc (.cells #[.int .u8 0,.int .i64 0,.int .u64 0,.string ⟨#[]⟩,.slice J 0 0] 28)=ag:=⟨_,rfl⟩;have aO:aj (bk ag w.heap.size (.int .u8 0) (.int .i64 0) (.int .u64 0) (.string ⟨#[]⟩) (.slice J 0 0)):=I (by rw[←a6];exact bk.new _ _ _ _ _ _);have ay:aj (ah w.heap.size w ag):=I (by rw[←a6];exact (aK _ _).alloc (aC _) _);obtain⟨al,gL,rfl,br,bT⟩:=h;have an:∀(i:Nat) (q:bB),[x,y][i]? = U q→∀(j:Nat) (u:aw),q.cells[j]? = U u→ag.cell? ⟨al,i*7+j,J⟩=U u:=fun i q aE j u hu=>by rw[ay.out.cell (p:=⟨al,i*7+j,J⟩) br];exact bT i q aE j u hu
 have aY:=cv br ay.out.size;obtain⟨c0,c1,c2,c3,c4,f0,f1,f2,f3,f4⟩:=aO.out.cells;have Dz:ag.cell? ⟨al,2,J⟩=_:=an 0 _ rfl 2 _ rfl;have km:ag.cell? ⟨al,8,J⟩=_:=an 1 _ rfl 1 _ rfl;clear an bT;simp only[ch,du] at *;have d1:au (y.n < -10000)=ab:=bx (by omega);have d2:au (10000<y.n)=ab:=bx (by omega);have cR:=I (fun W=>DA r 0 W);unfold bw at cR;have b3:=I aE;clear aE;have aN:aj (∀W,ah ag.heap.size ag W→W.cell? ⟨al,2,J⟩=U (.int .u64 x.b)∧W.cell? ⟨al,8,J⟩=U (.int .i64 y.n)):=I (fun W ad=>⟨by rw[ad.cell (p:=⟨al,2,J⟩) aY];exact Dz,by rw[ad.cell (p:=⟨al,8,J⟩) aY];exact km⟩);have dh:∀(W:af) (q i:Nat) (u a b c d e:aw),q<w.heap.size→W.cell? ⟨q,i,J⟩=U u→(cC W w.heap.size a b c d e).cell? ⟨q,i,J⟩=U u:=fun W q i u a b c d e aE hu=>by
  unfold cC;rw[b7 _ _ _ _ (by intro z;injection z with z;omega),b7 _ _ _ _ (by intro z;injection z with z;omega),b7 _ _ _ _ (by intro z;injection z with z;omega),b7 _ _ _ _ (by intro z;injection z with z;omega),b7 _ _ _ _ (by intro z;injection z with z;omega)];exact hu
 have e3:aj (∀W,ah ag.heap.size ag W→∀a b c d e,(cC W w.heap.size a b c d e).cell? ⟨al,2,J⟩=U (.int .u64 x.b)∧(cC W w.heap.size a b c d e).cell? ⟨al,8,J⟩=U (.int .i64 y.n)):=I (fun W ad a b c d e=>⟨dh W al 2 _ a b c d e br (aN.out W ad).1,dh W al 8 _ a b c d e br (aN.out W ad).2⟩);clear dh;unfold cC at e3;have cU:=I (show ah ag.heap.size ag ag.drew from (aK _ ag).drew);go_enter JL,PG;go_wp2;go_region_held3 (fun W=>W.cell? ⟨al,2,J⟩=U (.int .u64 x.b)∧W.cell? ⟨al,8,J⟩=U (.int .i64 y.n)) (first | with_reducible exact⟨Dz,km⟩ | with_reducible exact aN.out _ cU.out | with_reducible exact aN.out _ bg | with_reducible exact e3.out _ bg _ _ _ _ _) (first
  | (go_at_call 97;(with_reducible refine (b3.out _).mono ?_);rintro e aQ ⟨rfl,rfl⟩)
  | (go_at_call 46;(with_reducible refine (cR.out _).mono ?_);rintro e aP ⟨rfl,j7⟩;have bg:ah ag.heap.size ag aP:=(cU.out).trans j7;clear j7;have c8:=I (aO.out.below bg);have bL:=I (ay.out.trans (bg.mono (by have:=aO.out.lt;omega)));obtain⟨d0,d1,d2,d3,d4,ck,aH,aT,b8,eb⟩:=c8.out.cells))
 all_goals
  go_wp2_with fail;obtain⟨aM,aG,bj,bq,bA,_,_,_,_,_⟩:=(c8.out.set (.int .u8 6) (.int .i64 0) (.int .u64 r) (.string ⟨#[]⟩) (.slice J 0 0)).cells;exact bI (v:=.tuple #[.agg #[.int .u8 6,.int .i64 0,.int .u64 r,.string ⟨#[]⟩,.slice J 0 0],.bool ai]) (by simp[bK,OL,go_sem,aM,aG,bj,bq,bA]) rfl ⟨rfl,dG bL.out (aC _) _ _ _ _ _⟩
theorem apN (f cu:Nat) (ed:Nat) (x y:bB) (v:aw) (w:af) (h:e2 w v [x,y]) (yS:w.cell? ⟨ed,0,J⟩=U (.int .i64 50)) (A2:ed<w.heap.size) (uh:w.cell? ⟨cu,0,J⟩=U (.func (.func f) #[] #[])) (vq:cu<w.heap.size) (jV:∀args W,(callFunc f args).run ak W=.ok (.enter f args) W) (aX:y.b*2%18446744073709551616=0) :
 aq ak 87 #[v,.pointer (U ⟨ed,0,J⟩),.pointer (U ⟨cu,0,J⟩)] w (ek w iA ab):=by
 unfold ek iA bw at *;obtain⟨ag,a6⟩:∃ag,w.alloc (.cells #[.int .u8 0,.int .i64 0,.int .u64 0,.string ⟨#[]⟩,.slice J 0 0] 28)=ag:=⟨_,rfl⟩;have aO:aj (bk ag w.heap.size (.int .u8 0) (.int .i64 0) (.int .u64 0) (.string ⟨#[]⟩) (.slice J 0 0)):=I (by rw[←a6];exact bk.new _ _ _ _ _ _);have ay:aj (ah w.heap.size w ag):=I (by rw[←a6];exact (aK _ _).alloc (aC _) _);have dH:w.heap.size+1≤ag.heap.size:=by rw[←a6];simp
 obtain⟨al,gL,rfl,br,bT⟩:=h;have h4:ag.cell? ⟨ed,0,J⟩=U (.int .i64 50):=by rw[ay.out.cell (p:=⟨ed,0,J⟩) A2];exact yS
 have fx:ag.cell? ⟨cu,0,J⟩=U (.func (.func f) #[] #[]):=by rw[ay.out.cell (p:=⟨cu,0,J⟩) vq];exact uh
 have fh:ag.cell? ⟨al,2,J⟩=U (.int .u64 x.b):=by rw[ay.out.cell (p:=⟨al,2,J⟩) br];exact bT 0 x rfl 2 _ rfl
 have qm:ag.cell? ⟨al,9,J⟩=U (.int .u64 y.b):=by rw[ay.out.cell (p:=⟨al,9,J⟩) br];exact bT 1 y rfl 2 _ rfl
 simp only[ch,du] at *;clear bT uh yS;have T':(IntKind.u64.wrap (y.b*2)==0)=ai:=by rw[gy,ha];omega
 obtain⟨c0,c1,c2,c3,c4,f0,f1,f2,f3,f4⟩:=aO.out.cells;go_enter zF,PE;go_wp2_with fail;obtain⟨aM,aG,bj,bq,bA,_,_,_,_,_⟩:=(aO.out.set (.int .u8 0) (.int .i64 0) (.int .u64 0) (.string ⟨#[]⟩) (.slice J 0 0)).cells;exact bI (v:=.tuple #[.agg #[.int .u8 0,.int .i64 0,.int .u64 0,.string ⟨#[]⟩,.slice J 0 0],.bool ab]) (by simp[bK,OJ,go_sem,aM,aG,bj,bq,bA]) rfl ⟨rfl,dG ay.out (aC _) _ _ _ _ _⟩
end Go.Proofs.YtkhphoonnkoipaaGreatDoor
