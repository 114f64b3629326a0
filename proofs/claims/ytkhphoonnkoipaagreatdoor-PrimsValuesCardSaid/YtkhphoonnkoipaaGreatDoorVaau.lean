/- Lemmas. -/
import Derived.Test.YtkhphoonnkoipaaGreatDoorVaas
import Derived.Test.YtkhphoonnkoipaaGreatDoorVaap
set_option linter.all false
set_option maxHeartbeats 4000000
set_option maxRecDepth 100000
open Go.Proofs.Tryz Go.RowKit Go.Lib
open Option renaming none→J,some→U
open Bool renaming true→ai,false→ab
open Decidable renaming decide→au
open Go renaming World→af,Calls→aq,results→bK
open Go.RowKit renaming Below→ah,Hid→aj
open Go.Proofs.Tryz renaming prog→ak
namespace Go.Proofs.YtkhphoonnkoipaaGreatDoor
theorem alU (n:Int):cy (!decide (n<0)) n.natAbs = -n:=by
 unfold cy;by_cases h:n<0
 ·rw[bE h];simp;omega
 ·rw[bx h];simp;omega
theorem aaZ {A B:Int} (be:o.bO A) (az:o.bO B) {V:Nat} {neg:Bool} (h:cy neg V=A+B):(o.wd V).length≤10000:=by
 have cA:=CO h;have aa:V<256^4096+256^4096:=by
  unfold o.bO at be az;generalize 256^4096=P at *;omega
 refine cp (o.An (k:=1025) (cv aa ?_)) (by decide);rw[←o.Gd 1025,show 4*1025=4096+4 by decide,cm 256 4096 4];generalize 256^4096=P;omega
theorem o.bO.neg {n:Int} (h:o.bO n):o.bO (-n):=by unfold o.bO at *;rwa[Int.natAbs_neg]
theorem sO {n:Int} (h:o.bO n):(o.wd n.natAbs).length≤2500:=cp (o.rF _ h) (by decide)
theorem aa0 (A B:Int) (w:af) (be:o.bO A) (az:o.bO B) :
 aq ak 19 #[bz A,bz B] w (hX w (A+B)):=by
 have et:=I (fun W=>yg A B W be az);have sB:aj (∀W c7 gn,b2 W c7 (o.wd A.natAbs)→b2 W gn (o.wd B.natAbs)→aq ak 58 #[.agg #[c7,.bool (au (A<0))],.agg #[gn,.bool (au (B<0))]] W (F' W (A+B))):=I (fun W c7 gn aa ae=>by
  have:=KJ c7 gn (au (A<0)) (au (B<0)) _ _ W aa ae (sO be) (sO az);rw[Aj,Aj] at this;exact this)
 have l2:aj (∀W v neg V,cy neg V=A+B→b2 W v (o.wd V)→aq ak 57 #[.agg #[v,.bool neg]] W (hX W (A+B))):=I (fun W v neg V aa ae=>Ao v neg V _ W aa ae (aaZ be az aa));obtain⟨bp,fi⟩:∃bp,au (A<0)=bp:=⟨_,rfl⟩;obtain⟨bt,gi⟩:∃bt,au (B<0)=bt:=⟨_,rfl⟩;have aS:bz A=.agg #[.bool bp,.string (ax (o.bs A.natAbs))]:=by unfold bz cO;rw[fi]
 have ad:bz B=.agg #[.bool bt,.string (ax (o.bs B.natAbs))]:=by unfold bz cO;rw[gi]
 rw[aS] at et ⊢;rw[ad] at et ⊢;rw[fi] at et sB;rw[gi] at et sB;generalize ax (o.bs A.natAbs)=d' at *;generalize ax (o.bs B.natAbs)=dN at *;generalize A.natAbs=bo at *;generalize B.natAbs=V at *;obtain⟨hY,hZ,gr,gC⟩:∃f s e,e7 (A+B)=.tuple #[.agg #[.bool f,.string s],.int .i64 e]:=by
  unfold e7;split
  ·exact⟨_,_,_,rfl⟩
  ·exact⟨_,_,_,rfl⟩
 unfold hX at *;rw[gC] at l2 ⊢;generalize A+B=S at *;clear aS ad fi gi be az gC;obtain⟨aZ,bl⟩:∃aZ,((w.alloc (.cells #[.bool bp,.string d'] 46)).alloc (.cells #[.bool bt,.string dN] 46)).alloc (.cells #[.bool ab,.string ⟨#[]⟩] 46)=aZ:=⟨_,rfl⟩;have cY:aj (aI aZ w.heap.size 46 (.bool bp) (.string d')):=I (by rw[←bl];exact ((aI.new _ _ _ _).alloc _).alloc _);have dt:aj (aI aZ (w.heap.size+1) 46 (.bool bt) (.string dN)):=I (by
  rw[←bl];have:=(aI.new (w.alloc (.cells #[.bool bp,.string d'] 46)) 46 (.bool bt) (.string dN)).alloc (.cells #[.bool ab,.string ⟨#[]⟩] 46);simpa using this)
 have eI:aj (aI aZ (w.heap.size+2) 46 (.bool ab) (.string ⟨#[]⟩)):=I (by
  rw[←bl];have:=aI.new ((w.alloc (.cells #[.bool bp,.string d'] 46)).alloc (.cells #[.bool bt,.string dN] 46)) 46 (.bool ab) (.string ⟨#[]⟩);simpa using this)
 have bu:aj (ah w.heap.size w aZ):=I (by rw[←bl];exact (((aK _ _).alloc (aC _) _).alloc (by simp) _).alloc (by simp;omega) _);have dL:w.heap.size+3≤aZ.heap.size:=by rw[←bl];simp
 obtain⟨cn,bY,_,_⟩:=cY.out.cells;obtain⟨b0,bD,_,_⟩:=dt.out.cells;go_enter func19,ntmps19;go_wp2_with fail;refine (et.out _).mono ?_;rintro e aQ ⟨c7,gn,rfl,hv,hy,bb⟩;obtain⟨ic,ac,rfl⟩:=hv.form;obtain⟨gl,cV,rfl⟩:=hy.form;generalize (o.wd bo).length=gx at *;generalize (o.wd V).length=gX at *;obtain⟨bh,dn⟩:∃bh,(aQ.alloc (.cells #[.slice ic gx ac,.bool bp] 85)).alloc (.cells #[.slice gl gX cV,.bool bt] 85)=bh:=⟨_,rfl⟩;have bf:ah aQ.heap.size aQ bh:=by rw[←dn];exact ((aK _ _).alloc (aC _) _).alloc (by simp) _
 have iy:w.heap.size+3≤aQ.heap.size:=cp dL bb.size;have dc:=I (chain (chain bu.out bb (by omega)) bf (by omega));have vd:=I ((eI.out.below bb).below bf);have sI:=I (hv.below bf);have rQ:=I (hy.below bf);have k6:aj (aI bh aQ.heap.size 85 (.slice ic gx ac) (.bool bp)):=I (by rw[←dn];exact (aI.new _ _ _ _).alloc _);have k5:aj (aI bh (aQ.heap.size+1) 85 (.slice gl gX cV) (.bool bt)):=I (by
  rw[←dn];have:=aI.new (aQ.alloc (.cells #[.slice ic gx ac,.bool bp] 85)) 85 (.slice gl gX cV) (.bool bt);simpa using this)
 have pa:w.heap.size+3≤bh.heap.size:=cp iy bf.size;clear cn bY b0 bD cY dt eI bu dL bb hv hy bl bf;obtain⟨cn,bY,_,_⟩:=k6.out.cells;obtain⟨b0,bD,_,_⟩:=k5.out.cells;go_wp2_with fail;refine (sB.out _ _ _ (by exact sI.out) (by exact rQ.out)).mono ?_;rintro e fb ⟨gI,aa1,aa2,rfl,wS,jF,gY⟩;obtain⟨Gl,yx,rfl⟩:=wS.form;have l0:=I (chain dc.out gY (by omega));have SS:=I (vd.out.below gY);have K9:w.heap.size+3≤fb.heap.size:=cp pa gY.size;clear cn bY b0 bD gY dn;go_wp2_with fail;refine (l2.out _ _ _ _ jF wS).mono ?_;rintro e hM ⟨rfl,fS⟩;have ku:=I (chain l0.out fS (by omega));have qV:=I (SS.out.below fS);obtain⟨cl,bH,f0,f1⟩:=qV.out.cells;clear fS;go_wp2_with fail;have ht:=qV.out.set (.bool hY) (.string hZ);obtain⟨aM,aG,_,_⟩:=ht.cells;refine bI (v:=.tuple #[.agg #[.bool hY,.string hZ],.int .i64 gr]) (by simp[bK,results19,go_sem,aM,aG]) rfl ⟨rfl,fG ku.out (by omega) _ _⟩
theorem aa3 (A B:Int) (w:af) (be:o.bO A) (az:o.bO B) :
 aq ak 20 #[bz A,bz B] w (hX w (A-B)):=by
 have et:=I (fun W=>yg A B W be az);have sB:aj (∀W c7 gn,b2 W c7 (o.wd A.natAbs)→b2 W gn (o.wd B.natAbs)→aq ak 58 #[.agg #[c7,.bool (au (A<0))],.agg #[gn,.bool (!decide (B<0))]] W (F' W (A-B))):=I (fun W c7 gn aa ae=>by
  have:=KJ c7 gn (au (A<0)) (!decide (B<0)) _ _ W aa ae (sO be) (sO az);rw[Aj,alU] at this;rw[NU];exact this)
 have l2:aj (∀W v neg V,cy neg V=A-B→b2 W v (o.wd V)→aq ak 57 #[.agg #[v,.bool neg]] W (hX W (A-B))):=I (fun W v neg V aa ae=>Ao v neg V _ W aa ae (aaZ be az.neg (by rw[aa,NU])));obtain⟨bp,fi⟩:∃bp,au (A<0)=bp:=⟨_,rfl⟩;obtain⟨bt,gi⟩:∃bt,au (B<0)=bt:=⟨_,rfl⟩;have aS:bz A=.agg #[.bool bp,.string (ax (o.bs A.natAbs))]:=by unfold bz cO;rw[fi]
 have ad:bz B=.agg #[.bool bt,.string (ax (o.bs B.natAbs))]:=by unfold bz cO;rw[gi]
 rw[aS] at et ⊢;rw[ad] at et ⊢;rw[fi] at et sB;rw[gi] at et sB;generalize ax (o.bs A.natAbs)=d' at *;generalize ax (o.bs B.natAbs)=dN at *;generalize A.natAbs=bo at *;generalize B.natAbs=V at *;obtain⟨hY,hZ,gr,gC⟩:∃f s e,e7 (A-B)=.tuple #[.agg #[.bool f,.string s],.int .i64 e]:=by
  unfold e7;split
  ·exact⟨_,_,_,rfl⟩
  ·exact⟨_,_,_,rfl⟩
 unfold hX at *;rw[gC] at l2 ⊢;generalize A-B=S at *;clear aS ad fi gi be az gC;obtain⟨aZ,bl⟩:∃aZ,((w.alloc (.cells #[.bool bp,.string d'] 46)).alloc (.cells #[.bool bt,.string dN] 46)).alloc (.cells #[.bool ab,.string ⟨#[]⟩] 46)=aZ:=⟨_,rfl⟩;have cY:aj (aI aZ w.heap.size 46 (.bool bp) (.string d')):=I (by rw[←bl];exact ((aI.new _ _ _ _).alloc _).alloc _);have dt:aj (aI aZ (w.heap.size+1) 46 (.bool bt) (.string dN)):=I (by
  rw[←bl];have:=(aI.new (w.alloc (.cells #[.bool bp,.string d'] 46)) 46 (.bool bt) (.string dN)).alloc (.cells #[.bool ab,.string ⟨#[]⟩] 46);simpa using this)
 have eI:aj (aI aZ (w.heap.size+2) 46 (.bool ab) (.string ⟨#[]⟩)):=I (by
  rw[←bl];have:=aI.new ((w.alloc (.cells #[.bool bp,.string d'] 46)).alloc (.cells #[.bool bt,.string dN] 46)) 46 (.bool ab) (.string ⟨#[]⟩);simpa using this)
 have bu:aj (ah w.heap.size w aZ):=I (by rw[←bl];exact (((aK _ _).alloc (aC _) _).alloc (by simp) _).alloc (by simp;omega) _);have dL:w.heap.size+3≤aZ.heap.size:=by rw[←bl];simp
 obtain⟨cn,bY,_,_⟩:=cY.out.cells;obtain⟨b0,bD,_,_⟩:=dt.out.cells;go_enter func20,ntmps20;go_wp2_with fail;refine (et.out _).mono ?_;rintro e aQ ⟨c7,gn,rfl,hv,hy,bb⟩;obtain⟨ic,ac,rfl⟩:=hv.form;obtain⟨gl,cV,rfl⟩:=hy.form;generalize (o.wd bo).length=gx at *;generalize (o.wd V).length=gX at *;obtain⟨bh,dn⟩:∃bh,(aQ.alloc (.cells #[.slice ic gx ac,.bool bp] 85)).alloc (.cells #[.slice gl gX cV,.bool bt] 85)=bh:=⟨_,rfl⟩;have bf:ah aQ.heap.size aQ bh:=by rw[←dn];exact ((aK _ _).alloc (aC _) _).alloc (by simp) _
 have iy:w.heap.size+3≤aQ.heap.size:=cp dL bb.size;have dc:=I (chain (chain bu.out bb (by omega)) bf (by omega));have vd:=I ((eI.out.below bb).below bf);have sI:=I (hv.below bf);have rQ:=I (hy.below bf);have k6:aj (aI bh aQ.heap.size 85 (.slice ic gx ac) (.bool bp)):=I (by rw[←dn];exact (aI.new _ _ _ _).alloc _);have k5:aj (aI bh (aQ.heap.size+1) 85 (.slice gl gX cV) (.bool bt)):=I (by
  rw[←dn];have:=aI.new (aQ.alloc (.cells #[.slice ic gx ac,.bool bp] 85)) 85 (.slice gl gX cV) (.bool bt);simpa using this)
 have pa:w.heap.size+3≤bh.heap.size:=cp iy bf.size;clear cn bY b0 bD cY dt eI bu dL bb hv hy bl bf;obtain⟨gj,hN⟩:∃gj,bh.setCell ⟨aQ.heap.size+1,1,J⟩ (.bool (!bt))=gj:=⟨_,rfl⟩;obtain⟨cn,bY,_,_⟩:=k6.out.cells;obtain⟨b0,bD,g0,g1⟩:=k5.out.cells;have qQ:aj (aI gj aQ.heap.size 85 (.slice ic gx ac) (.bool bp)):=I (by rw[←hN];exact k6.out.other (by omega));have C':aj (aI gj (aQ.heap.size+1) 85 (.slice gl gX cV) (.bool (!bt))):=I (by rw[←hN];exact k5.out.KH _);have alV:aj (b2 gj (.slice ic gx ac) (o.wd bo)):=I (by rw[←hN];exact sI.out.clear k5.out (by simp));have alW:aj (b2 gj (.slice gl gX cV) (o.wd V)):=I (by rw[←hN];exact rQ.out.clear k5.out (by simp));have SU:aj (aI gj (w.heap.size+2) 46 (.bool ab) (.string ⟨#[]⟩)):=I (by rw[←hN];exact vd.out.other (by omega));have gA:aj (ah w.heap.size w gj):=I (by rw[←hN];exact dc.out.setCell (p:=⟨aQ.heap.size+1,1,J⟩) (by show w.heap.size≤aQ.heap.size+1;omega) _);have rE:w.heap.size+3≤gj.heap.size:=by rw[←hN];simpa[World.setCell] using pa
 obtain⟨yD,alX,_,_⟩:=qQ.out.cells;obtain⟨alY,alZ,_,_⟩:=C'.out.cells;go_wp2_with fail;refine (sB.out _ _ _ (by exact alV.out) (by exact alW.out)).mono ?_;rintro e fb ⟨gI,aa1,aa2,rfl,wS,jF,gY⟩;obtain⟨Gl,yx,rfl⟩:=wS.form;have l0:=I (chain gA.out gY (by omega));have SS:=I (SU.out.below gY);have K9:w.heap.size+3≤fb.heap.size:=cp rE gY.size;clear cn bY b0 bD yD alX alY alZ gY dn hN;go_wp2_with fail;refine (l2.out _ _ _ _ jF wS).mono ?_;rintro e hM ⟨rfl,fS⟩;have ku:=I (chain l0.out fS (by omega));have qV:=I (SS.out.below fS);obtain⟨cl,bH,f0,f1⟩:=qV.out.cells;clear fS;go_wp2_with fail;have ht:=qV.out.set (.bool hY) (.string hZ);obtain⟨aM,aG,_,_⟩:=ht.cells;refine bI (v:=.tuple #[.agg #[.bool hY,.string hZ],.int .i64 gr]) (by simp[bK,results20,go_sem,aM,aG]) rfl ⟨rfl,fG ku.out (by omega) _ _⟩
theorem as4 (t:Array Value) (h:t.size=243):∃f:Nat→Value,t=#[f 0,f 1,f 2,f 3,f 4,f 5,f 6,f 7,f 8,f 9,f 10,f 11,f 12,f 13,f 14,f 15,f 16,f 17,f 18,f 19,f 20,f 21,f 22,f 23,f 24,f 25,f 26,f 27,f 28,f 29,f 30,f 31,f 32,f 33,f 34,f 35,f 36,f 37,f 38,f 39,f 40,f 41,f 42,f 43,f 44,f 45,f 46,f 47,f 48,f 49,f 50,f 51,f 52,f 53,f 54,f 55,f 56,f 57,f 58,f 59,f 60,f 61,f 62,f 63,f 64,f 65,f 66,f 67,f 68,f 69,f 70,f 71,f 72,f 73,f 74,f 75,f 76,f 77,f 78,f 79,f 80,f 81,f 82,f 83,f 84,f 85,f 86,f 87,f 88,f 89,f 90,f 91,f 92,f 93,f 94,f 95,f 96,f 97,f 98,f 99,f 100,f 101,f 102,f 103,f 104,f 105,f 106,f 107,f 108,f 109,f 110,f 111,f 112,f 113,f 114,f 115,f 116,f 117,f 118,f 119,f 120,f 121,f 122,f 123,f 124,f 125,f 126,f 127,f 128,f 129,f 130,f 131,f 132,f 133,f 134,f 135,f 136,f 137,f 138,f 139,f 140,f 141,f 142,f 143,f 144,f 145,f 146,f 147,f 148,f 149,f 150,f 151,f 152,f 153,f 154,f 155,f 156,f 157,f 158,f 159,f 160,f 161,f 162,f 163,f 164,f 165,f 166,f 167,f 168,f 169,f 170,f 171,f 172,f 173,f 174,f 175,f 176,f 177,f 178,f 179,f 180,f 181,f 182,f 183,f 184,f 185,f 186,f 187,f 188,f 189,f 190,f 191,f 192,f 193,f 194,f 195,f 196,f 197,f 198,f 199,f 200,f 201,f 202,f 203,f 204,f 205,f 206,f 207,f 208,f 209,f 210,f 211,f 212,f 213,f 214,f 215,f 216,f 217,f 218,f 219,f 220,f 221,f 222,f 223,f 224,f 225,f 226,f 227,f 228,f 229,f 230,f 231,f 232,f 233,f 234,f 235,f 236,f 237,f 238,f 239,f 240,f 241,f 242]:=by
 refine⟨fun i=>t.toList.getD i undef,?_⟩;have aa:t.toList=(List.range t.toList.length).map fun i=>t.toList.getD i undef:=by
  apply s7
  ·simp
  ·intro i aa ae;simp[e5];rw[VW (by simpa using aa)];rfl
 have ao:t.toList.length=243:=by simpa using h
 rw[ao] at aa;have ae:∀f:Nat→Value,(List.range 243).map f=[f 0,f 1,f 2,f 3,f 4,f 5,f 6,f 7,f 8,f 9,f 10,f 11,f 12,f 13,f 14,f 15,f 16,f 17,f 18,f 19,f 20,f 21,f 22,f 23,f 24,f 25,f 26,f 27,f 28,f 29,f 30,f 31,f 32,f 33,f 34,f 35,f 36,f 37,f 38,f 39,f 40,f 41,f 42,f 43,f 44,f 45,f 46,f 47,f 48,f 49,f 50,f 51,f 52,f 53,f 54,f 55,f 56,f 57,f 58,f 59,f 60,f 61,f 62,f 63,f 64,f 65,f 66,f 67,f 68,f 69,f 70,f 71,f 72,f 73,f 74,f 75,f 76,f 77,f 78,f 79,f 80,f 81,f 82,f 83,f 84,f 85,f 86,f 87,f 88,f 89,f 90,f 91,f 92,f 93,f 94,f 95,f 96,f 97,f 98,f 99,f 100,f 101,f 102,f 103,f 104,f 105,f 106,f 107,f 108,f 109,f 110,f 111,f 112,f 113,f 114,f 115,f 116,f 117,f 118,f 119,f 120,f 121,f 122,f 123,f 124,f 125,f 126,f 127,f 128,f 129,f 130,f 131,f 132,f 133,f 134,f 135,f 136,f 137,f 138,f 139,f 140,f 141,f 142,f 143,f 144,f 145,f 146,f 147,f 148,f 149,f 150,f 151,f 152,f 153,f 154,f 155,f 156,f 157,f 158,f 159,f 160,f 161,f 162,f 163,f 164,f 165,f 166,f 167,f 168,f 169,f 170,f 171,f 172,f 173,f 174,f 175,f 176,f 177,f 178,f 179,f 180,f 181,f 182,f 183,f 184,f 185,f 186,f 187,f 188,f 189,f 190,f 191,f 192,f 193,f 194,f 195,f 196,f 197,f 198,f 199,f 200,f 201,f 202,f 203,f 204,f 205,f 206,f 207,f 208,f 209,f 210,f 211,f 212,f 213,f 214,f 215,f 216,f 217,f 218,f 219,f 220,f 221,f 222,f 223,f 224,f 225,f 226,f 227,f 228,f 229,f 230,f 231,f 232,f 233,f 234,f 235,f 236,f 237,f 238,f 239,f 240,f 241,f 242]:=fun _=>rfl;rw[ae] at aa;apply Array.toList_inj.1;exact aa
theorem as5 (a:Addr):a.add 0=a:=by cases a;unfold Addr.add;split<;>simp_all
theorem as6 (P N:Nat) (D:ca) (w:af) (dz:o.iD D N) (h:Has w P D):aq ak 299 #[.pointer (U ⟨P,0,J⟩)] w fun e w'=>(∃M:Nat,e=.returned (.int .u64 (M:Nat))∧M<18446744073709551616)∧w'=w:=by
 by_cases aa:20<D.a8
 ·exact (as0 P D w aa h).mono fun e w' ⟨a,b⟩=>⟨⟨18446744073709551615,a,by decide⟩,b⟩
 ·by_cases ae:D.a8<0
  ·exact (as1 P D w ae h).mono fun e w' ⟨a,b⟩=>⟨⟨0,a,by decide⟩,b⟩
  ·exact (as3 P N D.a8.toNat D w dz (by omega) (by omega) h).mono fun e w' ⟨a,b⟩=>⟨⟨_,a,eW _ (by decide)⟩,b⟩
def as7 (P:Nat) (w:af) (l:Nat) (a:Act) (w':af):Prop:=
 a.defers=[]∧a.tmps.size=243∧a.tmps[0]? = U (.pointer (U ⟨P,0,J⟩))∧a.tmps[1]? = U (.pointer (U ⟨10,0,J⟩))∧ah P w w'∧(∃dJ,w'.cell? ⟨P,802,J⟩=U (.bool dJ))∧
  (l=1∨(l=0∧∃(a7:Bool) (E:Int) (M:Nat),a.tmps[5]? = U (.bool a7)∧a.tmps[6]? = U (.int .i64 E)∧a.tmps[7]? = U (.int .u64 (M:Nat))∧M<18446744073709551616∧((a7=ab∧-1023≤E∧E≤1023)∨(a7=ai∧E=1024))))
def as8 (P:Nat) (cq:af) (e:Ending) (aP:af):Prop:=∃(b:Nat) (a7:Bool),e=.returned (.tuple #[.int .u64 b,.bool a7])∧b<18446744073709551616∧(a7=ab→b%9223372036854775808<9218868437227405312)∧ah P cq aP
theorem as9 (P N:Nat) (D:ca) (w:af) (dz:o.iD D N) (eU:-200000≤D.a8) (fE:D.a8≤200000) (bn:y8 w P) (h:Has w P D) :
 aq ak 285 #[.pointer (U ⟨P,0,J⟩),.pointer (U ⟨10,0,J⟩)] w (as8 P w):=by
 have bc:=I bn;have iH:=I h;have dM:=I dz;have c1:=h.nd;have c2:=h.a8;have FE:=dz.pos;have f1:((D.nd:Int)==0)=ab:=by rw[cH];omega
 have LQ:=bn.info;have LP:=bn.xM;have aeP:=bn.vV;clear bn h;go_enter func285,ntmps285;refine lq (fun K hK=>?_);have cI:=I hK;clear hK;go_wp2_with fail;refine cI.out _ _ ?_;clear cI;refine asX (as7 P w) id ?first ?pass
 case pass=>
  rintro l ⟨as',ata⟩ w' ⟨atb,h6,Td,rr,az,⟨dJ,hz⟩,ao⟩;obtain⟨f,rfl⟩:=as4 as' h6;obtain rfl:ata=[]:=atb;have ck:f 0=_:=hb Td;have aH:f 1=_:=hb rr;have i0:=(bc.out.below az).info;have i1:=(bc.out.below az).xM;have i2:=(bc.out.below az).vV;have ay:=I az;clear Td rr h6 c1 c2 az f1 LQ LP aeP;rcases ao with rfl | ⟨rfl,a7,E,M,dm,ga,iL,dy,ef⟩
  ·refine⟨_,rfl,?_⟩;rw[ck,aH];clear ck aH;go_wp2_with fail;have g1:bits .and .u64 0 4503599627370495=0:=by decide
   have g2:bits .and .i64 2047 2047=2047:=by decide
   have g3:bits .or .u64 0 9218868437227405312=9218868437227405312:=by decide
   have g4:bits .or .u64 9218868437227405312 9223372036854775808=18442240474082181120:=by decide
   go_quiet (fail);go_wp2;go_step3;have bL:=I (below_drewN ay.out nq);have atc:(w'.drewN nq).cell? ⟨10,0,J⟩=U (.int .u64 52):=i0;have atd:(w'.drewN nq).cell? ⟨10,1,J⟩=U (.int .u64 11):=i1;have ate:(w'.drewN nq).cell? ⟨10,2,J⟩=U (.int .i64 (-1023)):=i2;have atf:(w'.drewN nq).cell? ⟨P,802,J⟩=U (.bool dJ):=hz;generalize w'.drewN nq=aP at bL atc atd ate atf ⊢;clear i0 i1 i2 hz ay;cases dJ
   ·go_wp2;go_quiet (fail);go_wp2_with fail;change bodyPost _ _ _ Exit.ret _ _;go_ret2;exact⟨9218868437227405312,ai,rfl,by decide,(fun h=>absurd h (by decide)),below_drewN bL.out _⟩
   ·go_wp2;go_quiet (fail);go_wp2;go_quiet (fail);go_wp2_with fail;change bodyPost _ _ _ Exit.ret _ _;go_ret2;exact⟨18442240474082181120,ai,rfl,by decide,(fun h=>absurd h (by decide)),below_drewN (below_drewN bL.out _) _⟩
  ·have vR:f 5=_:=hb dm;have MF:f 6=_:=hb ga;have Gm:f 7=_:=hb iL;refine⟨_,rfl,?_⟩;rw[ck,aH,vR,MF,Gm];clear ck aH vR MF Gm dm ga iL;obtain⟨F,hF⟩:∃F:Nat,E+1023=(F:Int):=⟨(E+1023).toNat,by rcases ef with h | h<;>omega⟩;have azA:F≤2047:=by rcases ef with h | h<;>omega
   have IA:-1023≤E:=by rcases ef with h | h<;>omega
   have M6:E≤1024:=by rcases ef with h | h<;>omega
   have bZ:=I (show a7=ab→F≤2046 by intro b6;rcases ef with h | h<;>first | omega | (rw[b6] at h;exact absurd h.1 (by decide)));have g1:bits .and .u64 (M:Int) 4503599627370495=((M%4503599627370496:Nat):Int):=J' (k:=52) dy (by decide);have g2:bits .and .i64 (E+1023) 2047=(F:Int):=by
    rw[hF];have:=WG (a:=F) (k:=11) (by omega) (by decide);rw[show F%2^11=F from eF (by omega)] at this;exact this
   have hm:M%4503599627370496<4503599627370496:=eW _ (by decide);generalize M%4503599627370496=m at g1 hm;have g3:IntKind.u64.wrap (F:Int)=(F:Int):=ik _ (by omega);have g4:IntKind.u64.wrap ((F:Int)*4503599627370496)=((F*4503599627370496:Nat):Int):=by rw[show (F:Int)*4503599627370496=((F*4503599627370496:Nat):Int) by rw[Oh];rfl];exact ik _ (by omega)
   obtain⟨b,ad⟩:∃b,F*4503599627370496+m=b:=⟨_,rfl⟩;have g5:bits .or .u64 (m:Int) ((F*4503599627370496:Nat):Int)=(b:Int):=by
    rw[Go.u64_or_nat _ _ (by omega) (by omega),si,←ad];have:=oJ (i:=52) (b:=m) hm F;rw[show F*4503599627370496=2^52*F by rw[dx]];rw[this]
   have IB:=I (show (a7=ab→b<9218868437227405312)∧b<9223372036854775808 by
    refine⟨fun b6=>?_,by omega⟩;have:=bZ.out b6;omega)
   have g6:bits .or .u64 (b:Int) 9223372036854775808=((9223372036854775808+b:Nat):Int):=by
    have aa:=IB.out.2;have ae:=Go.u64_or_nat b 9223372036854775808 (by omega) (by decide);have aJ:=oJ (i:=63) (b:=b) aa 1;rw[fI,show (2:Nat)^63=9223372036854775808 from rfl] at aJ;rw[aJ,si];exact ae
   generalize F*4503599627370496=vE at g4 g5 ad;clear ad hF ef hm;go_wp2;go_quiet (fail);cases dJ
   ·go_wp2_with fail;change bodyPost _ _ _ Exit.ret _ _;go_ret2;exact⟨b,a7,rfl,by have:=IB.out.2;omega,fun b6=>by have:=IB.out.1 b6;omega,below_drewN ay.out _⟩
   ·go_wp2;go_quiet (fail);go_wp2_with fail;change bodyPost _ _ _ Exit.ret _ _;go_ret2;exact⟨9223372036854775808+b,a7,rfl,by have:=IB.out.2;omega,fun b6=>by have:=IB.out.1 b6;omega,below_drewN (below_drewN ay.out _) _⟩
 case first=>
  have hz:w.cell? ⟨P,802,J⟩=U (.bool D.dJ):=iH.out.dJ;have atg:=o.xb dM.out;by_cases jO:310<D.a8
  ·have f2:au (310<D.a8)=ai:=bE jO;go_wp2;go_step3;exact⟨rfl,rfl,rfl,rfl,aK _ _,⟨_,hz⟩,.inl rfl⟩
  have f2:au (310<D.a8)=ab:=bx jO;by_cases kV:D.a8 < -330
  ·have f3:au (D.a8 < -330)=ai:=bE kV;go_wp2;go_step3;exact⟨rfl,rfl,rfl,rfl,aK _ _,⟨_,hz⟩,.inr ⟨rfl,ab,-1023,0,rfl,rfl,rfl,by decide,.inl ⟨rfl,by decide,by decide⟩⟩⟩
  have f3:au (D.a8 < -330)=ab:=bx kV;refine lq (fun K hK=>?_);have cI:=I hK;clear hK;go_wp2_with fail;refine cI.out _ _ ?_;clear cI;refine lq (fun K hK=>?_);have cI:=I hK;clear hK;go_wp2_with fail;refine cI.out _ _ ?_;clear cI;refine lq (fun K hK=>?_);have cI:=I hK;clear hK;go_wp2_with fail;refine cI.out _ _ ?_;clear cI;refine lq (fun K hK=>?_);have cI:=I hK;clear hK;go_wp2_with fail;refine cI.out _ _ ?_;clear cI;refine lq (fun K hK=>?_);have cI:=I hK;clear hK;go_wp2_with fail;refine cI.out _ _ ?_;clear cI;refine lq (fun K hK=>?_);have cI:=I hK;clear hK;go_wp2_with fail;refine cI.out _ _ ?_;clear cI;clear f1 f2 f3 c1 c2 hz;refine lq (fun K hK=>?_);go_cut [6,8] from 35 to 60 (fun v _ hJ=>∃(dX:ca) (hS:Nat) (E:Int),v=.int .i64 E∧0≤E∧E≤173043∧-330≤dX.a8∧dX.a8≤0∧aj (o.iD dX hS)∧aj (Has hJ P dX)∧aj (ah P w hJ));case first=>
   go_wp2;go_loopw [6] (fun v wr=>∃(dX:ca) (hS:Nat) (E:Int),v=.int .i64 E∧0≤E∧E≤27*(3109-o.qa dX)∧-330≤dX.a8∧dX.a8≤310∧aj (o.iD dX hS)∧aj (Has wr P dX)∧aj (ah P w wr)) (fun _ wr=>(sZ wr P+4000).toNat);case atStart=>exact⟨D,N,0,rfl,by omega,by omega,by omega,by omega,dM,iH,I (aK _ _)⟩
   case round=>
    obtain⟨dX,hS,E,rfl,Vu,IA,gv,gq,hT,b9,ay⟩:=hrel;have di:=I b9.out.sZ;have ath:=o.xb hT.out;have c2:=b9.out.a8;have et:=I (bc.out.below ay.out);obtain⟨TH,ati,t1,t2,t3⟩:=et.out.pC;by_cases pc:0<dX.a8
    ·have g0:au (0<dX.a8)=ai:=bE pc;by_cases fe:9≤dX.a8
     ·have g1:au (9≤dX.a8)=ai:=bE fe;clear t3;go_wp2;go_quiet (fail);go_wp2_with fail;have Hn:=I (b9.out.drewN nq);have cQ:=I (below_drewN ay.out nq);generalize wr.drewN nq=cq at Hn cQ ⊢;have bJ:=I (aeM P 27 hS dX cq hT.out (by decide) (by decide) (by omega) (by omega) Hn.out);refine bJ.out.mono ?_;rintro e aP ⟨rfl,⟨oF,r,oG,aF,hh⟩,ad⟩;have bd:=aF.aeN hT.out (by decide);have Vk:=aF.M5 hT.out (by decide);have mn:=aF.bH;have kS:=aF.a8;have M7:=o.xb aF.is;have bG:=I aF.is;have jQ:=I hh;have bu:=I (cQ.out.trans ad);have IC:IntKind.i64.wrap (E+27)=E+27:=gF _ (by omega);clear aF hh ad;go_wp2;go_roundw;case rel=>exact⟨oF,oG,E+27,by rfl,by omega,by omega,by omega,by omega,bG,jQ,bu⟩
      case measure=>rw[jQ.out.sZ,di.out];omega
     ·have g1:au (9≤dX.a8)=ab:=bx fe;obtain⟨k,aA⟩:∃k:Nat,dX.a8=k:=⟨dX.a8.toNat,by omega⟩;obtain⟨x,hx,gu,gg⟩:=aeO ⟨k,by omega⟩;have t4:=t3 k x hx;have MC:k<9:=by omega
      rw[aA] at c2 g0 g1;have h4:(0:Int)≤(k:Int):=by omega
      have DQ:(k:Int)<9:=by omega
      have aeQ:IntKind.i64.wrap (-(x:Int)) = -(x:Int):=gF _ (by omega);clear t3;go_wp2;go_quiet (fail);go_wp2;go_quiet (fail);go_wp2_with fail;have bJ:=I (fun n=>aeM P x hS dX (wr.drewN n) hT.out gu (by omega) (by omega) (by omega) (b9.out.drewN n));refine (bJ.out _).mono ?_;rintro e aP ⟨rfl,⟨oF,r,oG,aF,hh⟩,ad⟩;have bd:=aF.aeN hT.out gu;have Vk:=aF.M5 hT.out (by omega);have mn:=aF.bH;have kS:=aF.a8;have M7:=o.xb aF.is;have bG:=I aF.is;have jQ:=I hh;have bu:=I ((below_drewN ay.out _).trans ad);have IC:IntKind.i64.wrap (E+(x:Int))=E+(x:Int):=gF _ (by omega);clear aF hh ad;go_wp2;go_roundw;case rel=>exact⟨oF,oG,E+(x:Int),by rfl,by omega,by omega,by omega,by omega,bG,jQ,bu⟩
      case measure=>rw[jQ.out.sZ,di.out];omega
    ·have g0:au (0<dX.a8)=ab:=bx pc;clear t3;go_wp2_with fail;go_meet;case rel=>exact⟨dX,hS,E,rfl,Vu,by omega,by omega,by omega,hT,b9,ay⟩
  case rest=>
  obtain⟨atj,atk,atl,rfl,Vu,atm,atn,ato,Vv,aeR,M8⟩:=hcut;have atp:=o.xb Vv.out;have cI:=I hK;clear hK;refine cI.out _ _ ?_;clear cI;refine lq (fun K hK=>?_);go_cut [6,9] from 61 to 102 (fun v _ hJ=>∃(dX:ca) (hS:Nat) (E:Int),v=.int .i64 E∧-110000≤E∧E≤173043∧0≤dX.a8∧dX.a8≤19∧aj (o.iD dX hS)∧aj (Has hJ P dX)∧aj (ah P w hJ));case first=>
   go_wp2;go_loopw [6] (fun v wr=>∃(dX:ca) (hS:Nat) (E:Int),v=.int .i64 E∧-27*(o.qa dX+3300)≤E∧E≤173043∧-330≤dX.a8∧dX.a8≤19∧aj (o.iD dX hS)∧aj (Has wr P dX)∧aj (ah P w wr)) (fun _ wr=>(1000-sZ wr P).toNat);case atStart=>exact⟨atj,atk,atl,rfl,by omega,by omega,by omega,by omega,Vv,aeR,M8⟩
   case round=>
    obtain⟨dX,hS,E,rfl,IA,M6,gv,gq,hT,b9,ay⟩:=hrel;have di:=I b9.out.sZ;have ath:=o.xb hT.out;have c2:=b9.out.a8;have c3:=b9.out.dr 0 (by decide);have et:=I (bc.out.below ay.out);obtain⟨TH,ati,t1,t2,t3⟩:=et.out.pC;by_cases nG:dX.a8<0∨(dX.a8=0∧dX.d 0<53)
    ·obtain⟨k,aA⟩:∃k:Nat,dX.a8 = -(k:Int):=⟨(-dX.a8).toNat,by omega⟩;have azB:k≤330:=by omega
     rw[aA] at c2;have h4:(0:Int)≤(k:Int):=by omega
     have atq:IntKind.i64.wrap (-(-(k:Int)))=(k:Int):=by rw[BZ];exact gF _ (by omega)
     have atr:IntKind.i64.wrap (k:Int)=(k:Int):=gF _ (by omega);have M9:=I nG;clear nG;by_cases fe:9≤k
     ·have g1:au ((9:Int)≤(k:Int))=ai:=bE (by omega);have g0:au (-(k:Int)<0)=ai:=bE (by omega);have bJ:=I (fun n=>M4 P 27 hS dX (wr.drewN n) hT.out (by decide) (by decide) (by omega) (by omega) (et.out.below (below_drewN (aK P wr) n)) (b9.out.drewN n));clear t3;go_wp2;go_quiet (fail);go_wp2_with fail;refine (bJ.out _).mono ?_;rintro e aP ⟨rfl,⟨oF,r,oG,aF,hh⟩,ad⟩;have bd:=aF.Vn hT.out (by decide);have aeS:=aF.Vm hT.out (by omega);have kS:=aF.a8;have M7:=o.xb aF.is;have bG:=I aF.is;have jQ:=I hh;have bu:=I ((below_drewN ay.out _).trans ad);have IC:IntKind.i64.wrap (E-27)=E-27:=gF _ (by omega);clear aF hh ad;go_wp2;go_roundw;case rel=>exact⟨oF,oG,E-27,by rfl,by omega,by omega,by omega,by omega,bG,jQ,bu⟩
      case measure=>rw[jQ.out.sZ,di.out];omega
     by_cases ats:k=0
     ·subst ats;have azC:dX.a8=0:=aA;have g1:au ((dX.d 0:Int)<53)=ai:=bE (by have:=M9.out;omega);rw[show -(((0:Nat)):Int)=0 from rfl] at c2;have t4:=t3 0 1 rfl;have t5:wr.cell? TH=U (.int .i64 1):=by have:=t3 0 1 rfl;rwa[as5] at this
      have gu:1≤1:=aC _;have bJ:=I (fun n=>M4 P 1 hS dX (wr.drewN n) hT.out gu (by omega) (by omega) (by omega) (et.out.below (below_drewN (aK P wr) n)) (b9.out.drewN n));clear t3 atr atq;go_wp2;go_quiet (fail);go_wp2;go_quiet (fail);go_wp2_with fail;refine (bJ.out _).mono ?_;rintro e aP ⟨rfl,⟨oF,r,oG,aF,hh⟩,ad⟩;have bd:=aF.Vn hT.out gu;have aeS:=aF.Vm hT.out (by omega);have kS:=aF.a8;have M7:=o.xb aF.is;have bG:=I aF.is;have jQ:=I hh;have bu:=I ((below_drewN ay.out _).trans ad);have IC:IntKind.i64.wrap (E-1)=E-1:=gF _ (by omega);clear aF hh ad;go_wp2;go_roundw;case rel=>exact⟨oF,oG,E-1,by rfl,by omega,by omega,by omega,by omega,bG,jQ,bu⟩
      case measure=>rw[jQ.out.sZ,di.out];omega
     ·have g1:au ((9:Int)≤(k:Int))=ab:=bx (by omega);have g0:au (-(k:Int)<0)=ai:=bE (by omega);obtain⟨x,hx,gu,gg⟩:=aeO ⟨k,by omega⟩;have t4:=t3 k x hx;have DQ:(k:Int)<9:=by omega
      have bJ:=I (fun n=>M4 P x hS dX (wr.drewN n) hT.out gu (by omega) (by omega) (by omega) (et.out.below (below_drewN (aK P wr) n)) (b9.out.drewN n));clear t3;go_wp2;go_quiet (fail);go_wp2;go_quiet (fail);go_wp2_with fail;refine (bJ.out _).mono ?_;rintro e aP ⟨rfl,⟨oF,r,oG,aF,hh⟩,ad⟩;have bd:=aF.Vn hT.out gu;have aeS:=aF.Vm hT.out (by omega);have kS:=aF.a8;have M7:=o.xb aF.is;have bG:=I aF.is;have jQ:=I hh;have bu:=I ((below_drewN ay.out _).trans ad);have IC:IntKind.i64.wrap (E-(x:Int))=E-(x:Int):=gF _ (by omega);clear aF hh ad;go_wp2;go_roundw;case rel=>exact⟨oF,oG,E-(x:Int),by rfl,by omega,by omega,by omega,by omega,bG,jQ,bu⟩
      case measure=>rw[jQ.out.sZ,di.out];omega
    ·have azD:0≤dX.a8:=by omega
     have g0:au (dX.a8<0)=ab:=bx (by omega);clear t3;by_cases aX:dX.a8=0
     ·have g1:au ((dX.d 0:Int)<53)=ab:=bx (by omega);rw[aX] at c2;go_wp2_with fail;go_meet;case rel=>exact⟨dX,hS,E,rfl,by omega,by omega,by omega,by omega,hT,b9,ay⟩
     ·have g1:(dX.a8==0)=ab:=by rw[cH];exact aX
      go_wp2_with fail;go_meet;case rel=>exact⟨dX,hS,E,rfl,by omega,by omega,by omega,by omega,hT,b9,ay⟩
  case rest=>
  obtain⟨dX,hS,E,rfl,IA,M6,gv,gq,hT,b9,ay⟩:=hcut;have cI:=I hK;clear hK;refine cI.out _ _ ?_;clear cI aeR M8 Vv atp atg atn ato Vu atm;obtain⟨aH,mR⟩:∃aH,E-1=aH:=⟨_,rfl⟩;have aeT:IntKind.i64.wrap (E-1)=aH:=by rw[mR];exact gF _ (by omega)
  refine lq (fun K hK=>?_);have cI:=I hK;clear hK;go_wp2_with fail;refine cI.out _ _ ?_;clear cI;have i2:=(bc.out.below ay.out).vV;clear aeT;refine lq (fun K hK=>?_);go_cut [6,10] from 105 to 125 (fun v _ hJ=>∃(dX:ca) (hS:Nat) (E:Int),v=.int .i64 E∧-1022≤E∧E≤173043∧-150000≤dX.a8∧dX.a8≤19∧aj (o.iD dX hS)∧aj (Has hJ P dX)∧aj (ah P w hJ));case first=>
   by_cases jg:aH < -1022
   ·have g1:au (aH < -1022)=ai:=bE jg;obtain⟨n,aB⟩:∃n:Nat,-1022-aH=(n:Int):=⟨(-1022-aH).toNat,by omega⟩;have aeT:IntKind.i64.wrap (-1022-aH)=(n:Int):=by rw[aB];exact gF _ (by omega)
    have IC:IntKind.i64.wrap (-(n:Int)) = -(n:Int):=gF _ (by omega);have azE:IntKind.i64.wrap (aH+(n:Int)) = -1022:=by rw[show aH+(n:Int) = -1022 by omega];exact gF _ (by decide)
    have bJ:=I (asW P n hS dX _ hT.out (by omega) (by omega) (by omega) (by omega) b9.out);go_wp2_with fail;refine bJ.out.mono ?_;rintro e aP ⟨rfl,⟨oF,oG,aJ,aeU,azF,azG,_⟩,ad⟩;have QT:=I aJ;have jQ:=I aeU;have bu:=I (ay.out.trans ad);clear aJ aeU ad;go_wp2_with fail;go_meet;case rel=>exact⟨oF,oG,-1022,rfl,by omega,by omega,by omega,by omega,QT,jQ,bu⟩
   ·have g1:au (aH < -1022)=ab:=bx jg;go_wp2_with fail;go_meet;case rel=>exact⟨dX,hS,aH,rfl,by omega,by omega,by omega,by omega,hT,b9,ay⟩
  case rest=>
  clear i2 mR IA M6 gv gq hT b9 ay;obtain⟨dX,hS,E,rfl,IA,M6,gv,gq,hT,b9,ay⟩:=hcut;have cI:=I hK;clear hK;refine cI.out _ _ ?_;clear cI;have i0:=(bc.out.below ay.out).info;have i1:=(bc.out.below ay.out).xM;have i2:=(bc.out.below ay.out).vV;by_cases nl:2047≤E+1023
  ·have g1:au (2047≤E+1023)=ai:=bE nl;go_wp2;go_quiet (fail);go_wp2;go_step3;exact⟨rfl,rfl,rfl,rfl,below_drewN ay.out _,⟨_,(b9.out.drewN _).dJ⟩,.inl rfl⟩
  have g1:au (2047≤E+1023)=ab:=bx nl;refine lq (fun K hK=>?_);have cI:=I hK;clear hK;go_wp2;go_quiet (fail);go_wp2_with fail;refine cI.out _ _ ?_;clear cI g1;have bJ:=I (fun n=>M4 P 53 hS dX _ hT.out (by decide) (by decide) (by omega) (by omega) (bc.out.below (below_drewN ay.out n)) (b9.out.drewN n));go_wp2_with fail;refine (bJ.out _).mono ?_;rintro e cf ⟨rfl,⟨oF,azH,oG,aF,hh⟩,ad⟩;have aJ:=aF.is;have jQ:=I hh;have bu:=I ((below_drewN ay.out _).trans ad);have bG:=I (as6 P oG oF cf aJ hh);clear i0 i1 i2 aF hh ad aJ bJ b9 ay;have i0:=(bc.out.below bu.out).info;have i1:=(bc.out.below bu.out).xM;have i2:=(bc.out.below bu.out).vV;go_wp2_with fail;refine bG.out.mono ?_;rintro e cw ⟨⟨M,rfl,dy⟩,rfl⟩;clear bG;by_cases uM:M=9007199254740992
  ·subst uM;have aeQ:IntKind.i64.wrap (E+1)=E+1:=gF _ (by omega);have g5:bits .and .u64 4503599627370496 4503599627370496=4503599627370496:=by decide
   obtain⟨aT,qk⟩:∃aT,E+1=aT:=⟨_,rfl⟩;rw[qk] at aeQ;by_cases aeV:2047≤aT+1023
   ·have g1:au (2047≤aT+1023)=ai:=bE aeV;go_wp2;go_quiet (fail);go_wp2;go_step3;exact⟨rfl,rfl,rfl,rfl,below_drewN bu.out _,⟨_,(jQ.out.drewN _).dJ⟩,.inl rfl⟩
   ·have g1:au (2047≤aT+1023)=ab:=bx aeV;go_wp2;go_quiet (fail);go_wp2;go_step3;exact⟨rfl,rfl,rfl,rfl,below_drewN bu.out _,⟨_,(jQ.out.drewN _).dJ⟩,.inr ⟨rfl,ab,aT,4503599627370496,rfl,rfl,rfl,by decide,.inl ⟨rfl,by omega,by omega⟩⟩⟩
  ·have g1:((M:Int)==9007199254740992)=ab:=by rw[cH];omega
   have nQ:=Go.u64_and_nat M 4503599627370496 dy (by decide);have aeW:bits .and .u64 (M:Int) 4503599627370496=((M &&& 4503599627370496:Nat):Int):=nQ;generalize M &&& 4503599627370496=y at aeW;clear nQ;by_cases aW:y=0
   ·subst aW;rw[Int.natCast_zero] at aeW;go_wp2;go_step3;exact⟨rfl,rfl,rfl,rfl,bu.out,⟨_,jQ.out.dJ⟩,.inr ⟨rfl,ab,-1023,M,rfl,rfl,rfl,dy,.inl ⟨rfl,by decide,by decide⟩⟩⟩
   ·have g2:((y:Int)==0)=ab:=by rw[cH];omega
    go_wp2;go_step3;exact⟨rfl,rfl,rfl,rfl,bu.out,⟨_,jQ.out.dJ⟩,.inr ⟨rfl,ab,E,M,rfl,rfl,rfl,dy,.inl ⟨rfl,by omega,by omega⟩⟩⟩
def pj (a b:Int):Int:=if a<b then -1 else if b<a then 1 else 0
theorem aoc (a b:Int):pj a b = -1∨pj a b=0∨pj a b=1:=by
 unfold pj;split
 ·exact .inl rfl
 ·split
  ·exact .inr (.inr rfl)
  ·exact .inr (.inl rfl)
theorem aod (a b:Nat):o.hV a b = -1∨o.hV a b=0∨o.hV a b=1:=by
 unfold o.hV;split
 ·exact .inl rfl
 ·split
  ·exact .inr (.inr rfl)
  ·exact .inr (.inl rfl)
theorem aoe (A B:Int):pj A B=if au (A<0)=au (B<0) then (if au (A<0)=ai then-o.hV A.natAbs B.natAbs else o.hV A.natAbs B.natAbs) else (if au (A<0)=ai then -1 else 1):=by
 unfold pj o.hV;by_cases aa:A<0<;>by_cases ae:B<0
 ·rw[bE aa,bE ae];simp only[oW];split<;>split<;>(try split)<;>omega
 ·rw[bE aa,bx ae];simp;split<;>omega
 ·rw[bx aa,bE ae];simp;split<;>(try split)<;>omega
 ·rw[bx aa,bx ae];simp only[oW,oL,oV];split<;>split<;>(try split)<;>omega
theorem aof (e6 fz:Value) (A B:Int) (w:af) (hx:b2 w e6 (o.wd A.natAbs)) (aW:b2 w fz (o.wd B.natAbs)) (yc:(o.wd A.natAbs).length≤2500) (rD:(o.wd B.natAbs).length≤2500) :
 aq ak 70 #[.agg #[e6,.bool (au (A<0))],.agg #[fz,.bool (au (B<0))]] w fun e w'=>e=.returned (.int .i64 (pj A B))∧ah w.heap.size w w':=by
 have Rl:aj (∀W,ah w.heap.size w W→aq ak 127 #[e6,fz] W (fun e w'=>e=.returned (.int .i64 (o.hV A.natAbs B.natAbs))∧ah W.heap.size W w')):=I (fun W ad=>by
  have:=F3 e6 fz _ _ W (hx.below ad) (aW.below ad) (by omega) (by omega) (o.fa _) (o.fa _);rwa[o.eA,o.eA] at this)
 have bG:=I (aoe A B);have o2:=aod A.natAbs B.natAbs;obtain⟨cx,ct,rfl⟩:=hx.form;obtain⟨eB,eC,rfl⟩:=aW.form;generalize o.hV A.natAbs B.natAbs=c at *;generalize au (A<0)=bp at *;generalize au (B<0)=bt at *;generalize (o.wd A.natAbs).length=n at *;generalize (o.wd B.natAbs).length=m at *;clear hx aW yc rD;have ajS:IntKind.i64.wrap (-c) = -c:=gF _ (by omega);obtain⟨aZ,bl⟩:∃aZ,(w.alloc (.cells #[.slice cx n ct,.bool bp] 85)).alloc (.cells #[.slice eB m eC,.bool bt] 85)=aZ:=⟨_,rfl⟩;have cY:aj (aI aZ w.heap.size 85 (.slice cx n ct) (.bool bp)):=I (by rw[←bl];exact (aI.new _ _ _ _).alloc _);have dt:aj (aI aZ (w.heap.size+1) 85 (.slice eB m eC) (.bool bt)):=I (by
  rw[←bl];have:=aI.new (w.alloc (.cells #[.slice cx n ct,.bool bp] 85)) 85 (.slice eB m eC) (.bool bt);simpa using this)
 have bu:aj (ah w.heap.size w aZ):=I (by rw[←bl];exact ((aK _ _).alloc (aC _) _).alloc (by simp) _);have dL:w.heap.size+2≤aZ.heap.size:=by rw[←bl];simp
 obtain⟨cn,bY,fA,gW⟩:=cY.out.cells;obtain⟨b0,bD,cX,dU⟩:=dt.out.cells;go_enter func70,ntmps70;go_wp2_with fail;refine (Rl.out _ (by exact bu.out)).mono ?_;rintro e cf ⟨rfl,bf⟩;have dc:=I (chain bu.out bf (by omega));obtain⟨CK,CL,_,_⟩:=(cY.out.below bf).cells;obtain⟨CM,Rm,_,_⟩:=(dt.out.below bf).cells;clear bf cn bY fA gW b0 bD cX dU bl;have jl:IntKind.i64.wrap (-1) = -1:=gF _ (by omega);cases bp<;>cases bt;all_goals
  simp at bG;go_wp2;go_ret;exact⟨by rw[bG.out];rfl,dc.out⟩
theorem aog (A B:Int) (w:af) (be:o.bO A) (az:o.bO B) :
 aq ak 36 #[bz A,bz B] w fun e w'=>e=.returned (.tuple #[.int .i64 (pj A B),.int .i64 0])∧ah w.heap.size w w':=by
 have et:=I (fun W=>yg A B W be az);have sB:aj (∀W c7 gn,b2 W c7 (o.wd A.natAbs)→b2 W gn (o.wd B.natAbs)→aq ak 70 #[.agg #[c7,.bool (au (A<0))],.agg #[gn,.bool (au (B<0))]] W (fun e w'=>e=.returned (.int .i64 (pj A B))∧ah W.heap.size W w')):=I (fun W c7 gn aa ae=>aof c7 gn A B W aa ae (sO be) (sO az));have aS:bz A=.agg #[.bool (au (A<0)),.string (ax (o.bs A.natAbs))]:=rfl;have ad:bz B=.agg #[.bool (au (B<0)),.string (ax (o.bs B.natAbs))]:=rfl;rw[aS,ad] at et ⊢;generalize au (A<0)=bp at *;generalize au (B<0)=bt at *;generalize ax (o.bs A.natAbs)=d' at *;generalize ax (o.bs B.natAbs)=dN at *;generalize A.natAbs=bo at *;generalize B.natAbs=V at *;generalize pj A B=a7 at *;clear aS ad be az;obtain⟨cG,fy⟩:∃cG,(w.alloc (.cells #[.bool bp,.string d'] 46)).alloc (.cells #[.bool bt,.string dN] 46)=cG:=⟨_,rfl⟩;have cY:aj (aI cG w.heap.size 46 (.bool bp) (.string d')):=I (by rw[←fy];exact (aI.new _ _ _ _).alloc _);have dt:aj (aI cG (w.heap.size+1) 46 (.bool bt) (.string dN)):=I (by
  rw[←fy];have:=aI.new (w.alloc (.cells #[.bool bp,.string d'] 46)) 46 (.bool bt) (.string dN);simpa using this)
 have bL:aj (ah w.heap.size w cG):=I (by rw[←fy];exact ((aK _ _).alloc (aC _) _).alloc (by simp) _);have dY:w.heap.size+2≤cG.heap.size:=by rw[←fy];simp
 obtain⟨cn,bY,fA,gW⟩:=cY.out.cells;obtain⟨b0,bD,cX,dU⟩:=dt.out.cells;go_enter func36,ntmps36;go_wp2_with fail;refine (et.out _).mono ?_;rintro e aQ ⟨c7,gn,rfl,yi,T3,bb⟩;have eN:=I (chain bL.out bb (by omega));obtain⟨cx,ct,rfl⟩:=yi.form;obtain⟨eB,eC,rfl⟩:=T3.form;have k1:∀a7 nT:Obj,ah aQ.heap.size aQ ((aQ.alloc a7).alloc nT):=fun a7 nT=>((aK _ _).alloc (aC _) _).alloc (by simp) _;have aoh:aj (∀a7 nT,b2 ((aQ.alloc a7).alloc nT) (.slice cx (o.wd bo).length ct) (o.wd bo)):=I (fun a7 nT=>yi.below (k1 a7 nT));have aoi:aj (∀a7 nT,b2 ((aQ.alloc a7).alloc nT) (.slice eB (o.wd V).length eC) (o.wd V)):=I (fun a7 nT=>T3.below (k1 a7 nT));have Md:aj (∀a7 nT,ah w.heap.size w ((aQ.alloc a7).alloc nT)):=I (fun a7 nT=>chain eN.out (k1 a7 nT) (cp (by omega) bb.size));have TL:∀a7 nT:Obj,w.heap.size≤((aQ.alloc a7).alloc nT).heap.size:=fun a7 nT=>(Md.out a7 nT).size;have vi:=I TL;clear yi T3 bb k1 cn bY fA gW b0 bD cX dU fy TL;generalize (o.wd bo).length=n at *;generalize (o.wd V).length=m at *;go_wp2_with fail;refine (sB.out _ _ _ (aoh.out _ _) (aoi.out _ _)).mono ?_;rintro e cw ⟨rfl,cL⟩;have gA:=I (chain (Md.out _ _) cL (vi.out _ _));clear cL;go_wp2;go_ret2;exact⟨rfl,gA.out⟩
theorem ans (A B:Int):cy (au (A<0) != au (B<0)) (A.natAbs*B.natAbs)=A*B:=by
 have h:((A.natAbs*B.natAbs:Nat):Int)=(A.natAbs:Int)*(B.natAbs:Int):=by simp
 unfold cy;by_cases aa:A<0<;>by_cases ae:B<0
 ·rw[bE aa,bE ae];simp only[IZ,oL,oV];rw[h,show (A.natAbs:Int) = -A by omega,show (B.natAbs:Int) = -B by omega,Int.neg_mul_neg]
 ·rw[bE aa,bx ae];simp only[show (ai != ab)=ai from rfl,oW];rw[h,show (A.natAbs:Int) = -A by omega,show (B.natAbs:Int)=B by omega,BW,BZ]
 ·rw[bx aa,bE ae];simp only[show (ab != ai)=ai from rfl,oW];rw[h,show (A.natAbs:Int)=A by omega,show (B.natAbs:Int) = -B by omega,Int.mul_neg,BZ]
 ·rw[bx aa,bx ae];simp only[IZ,oL,oV];rw[h,show (A.natAbs:Int)=A by omega,show (B.natAbs:Int)=B by omega]
theorem ant {A B:Int} (be:o.bO A) (az:o.bO B) {V:Nat} {neg:Bool} (h:cy neg V=A*B):(o.wd V).length≤10000:=by
 have cA:=CO h;rw[Jb] at cA;refine cp (o.An (k:=2048) ?_) (by decide);have aa:V<256^4096*256^4096:=by
  rw[cA];unfold o.bO at be az;generalize 256^4096=P at *;exact Nat.mul_lt_mul'' be az
 have e:=o.Gd 2048;rw[show 4*2048=4096+4096 from rfl,cm 256 4096 4096] at e;rw[←e];exact aa
theorem anu (A B:Int) (w:af) (be:o.bO A) (az:o.bO B) :
 aq ak 21 #[bz A,bz B] w (hX w (A*B)):=by
 have et:=I (fun W=>yg A B W be az);have anv:aj (∀W c7 gn,b2 W c7 (o.wd A.natAbs)→b2 W gn (o.wd B.natAbs)→aq ak 59 #[c7,gn] W (x6 W (A.natAbs*B.natAbs))):=I (fun W c7 gn aa ae=>by
  have:=amc c7 gn _ _ W aa ae (cp (o.rF _ be) (by decide)) (cp (o.rF _ az) (by decide)) (o.fa _) (o.fa _);rwa[o.eA,o.eA] at this)
 have sp:=I (ans A B);have l2:aj (∀W v neg V,cy neg V=A*B→b2 W v (o.wd V)→aq ak 57 #[.agg #[v,.bool neg]] W (hX W (A*B))):=I (fun W v neg V aa ae=>Ao v neg V _ W aa ae (ant be az aa));obtain⟨bp,fi⟩:∃bp,au (A<0)=bp:=⟨_,rfl⟩;obtain⟨bt,gi⟩:∃bt,au (B<0)=bt:=⟨_,rfl⟩;have aS:bz A=.agg #[.bool bp,.string (ax (o.bs A.natAbs))]:=by unfold bz cO;rw[fi]
 have ad:bz B=.agg #[.bool bt,.string (ax (o.bs B.natAbs))]:=by unfold bz cO;rw[gi]
 rw[aS] at et ⊢;rw[ad] at et ⊢;rw[fi] at et sp;rw[gi] at et sp;generalize ax (o.bs A.natAbs)=d' at *;generalize ax (o.bs B.natAbs)=dN at *;generalize A.natAbs=bo at *;generalize B.natAbs=V at *;obtain⟨hY,hZ,gr,gC⟩:∃f s e,e7 (A*B)=.tuple #[.agg #[.bool f,.string s],.int .i64 e]:=by
  unfold e7;split
  ·exact⟨_,_,_,rfl⟩
  ·exact⟨_,_,_,rfl⟩
 unfold hX at *;rw[gC] at l2 ⊢;generalize A*B=S at *;clear aS ad fi gi be az gC;obtain⟨aZ,bl⟩:∃aZ,((w.alloc (.cells #[.bool bp,.string d'] 46)).alloc (.cells #[.bool bt,.string dN] 46)).alloc (.cells #[.bool ab,.string ⟨#[]⟩] 46)=aZ:=⟨_,rfl⟩;have cY:aj (aI aZ w.heap.size 46 (.bool bp) (.string d')):=I (by rw[←bl];exact ((aI.new _ _ _ _).alloc _).alloc _);have dt:aj (aI aZ (w.heap.size+1) 46 (.bool bt) (.string dN)):=I (by
  rw[←bl];have:=(aI.new (w.alloc (.cells #[.bool bp,.string d'] 46)) 46 (.bool bt) (.string dN)).alloc (.cells #[.bool ab,.string ⟨#[]⟩] 46);simpa using this)
 have eI:aj (aI aZ (w.heap.size+2) 46 (.bool ab) (.string ⟨#[]⟩)):=I (by
  rw[←bl];have:=aI.new ((w.alloc (.cells #[.bool bp,.string d'] 46)).alloc (.cells #[.bool bt,.string dN] 46)) 46 (.bool ab) (.string ⟨#[]⟩);simpa using this)
 have bu:aj (ah w.heap.size w aZ):=I (by rw[←bl];exact (((aK _ _).alloc (aC _) _).alloc (by simp) _).alloc (by simp;omega) _);have dL:w.heap.size+3≤aZ.heap.size:=by rw[←bl];simp
 obtain⟨cn,bY,_,_⟩:=cY.out.cells;obtain⟨b0,bD,_,_⟩:=dt.out.cells;go_enter func21,ntmps21;go_wp2_with fail;refine (et.out _).mono ?_;rintro e aQ ⟨c7,gn,rfl,hv,hy,bb⟩;obtain⟨ic,ac,rfl⟩:=hv.form;obtain⟨gl,cV,rfl⟩:=hy.form;generalize (o.wd bo).length=gx at *;generalize (o.wd V).length=gX at *;obtain⟨bh,dn⟩:∃bh,(aQ.alloc (.cells #[.slice ic gx ac,.bool bp] 85)).alloc (.cells #[.slice gl gX cV,.bool bt] 85)=bh:=⟨_,rfl⟩;have bf:ah aQ.heap.size aQ bh:=by rw[←dn];exact ((aK _ _).alloc (aC _) _).alloc (by simp) _
 have iy:w.heap.size+3≤aQ.heap.size:=cp dL bb.size;have dc:=I (chain (chain bu.out bb (by omega)) bf (by omega));have vd:=I ((eI.out.below bb).below bf);have sI:=I (hv.below bf);have rQ:=I (hy.below bf);have k6:aj (aI bh aQ.heap.size 85 (.slice ic gx ac) (.bool bp)):=I (by rw[←dn];exact (aI.new _ _ _ _).alloc _);have k5:aj (aI bh (aQ.heap.size+1) 85 (.slice gl gX cV) (.bool bt)):=I (by
  rw[←dn];have:=aI.new (aQ.alloc (.cells #[.slice ic gx ac,.bool bp] 85)) 85 (.slice gl gX cV) (.bool bt);simpa using this)
 have pa:w.heap.size+3≤bh.heap.size:=cp iy bf.size;clear cn bY b0 bD cY dt eI bu dL bb hv hy bl bf;obtain⟨cn,bY,_,_⟩:=k6.out.cells;obtain⟨b0,bD,_,_⟩:=k5.out.cells;go_wp2_with fail;have cU:=I (show ah bh.heap.size bh bh.drew from (aK _ bh).drew);have aN:aj (∀W,ah bh.heap.size bh W→W.cell? ⟨aQ.heap.size,0,J⟩=U (.slice ic gx ac)∧W.cell? ⟨aQ.heap.size,1,J⟩=U (.bool bp)∧W.cell? ⟨aQ.heap.size+1,0,J⟩=U (.slice gl gX cV)∧W.cell? ⟨aQ.heap.size+1,1,J⟩=U (.bool bt)):=I (fun W ad=>by
  obtain⟨cn,bY,_,_⟩:=(k6.out.below ad).cells;obtain⟨b0,bD,_,_⟩:=(k5.out.below ad).cells;exact⟨cn,bY,b0,bD⟩)
 obtain⟨pX,mG⟩:∃pX,(bp != bt)=pX:=⟨_,rfl⟩;have ax6:(!(bp==bt))=pX:=mG;rw[mG] at sp;have anw:=I (anv.out bh.drew _ _ (sI.out.below cU.out) (rQ.out.below cU.out));have Hb:=k6.out.lt;have ax7:=k5.out.lt;have ax8:w.heap.size+2<bh.heap.size:=by omega
 have jm:aj (∀W,ah bh.heap.size bh W→∀u v,((W.setCell ⟨w.heap.size+2,0,J⟩ u).setCell ⟨w.heap.size+2,1,J⟩ v).cell? ⟨aQ.heap.size,0,J⟩=U (.slice ic gx ac)∧((W.setCell ⟨w.heap.size+2,0,J⟩ u).setCell ⟨w.heap.size+2,1,J⟩ v).cell? ⟨aQ.heap.size,1,J⟩=U (.bool bp)∧((W.setCell ⟨w.heap.size+2,0,J⟩ u).setCell ⟨w.heap.size+2,1,J⟩ v).cell? ⟨aQ.heap.size+1,0,J⟩=U (.slice gl gX cV)∧((W.setCell ⟨w.heap.size+2,0,J⟩ u).setCell ⟨w.heap.size+2,1,J⟩ v).cell? ⟨aQ.heap.size+1,1,J⟩=U (.bool bt)):=I (fun W ad u v=>by
  obtain⟨aa,ae,aJ,bQ⟩:=aN.out W ad;refine⟨?_,?_,?_,?_⟩;all_goals
   rw[b7 _ _ _ _ (by intro z;injection z with z;omega),b7 _ _ _ _ (by intro z;injection z with z;omega)];assumption)
 go_region_held3 (fun W=>W.cell? ⟨aQ.heap.size,0,J⟩=U (.slice ic gx ac)∧W.cell? ⟨aQ.heap.size,1,J⟩=U (.bool bp)∧W.cell? ⟨aQ.heap.size+1,0,J⟩=U (.slice gl gX cV)∧W.cell? ⟨aQ.heap.size+1,1,J⟩=U (.bool bt)) (first | with_reducible exact⟨cn,bY,b0,bD⟩ | with_reducible exact aN.out _ cU.out | with_reducible exact aN.out _ cL | with_reducible exact aN.out _ fS | with_reducible exact jm.out _ fS _ _) (first
  | (go_at_call 57;(with_reducible refine (l2.out _ _ _ _ sp.out wL).mono ?_);rintro e hM ⟨rfl,Hu⟩;have fS:ah bh.heap.size bh hM:=cL.trans (Hu.mono cL.size);have qV:=vd.out.below fS;obtain⟨cl,bH,f0,f1⟩:=qV.cells;clear Hu)
  | (go_at_call 59;(with_reducible refine (anw.out).mono ?_);rintro e cw ⟨v6,rfl,wL,l8⟩;have cL:ah bh.heap.size bh cw:=cU.out.trans l8;obtain⟨ax9,rp,rfl⟩:=wL.form;clear l8))
 all_goals
  have ku:=I (chain dc.out fS (by omega));have ht:=qV.set (.bool hY) (.string hZ);obtain⟨aM,aG,_,_⟩:=ht.cells;go_wp2;refine bI (v:=.tuple #[.agg #[.bool hY,.string hZ],.int .i64 gr]) (by simp[bK,results21,go_sem,aM,aG]) rfl ⟨rfl,fG ku.out (by omega) _ _⟩
def qG (A k n:Int) (s:List UInt8):Prop:=(cJ A∧k=4∧n=A∧s=[])∨(¬ cJ A∧k=5∧n=0∧o.fl 10 s A∧s.length≤40000)
def tO (w:af) (A:Int) (e:Ending) (w':af):Prop:=∃k n s,qG A k n s∧ek w (bw k n 0 (ax s) (.slice J 0 0)) ai e w'
theorem akb {A:Int} (h:cJ A):In64 A:=by unfold cJ at h;unfold In64;omega
theorem K4 (g:Bool) (S:ByteArray) (e:Int) (w:af) (he:e≠0) :
 aq ak 18 #[.agg #[.bool g,.string S],.int .i64 e] w (ek w iA ab):=by
 obtain⟨cG,fy⟩:∃cG,(w.alloc (.cells #[.bool g,.string S] 46)).alloc (.cells #[.int .u8 0,.int .i64 0,.int .u64 0,.string ⟨#[]⟩,.slice J 0 0] 28)=cG:=⟨_,rfl⟩;have aO:aj (bk cG (w.heap.size+1) (.int .u8 0) (.int .i64 0) (.int .u64 0) (.string ⟨#[]⟩) (.slice J 0 0)):=I (by
  rw[←fy];have:=bk.new (w.alloc (.cells #[.bool g,.string S] 46)) (.int .u8 0) (.int .i64 0) (.int .u64 0) (.string ⟨#[]⟩) (.slice J 0 0);simpa using this)
 have cD:aj (aI cG w.heap.size 46 (.bool g) (.string S)):=I (by rw[←fy];exact (aI.new _ _ _ _).alloc _);have ay:aj (ah w.heap.size w cG):=I (by rw[←fy];exact ((aK _ _).alloc (aC _) _).alloc (by simp) _);have a1:w.heap.size+2≤cG.heap.size:=by rw[←fy];simp
 have aL:(e==0)=ab:=by rw[cH];exact he
 obtain⟨c0,c1,c2,c3,c4,f0,f1,f2,f3,f4⟩:=aO.out.cells;unfold iA bw;go_enter JD,Ju;go_wp2_with fail;obtain⟨aM,aG,bj,bq,bA,_,_,_,_,_⟩:=(aO.out.set (.int .u8 0) (.int .i64 0) (.int .u64 0) (.string ⟨#[]⟩) (.slice J 0 0)).cells;exact bI (v:=.tuple #[.agg #[.int .u8 0,.int .i64 0,.int .u64 0,.string ⟨#[]⟩,.slice J 0 0],.bool ab]) (by simp[bK,Ja,go_sem,aM,aG,bj,bq,bA]) rfl ⟨rfl,dG ay.out (by omega) _ _ _ _ _⟩
theorem GF (A:Int) (w:af) (be:o.bO A) :
 aq ak 18 #[bz A,.int .i64 0] w (tO w A):=by
 have cR:=I (fun W=>K3 A W be);have pT:=I (fun W=>GD A W);have mr:=I (fun W=>XY A 10 W be (by decide) (by decide));have Ys:=I (fun W=>CZ A W);unfold bw at Ys;obtain⟨g,S,aS⟩:∃g S,bz A=.agg #[.bool g,.string S]:=⟨_,_,rfl⟩;rw[aS] at cR mr ⊢;have key:(cJ A∧fU A=.tuple #[.int .i64 A,.bool ai])∨(¬ cJ A∧fU A=.tuple #[.int .i64 A,.bool ai])∨(¬ cJ A∧fU A=.tuple #[.int .i64 0,.bool ab]):=by
  unfold fU;by_cases aa:cJ A
  ·exact .inl ⟨aa,by rw[ba (akb aa)]⟩
  ·by_cases ae:In64 A
   ·exact .inr (.inl ⟨aa,by rw[ba ae]⟩)
   ·exact .inr (.inr ⟨aa,by rw[aU ae]⟩)
 clear be aS;obtain⟨cG,fy⟩:∃cG,(w.alloc (.cells #[.bool g,.string S] 46)).alloc (.cells #[.int .u8 0,.int .i64 0,.int .u64 0,.string ⟨#[]⟩,.slice J 0 0] 28)=cG:=⟨_,rfl⟩;have aO:aj (bk cG (w.heap.size+1) (.int .u8 0) (.int .i64 0) (.int .u64 0) (.string ⟨#[]⟩) (.slice J 0 0)):=I (by
  rw[←fy];have:=bk.new (w.alloc (.cells #[.bool g,.string S] 46)) (.int .u8 0) (.int .i64 0) (.int .u64 0) (.string ⟨#[]⟩) (.slice J 0 0);simpa using this)
 have cD:aj (aI cG w.heap.size 46 (.bool g) (.string S)):=I (by rw[←fy];exact (aI.new _ _ _ _).alloc _);have ay:aj (ah w.heap.size w cG):=I (by rw[←fy];exact ((aK _ _).alloc (aC _) _).alloc (by simp) _);have a1:w.heap.size+2≤cG.heap.size:=by rw[←fy];simp
 obtain⟨cn,bY,_,_⟩:=cD.out.cells;obtain⟨c0,c1,c2,c3,c4,f0,f1,f2,f3,f4⟩:=aO.out.cells;rcases key with ⟨aa,ae⟩ | ⟨aa,ae⟩ | ⟨aa,ae⟩
 ·rw[show au (cJ A)=ai from bE aa] at pT;rw[ae] at cR;go_enter JD,Ju;go_wp2_with fail;refine (cR.out _).mono ?_;rintro e cc ⟨rfl,cK⟩;have jU:=I (aO.out.below cK);have rN:=I (cD.out.below cK);have bu:=I (chain ay.out cK (by omega));have dL:=cK.size;clear cn bY c0 c1 c2 c3 c4 f0 f1 f2 f3 f4 cK;obtain⟨cn,bY,_,_⟩:=rN.out.cells;obtain⟨c0,c1,c2,c3,c4,f0,f1,f2,f3,f4⟩:=jU.out.cells;go_wp2_with fail;refine (pT.out _).mono ?_;rintro e aQ ⟨rfl,rfl⟩;go_wp2_with fail;refine (Ys.out _).mono ?_;rintro e cf ⟨rfl,bf⟩;have fH:=I (jU.out.below bf);have dc:=I (chain bu.out bf (by omega));clear cn bY c0 c1 c2 c3 c4 f0 f1 f2 f3 f4 bf;obtain⟨c0,c1,c2,c3,c4,f0,f1,f2,f3,f4⟩:=fH.out.cells;go_wp2_with fail;obtain⟨aM,aG,bj,bq,bA,_,_,_,_,_⟩:=(fH.out.set (.int .u8 4) (.int .i64 A) (.int .u64 0) (.string ⟨#[]⟩) (.slice J 0 0)).cells;exact bI (v:=.tuple #[.agg #[.int .u8 4,.int .i64 A,.int .u64 0,.string ⟨#[]⟩,.slice J 0 0],.bool ai]) (by simp[bK,Ja,go_sem,aM,aG,bj,bq,bA]) rfl ⟨4,A,[],.inl ⟨aa,rfl,rfl,rfl⟩,⟨rfl,dG dc.out (by omega) _ _ _ _ _⟩⟩
 ·rw[show au (cJ A)=ab from bx aa] at pT;rw[ae] at cR;go_enter JD,Ju;go_wp2_with fail;refine (cR.out _).mono ?_;rintro e cc ⟨rfl,cK⟩;have jU:=I (aO.out.below cK);have rN:=I (cD.out.below cK);have bu:=I (chain ay.out cK (by omega));have dL:=cK.size;clear cn bY c0 c1 c2 c3 c4 f0 f1 f2 f3 f4 cK;obtain⟨cn,bY,_,_⟩:=rN.out.cells;obtain⟨c0,c1,c2,c3,c4,f0,f1,f2,f3,f4⟩:=jU.out.cells;go_wp2_with fail;refine (pT.out _).mono ?_;rintro e aQ ⟨rfl,rfl⟩;go_wp2_with fail;refine (mr.out _).mono ?_;rintro e cf ⟨s,rfl,dZ,bf,o'⟩;have fH:=I (jU.out.below bf);have dc:=I (chain bu.out bf (by omega));have bc:=I dZ;clear cn bY c0 c1 c2 c3 c4 f0 f1 f2 f3 f4 bf dZ;obtain⟨c0,c1,c2,c3,c4,f0,f1,f2,f3,f4⟩:=fH.out.cells;obtain⟨T,tJ⟩:∃T,ax s=T:=⟨_,rfl⟩;have RP:=I tJ;rw[tJ];clear tJ;go_wp2_with fail;obtain⟨aM,aG,bj,bq,bA,_,_,_,_,_⟩:=(fH.out.set (.int .u8 5) (.int .i64 0) (.int .u64 0) (.string T) (.slice J 0 0)).cells;exact bI (v:=.tuple #[.agg #[.int .u8 5,.int .i64 0,.int .u64 0,.string T,.slice J 0 0],.bool ai]) (by simp[bK,Ja,go_sem,aM,aG,bj,bq,bA]) rfl ⟨5,0,s,.inr ⟨aa,rfl,rfl,bc.out,o'⟩,by rw[RP.out];exact⟨rfl,dG dc.out (by omega) _ _ _ _ _⟩⟩
 ·rw[show au (cJ A)=ab from bx aa] at pT;rw[ae] at cR;go_enter JD,Ju;go_wp2_with fail;refine (cR.out _).mono ?_;rintro e cc ⟨rfl,cK⟩;have jU:=I (aO.out.below cK);have rN:=I (cD.out.below cK);have bu:=I (chain ay.out cK (by omega));have dL:=cK.size;clear cn bY c0 c1 c2 c3 c4 f0 f1 f2 f3 f4 cK;obtain⟨cn,bY,_,_⟩:=rN.out.cells;obtain⟨c0,c1,c2,c3,c4,f0,f1,f2,f3,f4⟩:=jU.out.cells;go_wp2_with fail;refine (mr.out _).mono ?_;rintro e cf ⟨s,rfl,dZ,bf,o'⟩;have fH:=I (jU.out.below bf);have dc:=I (chain bu.out bf (by omega));have bc:=I dZ;clear cn bY c0 c1 c2 c3 c4 f0 f1 f2 f3 f4 bf dZ;obtain⟨c0,c1,c2,c3,c4,f0,f1,f2,f3,f4⟩:=fH.out.cells;obtain⟨T,tJ⟩:∃T,ax s=T:=⟨_,rfl⟩;have RP:=I tJ;rw[tJ];clear tJ;go_wp2_with fail;obtain⟨aM,aG,bj,bq,bA,_,_,_,_,_⟩:=(fH.out.set (.int .u8 5) (.int .i64 0) (.int .u64 0) (.string T) (.slice J 0 0)).cells;exact bI (v:=.tuple #[.agg #[.int .u8 5,.int .i64 0,.int .u64 0,.string T,.slice J 0 0],.bool ai]) (by simp[bK,Ja,go_sem,aM,aG,bj,bq,bA]) rfl ⟨5,0,s,.inr ⟨aa,rfl,rfl,bc.out,o'⟩,by rw[RP.out];exact⟨rfl,dG dc.out (by omega) _ _ _ _ _⟩⟩
theorem MD (t:ByteArray):t.toList.isEmpty=au (t.size=0):=by
 rw[lL];have h:t.data.toList.length=t.size:=by rw[uz];rfl
 rw[←h];cases t.data.toList with
 | nil=>rfl
 | cons c r=>rfl
end Go.Proofs.YtkhphoonnkoipaaGreatDoor
