/- Lemmas. -/
import Derived.Test.YtkhphoonnkoipaaGreatDoorVaap
import Derived.Laws.EntriesVeiled
set_option linter.all false
set_option maxHeartbeats 8000000
set_option maxRecDepth 4000
open Go.Proofs.Tryz Go.RowKit Go.Lib
open Option renaming none→J,some→U
open Bool renaming true→ai,false→ab
open Decidable renaming decide→au
open Go renaming World→af,Value→aw,Calls→aq,results→bK,Addr→ho
open Go.RowKit renaming Below→ah,Hid→aj
open Go.Proofs.Tryz renaming prog→ak
namespace Go.Proofs.YtkhphoonnkoipaaGreatDoor
theorem aaD (n b:Int) (t:ByteArray) (bM:Option ho) (bC bN c:Nat) (w:af) (aa:-9223372036854775808≤n) (ae:n≤9223372036854775807) :
 aq ak 14 #[bw 4 n b t (.slice bM bC bN),.int .u8 c] w fun e w'=>e=.returned (.tuple #[hA 4 n b t (.slice bM bC bN) (au (n<0)) (ax (o.bs n.natAbs)),.bool (au (bC=0∧(c=73∨c=76)∧cJ n∧b=0∧t.size=0))])∧ah w.heap.size w w':=by
 obtain⟨dQ,qR⟩:∃q,((bC:Int)==0)=q:=⟨_,rfl⟩;obtain⟨p0,alp⟩:∃q,((c:Int)==73)=q:=⟨_,rfl⟩;obtain⟨Db,alq⟩:∃q,((c:Int)==76)=q:=⟨_,rfl⟩;obtain⟨qO,SG⟩:∃q,au (cJ n)=q:=⟨_,rfl⟩;obtain⟨iR,tV⟩:∃q,(b==0)=q:=⟨_,rfl⟩;obtain⟨yz,GY⟩:∃q,t.toList.isEmpty=q:=⟨_,rfl⟩;have bS:au (bC=0∧(c=73∨c=76)∧cJ n∧b=0∧t.size=0)=(dQ&&((p0||Db)&&(qO&&(iR&&yz)))):=by
  rw[mg,ij];rw[←qR];rw[←alp];rw[←alq];rw[←SG];rw[←tV];rw[←GY];try rw[AK]
  simp only[s6,Bool.or_eq_true,ij,gy];try unfold cJ
  omega
 rw[bS];clear bS;have sL:aj (∀W,aq ak 50 #[.int .i64 n] W fun e w'=>e=.returned (.agg #[.bool (au (n<0)),.string (ax (o.bs n.natAbs))])∧ah W.heap.size W w'):=I (fun W=>by
  have:=Kg n W aa ae;rw[KG aa ae] at this;exact this)
 have pT:aj (∀W,aq ak 51 #[.int .i64 n] W fun e w'=>e=.returned (.bool qO)∧W=w'):=I (fun W=>by rw[←SG];exact GD n W);clear aa ae SG;generalize au (n<0)=g at *;generalize ax (o.bs n.natAbs)=S at *;have bF:=I (j6.new w 4 n b t (.slice bM bC bN));obtain⟨gd,iv⟩:∃gd,(((w.alloc (.cells #[.int .u8 4,.int .i64 n,.int .u64 b,.string t,.slice bM bC bN] 28)).alloc (.cells #[.int .u8 0,.int .i64 0,.int .u64 0,.string ⟨#[]⟩,.slice J 0 0,.bool ab,.string ⟨#[]⟩] 48)).alloc (.cells #[.int .u8 4,.int .i64 n,.int .u64 b,.string t,.slice bM bC bN,.bool ab,.string ⟨#[]⟩] 48)).alloc (.cells #[.int .u8 4,.int .i64 n,.int .u64 b,.string t,.slice bM bC bN] 28)=gd:=⟨_,rfl⟩;rw[iv] at bF;unfold bw hA;obtain⟨a0,b1,a2,a3,a4,_,_,_,_,_⟩:=bF.out.l.cells;have key:((dQ=ab)∨(dQ=ai∧p0=ab∧Db=ab))∨((dQ=ai∧p0=ai∧qO=ab)∨(dQ=ai∧p0=ai∧qO=ai∧iR=ab)∨(dQ=ai∧p0=ai∧qO=ai∧iR=ai)∨(dQ=ai∧p0=ab∧Db=ai∧qO=ab)∨(dQ=ai∧p0=ab∧Db=ai∧qO=ai∧iR=ab)∨(dQ=ai∧p0=ab∧Db=ai∧qO=ai∧iR=ai)):=by
  cases dQ<;>cases p0<;>cases Db<;>cases qO<;>cases iR<;>simp
 rcases key with key | key
 ·rcases key with rfl | ⟨rfl,rfl,rfl⟩;all_goals
   simp only[ri,sg,Bool.or_true,OY,Jx];go_enter sj,sh;go_wp2_with fail;refine (sL.out _).mono ?_;rintro e cf ⟨rfl,bf⟩;have G1:=I (bF.out.below bf);have lU:=I (G1.out.AD g S);clear bf a0 b1 a2 a3 a4;obtain⟨dO,dV,dS,kr,j8,k7,k8,_,_,_,_,_,wO,u16⟩:=G1.out.u.cells;obtain⟨gj,hN⟩:∃gj,(cf.setCell ⟨w.heap.size+2,5,J⟩ (.bool g)).setCell ⟨w.heap.size+2,6,J⟩ (.string S)=gj:=⟨_,rfl⟩;rw[hN] at lU;obtain⟨a0,b1,a2,a3,a4,_,_,_,_,_⟩:=lU.out.l.cells;obtain⟨b0,bD,cX,dU,e9,hj,kp,l4,kq,iZ⟩:=lU.out.q.cells;have ew:=I (lU.out.Yr);obtain⟨fm,l3⟩:∃fm,gj.setCell ⟨w.heap.size+3,1,J⟩ (.int .i64 0)=fm:=⟨_,rfl⟩;rw[l3] at ew;obtain⟨v0,v1,v2,v3,v4,v5,v6,_,_,_,_,_,_,_⟩:=ew.out.u.cells;obtain⟨jW,s1,s2,jk,h',_,_,_,_,_⟩:=ew.out.q.cells;obtain⟨cl,bH,cN,fV,ie,k9,la,f0,f1,f2,f3,f4,f5,f6⟩:=ew.out.r.cells;go_wp2;go_region;go_wp2_with fail;have aA:=(ew.out.r.set (.int .u8 4) (.int .i64 n) (.int .u64 b) (.string t) (.slice bM bC bN) (.bool g) (.string S)).drew.cells;have az:=(pd ew.out.low (show w.heap.size≤w.heap.size+1 by omega) (.int .u8 4) (.int .i64 n) (.int .u64 b) (.string t) (.slice bM bC bN) (.bool g) (.string S)).drew;clear v0 v1 v2 v3 v4 v5 v6 jW s1 s2 jk h' cl bH cN fV ie k9 la f0 f1 f2 f3 f4 f5 f6 a0 b1 a2 a3 a4 b0 bD cX dU e9 hj kp l4 kq iZ;generalize l5:(iY fm (w.heap.size+1) (.int .u8 4) (.int .i64 n) (.int .u64 b) (.string t) (.slice bM bC bN) (.bool g) (.string S)).drew=vc at aA az;clear l5;obtain⟨aM,aG,bj,bq,bA,i',ja,_,_,_,_,_,_,_⟩:=aA;exact bI (v:=.tuple #[.agg #[.int .u8 4,.int .i64 n,.int .u64 b,.string t,.slice bM bC bN,.bool g,.string S],.bool ab]) (by simp[bK,mN,go_sem,aM,aG,bj,bq,bA,i',ja]) rfl ⟨rfl,az⟩
 ·rcases key with ⟨rfl,rfl,rfl⟩ | ⟨rfl,rfl,rfl,rfl⟩ | ⟨rfl,rfl,rfl,rfl⟩ | ⟨rfl,rfl,rfl,rfl⟩ | ⟨rfl,rfl,rfl,rfl,rfl⟩ | ⟨rfl,rfl,rfl,rfl,rfl⟩;all_goals
   simp only[ri,sg,Bool.or_true,OY,Jx];go_enter sj,sh;go_wp2_with fail;refine (sL.out _).mono ?_;rintro e cf ⟨rfl,bf⟩;have G1:=I (bF.out.below bf);have lU:=I (G1.out.AD g S);clear bf a0 b1 a2 a3 a4;obtain⟨dO,dV,dS,kr,j8,k7,k8,_,_,_,_,_,wO,u16⟩:=G1.out.u.cells;obtain⟨gj,hN⟩:∃gj,(cf.setCell ⟨w.heap.size+2,5,J⟩ (.bool g)).setCell ⟨w.heap.size+2,6,J⟩ (.string S)=gj:=⟨_,rfl⟩;rw[hN] at lU;obtain⟨a0,b1,a2,a3,a4,_,_,_,_,_⟩:=lU.out.l.cells;go_wp2_with fail;refine (pT.out _).mono ?_;rintro e fb ⟨rfl,rfl⟩;obtain⟨b0,bD,cX,dU,e9,hj,kp,l4,kq,iZ⟩:=lU.out.q.cells;have ew:=I (lU.out.Yr);obtain⟨fm,l3⟩:∃fm,gj.setCell ⟨w.heap.size+3,1,J⟩ (.int .i64 0)=fm:=⟨_,rfl⟩;rw[l3] at ew;clear dO dV dS kr j8 k7 k8 wO u16 hN;obtain⟨dO,dV,dS,kr,j8,k7,k8,_,_,_,_,_,_,_⟩:=ew.out.u.cells;obtain⟨jW,s1,s2,jk,h',_,_,_,_,_⟩:=ew.out.q.cells;obtain⟨cl,bH,cN,fV,ie,k9,la,f0,f1,f2,f3,f4,f5,f6⟩:=ew.out.r.cells;go_wp2;go_region;go_wp2_with fail;have aA:=(ew.out.r.set (.int .u8 4) (.int .i64 n) (.int .u64 b) (.string t) (.slice bM bC bN) (.bool g) (.string S)).drew.cells;have az:=(pd ew.out.low (show w.heap.size≤w.heap.size+1 by omega) (.int .u8 4) (.int .i64 n) (.int .u64 b) (.string t) (.slice bM bC bN) (.bool g) (.string S)).drew;clear dO dV dS kr j8 k7 k8 jW s1 s2 jk h' cl bH cN fV ie k9 la f0 f1 f2 f3 f4 f5 f6 a0 b1 a2 a3 a4 b0 bD cX dU e9 hj kp l4 kq iZ;generalize l5:(iY fm (w.heap.size+1) (.int .u8 4) (.int .i64 n) (.int .u64 b) (.string t) (.slice bM bC bN) (.bool g) (.string S)).drew=vc at aA az;clear l5;obtain⟨aM,aG,bj,bq,bA,i',ja,_,_,_,_,_,_,_⟩:=aA;first
   | exact bI (v:=.tuple #[.agg #[.int .u8 4,.int .i64 n,.int .u64 b,.string t,.slice bM bC bN,.bool g,.string S],.bool ab]) (by simp[bK,mN,go_sem,aM,aG,bj,bq,bA,i',ja]) rfl ⟨rfl,az⟩
   | exact bI (v:=.tuple #[.agg #[.int .u8 4,.int .i64 n,.int .u64 b,.string t,.slice bM bC bN,.bool g,.string S],.bool yz]) (by simp[bK,mN,go_sem,aM,aG,bj,bq,bA,i',ja]) rfl ⟨rfl,az⟩
theorem aaE (n b:Int) (t:ByteArray) (bM:Option ho) (bC bN c:Nat) (A bm:Int) (aB:o.bO A) (yB:∀W,aq ak 52 #[.string t,.int .i64 10] W fun e w'=>e=.returned (.tuple #[.agg #[.bool (au (A<0)),.string (ax (o.bs A.natAbs))],.int .i64 bm])∧ah W.heap.size W w') (w:af) (bd:cJ A) (nj:fU A=.tuple #[.int .i64 A,.bool ai]) :
 aq ak 14 #[bw 5 n b t (.slice bM bC bN),.int .u8 c] w fun e w'=>e=.returned (.tuple #[hA 5 n b t (.slice bM bC bN) (au (A<0)) (ax (o.bs A.natAbs)),.bool ab])∧ah w.heap.size w w':=by
 obtain⟨dQ,qR⟩:∃q,((bC:Int)==0)=q:=⟨_,rfl⟩;obtain⟨e1,sJ⟩:∃q,((c:Int)==73)=q:=⟨_,rfl⟩;obtain⟨ox,Lz⟩:∃q,(bm==0)=q:=⟨_,rfl⟩;have cR:aj (∀W,aq ak 53 #[.agg #[.bool (au (A<0)),.string (ax (o.bs A.natAbs))]] W fun e w'=>e=.returned (fU A)∧ah W.heap.size W w'):=I (fun W=>K3 A W aB);have l6:=I yB;have pT:=I (fun W=>GD A W);rw[nj] at cR;rw[bE bd] at pT;clear aB yB nj bd;generalize au (A<0)=g at *;generalize ax (o.bs A.natAbs)=S at *;have bF:=I (j6.new w 5 n b t (.slice bM bC bN));obtain⟨gd,iv⟩:∃gd,(((w.alloc (.cells #[.int .u8 5,.int .i64 n,.int .u64 b,.string t,.slice bM bC bN] 28)).alloc (.cells #[.int .u8 0,.int .i64 0,.int .u64 0,.string ⟨#[]⟩,.slice J 0 0,.bool ab,.string ⟨#[]⟩] 48)).alloc (.cells #[.int .u8 5,.int .i64 n,.int .u64 b,.string t,.slice bM bC bN,.bool ab,.string ⟨#[]⟩] 48)).alloc (.cells #[.int .u8 5,.int .i64 n,.int .u64 b,.string t,.slice bM bC bN] 28)=gd:=⟨_,rfl⟩;rw[iv] at bF;unfold bw hA;obtain⟨a0,b1,a2,a3,a4,_,_,_,_,_⟩:=bF.out.l.cells;have key:((dQ=ab)∨(dQ=ai∧e1=ab)∨(dQ=ai∧e1=ai∧ox=ab))∨((dQ=ai∧e1=ai∧ox=ai)):=by
  cases dQ<;>cases e1<;>cases ox<;>simp
 rcases key with key | key
 ·rcases key with rfl | ⟨rfl,rfl⟩ | ⟨rfl,rfl,rfl⟩;all_goals
   go_enter sj,sh;go_wp2_with fail;refine (l6.out _).mono ?_;rintro e cf ⟨rfl,bf⟩;obtain⟨gj,hN⟩:∃gj,cf.alloc (.cells #[.bool g,.string S] 46)=gj:=⟨_,rfl⟩;have cL:ah cf.heap.size cf gj:=by rw[←hN];exact (aK _ _).alloc (aC _) _
   have lU:=I ((bF.out.below bf).below cL);have qS:aj (aI gj cf.heap.size 46 (.bool g) (.string S)):=I (by rw[←hN];exact aI.new _ _ _ _);have b5:=(bF.out.below bf).size;clear bf cL a0 b1 a2 a3 a4;obtain⟨c0,c1,_,_⟩:=qS.out.cells;go_wp2_with fail;refine (cR.out _).mono ?_;rintro e fb ⟨rfl,gY⟩;have nN:=I (lU.out.below gY);have wP:=I (qS.out.below gY);have kL:=I (nN.out.AD g S);clear c0 c1 gY hN;obtain⟨c0,c1,_,_⟩:=wP.out.cells;obtain⟨dO,dV,dS,kr,j8,k7,k8,_,_,_,_,_,wO,u16⟩:=nN.out.u.cells;obtain⟨nk,wQ⟩:∃nk,(fb.setCell ⟨w.heap.size+2,5,J⟩ (.bool g)).setCell ⟨w.heap.size+2,6,J⟩ (.string S)=nk:=⟨_,rfl⟩;rw[wQ] at kL;obtain⟨a0,b1,a2,a3,a4,_,_,_,_,_⟩:=kL.out.l.cells;obtain⟨b0,bD,cX,dU,e9,hj,kp,l4,kq,iZ⟩:=kL.out.q.cells;have ew:=I kL.out.empty;obtain⟨fm,l3⟩:∃fm,nk.setCell ⟨w.heap.size+3,3,J⟩ (.string ⟨#[]⟩)=fm:=⟨_,rfl⟩;rw[l3] at ew;obtain⟨v0,v1,v2,v3,v4,v5,v6,_,_,_,_,_,_,_⟩:=ew.out.u.cells;obtain⟨jW,s1,s2,jk,h',_,_,_,_,_⟩:=ew.out.q.cells;obtain⟨cl,bH,cN,fV,ie,k9,la,f0,f1,f2,f3,f4,f5,f6⟩:=ew.out.r.cells;go_wp2;go_region;go_wp2_with fail;have aA:=(ew.out.r.set (.int .u8 5) (.int .i64 n) (.int .u64 b) (.string t) (.slice bM bC bN) (.bool g) (.string S)).drew.cells;have az:=(pd ew.out.low (show w.heap.size≤w.heap.size+1 by omega) (.int .u8 5) (.int .i64 n) (.int .u64 b) (.string t) (.slice bM bC bN) (.bool g) (.string S)).drew;clear v0 v1 v2 v3 v4 v5 v6 jW s1 s2 jk h' cl bH cN fV ie k9 la f0 f1 f2 f3 f4 f5 f6 c0 c1 a0 b1 a2 a3 a4 b0 bD cX dU e9 hj kp l4 kq iZ;generalize l5:(iY fm (w.heap.size+1) (.int .u8 5) (.int .i64 n) (.int .u64 b) (.string t) (.slice bM bC bN) (.bool g) (.string S)).drew=vc at aA az;clear l5;obtain⟨aM,aG,bj,bq,bA,i',ja,_,_,_,_,_,_,_⟩:=aA;exact bI (v:=.tuple #[.agg #[.int .u8 5,.int .i64 n,.int .u64 b,.string t,.slice bM bC bN,.bool g,.string S],.bool ab]) (by simp[bK,mN,go_sem,aM,aG,bj,bq,bA,i',ja]) rfl ⟨rfl,az⟩
 ·obtain⟨rfl,rfl,rfl⟩:=key;go_enter sj,sh;go_wp2_with fail;refine (l6.out _).mono ?_;rintro e cf ⟨rfl,bf⟩;obtain⟨gj,hN⟩:∃gj,cf.alloc (.cells #[.bool g,.string S] 46)=gj:=⟨_,rfl⟩;have cL:ah cf.heap.size cf gj:=by rw[←hN];exact (aK _ _).alloc (aC _) _
  have lU:=I ((bF.out.below bf).below cL);have qS:aj (aI gj cf.heap.size 46 (.bool g) (.string S)):=I (by rw[←hN];exact aI.new _ _ _ _);have b5:=(bF.out.below bf).size;clear bf cL a0 b1 a2 a3 a4;obtain⟨c0,c1,_,_⟩:=qS.out.cells;go_wp2_with fail;refine (cR.out _).mono ?_;rintro e fb ⟨rfl,gY⟩;have nN:=I (lU.out.below gY);have wP:=I (qS.out.below gY);have kL:=I (nN.out.AD g S);clear c0 c1 gY hN;obtain⟨c0,c1,_,_⟩:=wP.out.cells;obtain⟨dO,dV,dS,kr,j8,k7,k8,_,_,_,_,_,wO,u16⟩:=nN.out.u.cells;obtain⟨nk,wQ⟩:∃nk,(fb.setCell ⟨w.heap.size+2,5,J⟩ (.bool g)).setCell ⟨w.heap.size+2,6,J⟩ (.string S)=nk:=⟨_,rfl⟩;rw[wQ] at kL;obtain⟨a0,b1,a2,a3,a4,_,_,_,_,_⟩:=kL.out.l.cells;obtain⟨b0,bD,cX,dU,e9,hj,kp,l4,kq,iZ⟩:=kL.out.q.cells;have ew:=I kL.out.empty;obtain⟨fm,l3⟩:∃fm,nk.setCell ⟨w.heap.size+3,3,J⟩ (.string ⟨#[]⟩)=fm:=⟨_,rfl⟩;rw[l3] at ew;go_wp2_with fail;refine (pT.out _).mono ?_;rintro e qJ ⟨rfl,rfl⟩;clear dO dV dS kr j8 k7 k8 wO u16;obtain⟨dO,dV,dS,kr,j8,k7,k8,_,_,_,_,_,_,_⟩:=ew.out.u.cells;obtain⟨jW,s1,s2,jk,h',_,_,_,_,_⟩:=ew.out.q.cells;obtain⟨cl,bH,cN,fV,ie,k9,la,f0,f1,f2,f3,f4,f5,f6⟩:=ew.out.r.cells;go_wp2;go_region;go_wp2_with fail;have aA:=(ew.out.r.set (.int .u8 5) (.int .i64 n) (.int .u64 b) (.string t) (.slice bM bC bN) (.bool g) (.string S)).drew.cells;have az:=(pd ew.out.low (show w.heap.size≤w.heap.size+1 by omega) (.int .u8 5) (.int .i64 n) (.int .u64 b) (.string t) (.slice bM bC bN) (.bool g) (.string S)).drew;clear dO dV dS kr j8 k7 k8 jW s1 s2 jk h' cl bH cN fV ie k9 la f0 f1 f2 f3 f4 f5 f6 c0 c1 a0 b1 a2 a3 a4 b0 bD cX dU e9 hj kp l4 kq iZ;generalize l5:(iY fm (w.heap.size+1) (.int .u8 5) (.int .i64 n) (.int .u64 b) (.string t) (.slice bM bC bN) (.bool g) (.string S)).drew=vc at aA az;clear l5;obtain⟨aM,aG,bj,bq,bA,i',ja,_,_,_,_,_,_,_⟩:=aA;exact bI (v:=.tuple #[.agg #[.int .u8 5,.int .i64 n,.int .u64 b,.string t,.slice bM bC bN,.bool g,.string S],.bool ab]) (by simp[bK,mN,go_sem,aM,aG,bj,bq,bA,i',ja]) rfl ⟨rfl,az⟩
theorem aaF (n b:Int) (t:ByteArray) (bM:Option ho) (bC bN c:Nat) (A bm:Int) (aB:o.bO A) (yB:∀W,aq ak 52 #[.string t,.int .i64 10] W fun e w'=>e=.returned (.tuple #[.agg #[.bool (au (A<0)),.string (ax (o.bs A.natAbs))],.int .i64 bm])∧ah W.heap.size W w') (w:af) (bd:¬ cJ A) (nj:fU A=.tuple #[.int .i64 A,.bool ai]) :
 aq ak 14 #[bw 5 n b t (.slice bM bC bN),.int .u8 c] w fun e w'=>e=.returned (.tuple #[hA 5 n b t (.slice bM bC bN) (au (A<0)) (ax (o.bs A.natAbs)),.bool (au (bC=0∧c=73∧bm=0∧n=0∧b=0))])∧ah w.heap.size w w':=by
 obtain⟨dQ,qR⟩:∃q,((bC:Int)==0)=q:=⟨_,rfl⟩;obtain⟨e1,sJ⟩:∃q,((c:Int)==73)=q:=⟨_,rfl⟩;obtain⟨ox,Lz⟩:∃q,(bm==0)=q:=⟨_,rfl⟩;obtain⟨js,wM⟩:∃q,(n==0)=q:=⟨_,rfl⟩;obtain⟨iR,tV⟩:∃q,(b==0)=q:=⟨_,rfl⟩;have bS:au (bC=0∧c=73∧bm=0∧n=0∧b=0)=(dQ&&(e1&&(ox&&(js&&iR)))):=by
  rw[mg,ij];rw[←qR];rw[←sJ];rw[←Lz];rw[←wM];rw[←tV];try rw[AK]
  simp only[s6,ij,gy];try unfold cJ
  omega
 rw[bS];clear bS;have cR:aj (∀W,aq ak 53 #[.agg #[.bool (au (A<0)),.string (ax (o.bs A.natAbs))]] W fun e w'=>e=.returned (fU A)∧ah W.heap.size W w'):=I (fun W=>K3 A W aB);have l6:=I yB;have pT:=I (fun W=>GD A W);rw[nj] at cR;rw[bx bd] at pT;clear aB yB nj bd;generalize au (A<0)=g at *;generalize ax (o.bs A.natAbs)=S at *;have bF:=I (j6.new w 5 n b t (.slice bM bC bN));obtain⟨gd,iv⟩:∃gd,(((w.alloc (.cells #[.int .u8 5,.int .i64 n,.int .u64 b,.string t,.slice bM bC bN] 28)).alloc (.cells #[.int .u8 0,.int .i64 0,.int .u64 0,.string ⟨#[]⟩,.slice J 0 0,.bool ab,.string ⟨#[]⟩] 48)).alloc (.cells #[.int .u8 5,.int .i64 n,.int .u64 b,.string t,.slice bM bC bN,.bool ab,.string ⟨#[]⟩] 48)).alloc (.cells #[.int .u8 5,.int .i64 n,.int .u64 b,.string t,.slice bM bC bN] 28)=gd:=⟨_,rfl⟩;rw[iv] at bF;unfold bw hA;obtain⟨a0,b1,a2,a3,a4,_,_,_,_,_⟩:=bF.out.l.cells;have key:((dQ=ab)∨(dQ=ai∧e1=ab)∨(dQ=ai∧e1=ai∧ox=ab))∨((dQ=ai∧e1=ai∧ox=ai∧js=ab)∨(dQ=ai∧e1=ai∧ox=ai∧js=ai∧iR=ab)∨(dQ=ai∧e1=ai∧ox=ai∧js=ai∧iR=ai)):=by
  cases dQ<;>cases e1<;>cases ox<;>cases js<;>cases iR<;>simp
 rcases key with key | key
 ·rcases key with rfl | ⟨rfl,rfl⟩ | ⟨rfl,rfl,rfl⟩;all_goals
   simp only[ri,sg];go_enter sj,sh;go_wp2_with fail;refine (l6.out _).mono ?_;rintro e cf ⟨rfl,bf⟩;obtain⟨gj,hN⟩:∃gj,cf.alloc (.cells #[.bool g,.string S] 46)=gj:=⟨_,rfl⟩;have cL:ah cf.heap.size cf gj:=by rw[←hN];exact (aK _ _).alloc (aC _) _
   have lU:=I ((bF.out.below bf).below cL);have qS:aj (aI gj cf.heap.size 46 (.bool g) (.string S)):=I (by rw[←hN];exact aI.new _ _ _ _);have b5:=(bF.out.below bf).size;clear bf cL a0 b1 a2 a3 a4;obtain⟨c0,c1,_,_⟩:=qS.out.cells;go_wp2_with fail;refine (cR.out _).mono ?_;rintro e fb ⟨rfl,gY⟩;have nN:=I (lU.out.below gY);have wP:=I (qS.out.below gY);have kL:=I (nN.out.AD g S);clear c0 c1 gY hN;obtain⟨c0,c1,_,_⟩:=wP.out.cells;obtain⟨dO,dV,dS,kr,j8,k7,k8,_,_,_,_,_,wO,u16⟩:=nN.out.u.cells;obtain⟨nk,wQ⟩:∃nk,(fb.setCell ⟨w.heap.size+2,5,J⟩ (.bool g)).setCell ⟨w.heap.size+2,6,J⟩ (.string S)=nk:=⟨_,rfl⟩;rw[wQ] at kL;obtain⟨a0,b1,a2,a3,a4,_,_,_,_,_⟩:=kL.out.l.cells;obtain⟨b0,bD,cX,dU,e9,hj,kp,l4,kq,iZ⟩:=kL.out.q.cells;have ew:=I kL.out.empty;obtain⟨fm,l3⟩:∃fm,nk.setCell ⟨w.heap.size+3,3,J⟩ (.string ⟨#[]⟩)=fm:=⟨_,rfl⟩;rw[l3] at ew;obtain⟨v0,v1,v2,v3,v4,v5,v6,_,_,_,_,_,_,_⟩:=ew.out.u.cells;obtain⟨jW,s1,s2,jk,h',_,_,_,_,_⟩:=ew.out.q.cells;obtain⟨cl,bH,cN,fV,ie,k9,la,f0,f1,f2,f3,f4,f5,f6⟩:=ew.out.r.cells;go_wp2;go_region;go_wp2_with fail;have aA:=(ew.out.r.set (.int .u8 5) (.int .i64 n) (.int .u64 b) (.string t) (.slice bM bC bN) (.bool g) (.string S)).drew.cells;have az:=(pd ew.out.low (show w.heap.size≤w.heap.size+1 by omega) (.int .u8 5) (.int .i64 n) (.int .u64 b) (.string t) (.slice bM bC bN) (.bool g) (.string S)).drew;clear v0 v1 v2 v3 v4 v5 v6 jW s1 s2 jk h' cl bH cN fV ie k9 la f0 f1 f2 f3 f4 f5 f6 c0 c1 a0 b1 a2 a3 a4 b0 bD cX dU e9 hj kp l4 kq iZ;generalize l5:(iY fm (w.heap.size+1) (.int .u8 5) (.int .i64 n) (.int .u64 b) (.string t) (.slice bM bC bN) (.bool g) (.string S)).drew=vc at aA az;clear l5;obtain⟨aM,aG,bj,bq,bA,i',ja,_,_,_,_,_,_,_⟩:=aA;exact bI (v:=.tuple #[.agg #[.int .u8 5,.int .i64 n,.int .u64 b,.string t,.slice bM bC bN,.bool g,.string S],.bool ab]) (by simp[bK,mN,go_sem,aM,aG,bj,bq,bA,i',ja]) rfl ⟨rfl,az⟩
 ·rcases key with ⟨rfl,rfl,rfl,rfl⟩ | ⟨rfl,rfl,rfl,rfl,rfl⟩ | ⟨rfl,rfl,rfl,rfl,rfl⟩;all_goals
   simp only[ri,sg];go_enter sj,sh;go_wp2_with fail;refine (l6.out _).mono ?_;rintro e cf ⟨rfl,bf⟩;obtain⟨gj,hN⟩:∃gj,cf.alloc (.cells #[.bool g,.string S] 46)=gj:=⟨_,rfl⟩;have cL:ah cf.heap.size cf gj:=by rw[←hN];exact (aK _ _).alloc (aC _) _
   have lU:=I ((bF.out.below bf).below cL);have qS:aj (aI gj cf.heap.size 46 (.bool g) (.string S)):=I (by rw[←hN];exact aI.new _ _ _ _);have b5:=(bF.out.below bf).size;clear bf cL a0 b1 a2 a3 a4;obtain⟨c0,c1,_,_⟩:=qS.out.cells;go_wp2_with fail;refine (cR.out _).mono ?_;rintro e fb ⟨rfl,gY⟩;have nN:=I (lU.out.below gY);have wP:=I (qS.out.below gY);have kL:=I (nN.out.AD g S);clear c0 c1 gY hN;obtain⟨c0,c1,_,_⟩:=wP.out.cells;obtain⟨dO,dV,dS,kr,j8,k7,k8,_,_,_,_,_,wO,u16⟩:=nN.out.u.cells;obtain⟨nk,wQ⟩:∃nk,(fb.setCell ⟨w.heap.size+2,5,J⟩ (.bool g)).setCell ⟨w.heap.size+2,6,J⟩ (.string S)=nk:=⟨_,rfl⟩;rw[wQ] at kL;obtain⟨a0,b1,a2,a3,a4,_,_,_,_,_⟩:=kL.out.l.cells;obtain⟨b0,bD,cX,dU,e9,hj,kp,l4,kq,iZ⟩:=kL.out.q.cells;have ew:=I kL.out.empty;obtain⟨fm,l3⟩:∃fm,nk.setCell ⟨w.heap.size+3,3,J⟩ (.string ⟨#[]⟩)=fm:=⟨_,rfl⟩;rw[l3] at ew;go_wp2_with fail;refine (pT.out _).mono ?_;rintro e qJ ⟨rfl,rfl⟩;clear dO dV dS kr j8 k7 k8 wO u16;obtain⟨dO,dV,dS,kr,j8,k7,k8,_,_,_,_,_,_,_⟩:=ew.out.u.cells;obtain⟨jW,s1,s2,jk,h',_,_,_,_,_⟩:=ew.out.q.cells;obtain⟨cl,bH,cN,fV,ie,k9,la,f0,f1,f2,f3,f4,f5,f6⟩:=ew.out.r.cells;go_wp2;go_region;go_wp2_with fail;have aA:=(ew.out.r.set (.int .u8 5) (.int .i64 n) (.int .u64 b) (.string t) (.slice bM bC bN) (.bool g) (.string S)).drew.cells;have az:=(pd ew.out.low (show w.heap.size≤w.heap.size+1 by omega) (.int .u8 5) (.int .i64 n) (.int .u64 b) (.string t) (.slice bM bC bN) (.bool g) (.string S)).drew;clear dO dV dS kr j8 k7 k8 jW s1 s2 jk h' cl bH cN fV ie k9 la f0 f1 f2 f3 f4 f5 f6 c0 c1 a0 b1 a2 a3 a4 b0 bD cX dU e9 hj kp l4 kq iZ;generalize l5:(iY fm (w.heap.size+1) (.int .u8 5) (.int .i64 n) (.int .u64 b) (.string t) (.slice bM bC bN) (.bool g) (.string S)).drew=vc at aA az;clear l5;obtain⟨aM,aG,bj,bq,bA,i',ja,_,_,_,_,_,_,_⟩:=aA;first
   | exact bI (v:=.tuple #[.agg #[.int .u8 5,.int .i64 n,.int .u64 b,.string t,.slice bM bC bN,.bool g,.string S],.bool ab]) (by simp[bK,mN,go_sem,aM,aG,bj,bq,bA,i',ja]) rfl ⟨rfl,az⟩
   | exact bI (v:=.tuple #[.agg #[.int .u8 5,.int .i64 n,.int .u64 b,.string t,.slice bM bC bN,.bool g,.string S],.bool ai]) (by simp[bK,mN,go_sem,aM,aG,bj,bq,bA,i',ja]) rfl ⟨rfl,az⟩
theorem aaG (n b:Int) (t:ByteArray) (bM:Option ho) (bC bN c:Nat) (A bm:Int) (aB:o.bO A) (yB:∀W,aq ak 52 #[.string t,.int .i64 10] W fun e w'=>e=.returned (.tuple #[.agg #[.bool (au (A<0)),.string (ax (o.bs A.natAbs))],.int .i64 bm])∧ah W.heap.size W w') (w:af) (bd:¬ cJ A) (nj:fU A=.tuple #[.int .i64 0,.bool ab]) :
 aq ak 14 #[bw 5 n b t (.slice bM bC bN),.int .u8 c] w fun e w'=>e=.returned (.tuple #[hA 5 n b t (.slice bM bC bN) (au (A<0)) (ax (o.bs A.natAbs)),.bool (au (bC=0∧c=73∧bm=0∧n=0∧b=0))])∧ah w.heap.size w w':=by
 obtain⟨dQ,qR⟩:∃q,((bC:Int)==0)=q:=⟨_,rfl⟩;obtain⟨e1,sJ⟩:∃q,((c:Int)==73)=q:=⟨_,rfl⟩;obtain⟨ox,Lz⟩:∃q,(bm==0)=q:=⟨_,rfl⟩;obtain⟨js,wM⟩:∃q,(n==0)=q:=⟨_,rfl⟩;obtain⟨iR,tV⟩:∃q,(b==0)=q:=⟨_,rfl⟩;have bS:au (bC=0∧c=73∧bm=0∧n=0∧b=0)=(dQ&&(e1&&(ox&&(js&&iR)))):=by
  rw[mg,ij];rw[←qR];rw[←sJ];rw[←Lz];rw[←wM];rw[←tV];try rw[AK]
  simp only[s6,ij,gy];try unfold cJ
  omega
 rw[bS];clear bS;have cR:aj (∀W,aq ak 53 #[.agg #[.bool (au (A<0)),.string (ax (o.bs A.natAbs))]] W fun e w'=>e=.returned (fU A)∧ah W.heap.size W w'):=I (fun W=>K3 A W aB);have l6:=I yB;have pT:=I (fun W=>GD A W);rw[nj] at cR;rw[bx bd] at pT;clear aB yB nj bd;generalize au (A<0)=g at *;generalize ax (o.bs A.natAbs)=S at *;have bF:=I (j6.new w 5 n b t (.slice bM bC bN));obtain⟨gd,iv⟩:∃gd,(((w.alloc (.cells #[.int .u8 5,.int .i64 n,.int .u64 b,.string t,.slice bM bC bN] 28)).alloc (.cells #[.int .u8 0,.int .i64 0,.int .u64 0,.string ⟨#[]⟩,.slice J 0 0,.bool ab,.string ⟨#[]⟩] 48)).alloc (.cells #[.int .u8 5,.int .i64 n,.int .u64 b,.string t,.slice bM bC bN,.bool ab,.string ⟨#[]⟩] 48)).alloc (.cells #[.int .u8 5,.int .i64 n,.int .u64 b,.string t,.slice bM bC bN] 28)=gd:=⟨_,rfl⟩;rw[iv] at bF;unfold bw hA;obtain⟨a0,b1,a2,a3,a4,_,_,_,_,_⟩:=bF.out.l.cells;have key:((dQ=ab)∨(dQ=ai∧e1=ab)∨(dQ=ai∧e1=ai∧ox=ab)∨(dQ=ai∧e1=ai∧ox=ai∧js=ab)∨(dQ=ai∧e1=ai∧ox=ai∧js=ai∧iR=ab)∨(dQ=ai∧e1=ai∧ox=ai∧js=ai∧iR=ai)):=by
  cases dQ<;>cases e1<;>cases ox<;>cases js<;>cases iR<;>simp
 rcases key with rfl | ⟨rfl,rfl⟩ | ⟨rfl,rfl,rfl⟩ | ⟨rfl,rfl,rfl,rfl⟩ | ⟨rfl,rfl,rfl,rfl,rfl⟩ | ⟨rfl,rfl,rfl,rfl,rfl⟩;all_goals
  simp only[ri,sg];go_enter sj,sh;go_wp2_with fail;refine (l6.out _).mono ?_;rintro e cf ⟨rfl,bf⟩;obtain⟨gj,hN⟩:∃gj,cf.alloc (.cells #[.bool g,.string S] 46)=gj:=⟨_,rfl⟩;have cL:ah cf.heap.size cf gj:=by rw[←hN];exact (aK _ _).alloc (aC _) _
  have lU:=I ((bF.out.below bf).below cL);have qS:aj (aI gj cf.heap.size 46 (.bool g) (.string S)):=I (by rw[←hN];exact aI.new _ _ _ _);have b5:=(bF.out.below bf).size;clear bf cL a0 b1 a2 a3 a4;obtain⟨c0,c1,_,_⟩:=qS.out.cells;go_wp2_with fail;refine (cR.out _).mono ?_;rintro e fb ⟨rfl,gY⟩;have nN:=I (lU.out.below gY);have wP:=I (qS.out.below gY);have kL:=I (nN.out.AD g S);clear c0 c1 gY hN;obtain⟨c0,c1,_,_⟩:=wP.out.cells;obtain⟨dO,dV,dS,kr,j8,k7,k8,_,_,_,_,_,wO,u16⟩:=nN.out.u.cells;obtain⟨nk,wQ⟩:∃nk,(fb.setCell ⟨w.heap.size+2,5,J⟩ (.bool g)).setCell ⟨w.heap.size+2,6,J⟩ (.string S)=nk:=⟨_,rfl⟩;rw[wQ] at kL;obtain⟨a0,b1,a2,a3,a4,_,_,_,_,_⟩:=kL.out.l.cells;obtain⟨b0,bD,cX,dU,e9,hj,kp,l4,kq,iZ⟩:=kL.out.q.cells;have ew:=I kL.out.empty;obtain⟨fm,l3⟩:∃fm,nk.setCell ⟨w.heap.size+3,3,J⟩ (.string ⟨#[]⟩)=fm:=⟨_,rfl⟩;rw[l3] at ew;obtain⟨v0,v1,v2,v3,v4,v5,v6,_,_,_,_,_,_,_⟩:=ew.out.u.cells;obtain⟨jW,s1,s2,jk,h',_,_,_,_,_⟩:=ew.out.q.cells;obtain⟨cl,bH,cN,fV,ie,k9,la,f0,f1,f2,f3,f4,f5,f6⟩:=ew.out.r.cells;go_wp2;go_region;go_wp2_with fail;have aA:=(ew.out.r.set (.int .u8 5) (.int .i64 n) (.int .u64 b) (.string t) (.slice bM bC bN) (.bool g) (.string S)).drew.cells;have az:=(pd ew.out.low (show w.heap.size≤w.heap.size+1 by omega) (.int .u8 5) (.int .i64 n) (.int .u64 b) (.string t) (.slice bM bC bN) (.bool g) (.string S)).drew;clear v0 v1 v2 v3 v4 v5 v6 jW s1 s2 jk h' cl bH cN fV ie k9 la f0 f1 f2 f3 f4 f5 f6 c0 c1 a0 b1 a2 a3 a4 b0 bD cX dU e9 hj kp l4 kq iZ;generalize l5:(iY fm (w.heap.size+1) (.int .u8 5) (.int .i64 n) (.int .u64 b) (.string t) (.slice bM bC bN) (.bool g) (.string S)).drew=vc at aA az;clear l5;obtain⟨aM,aG,bj,bq,bA,i',ja,_,_,_,_,_,_,_⟩:=aA;first
  | exact bI (v:=.tuple #[.agg #[.int .u8 5,.int .i64 n,.int .u64 b,.string t,.slice bM bC bN,.bool g,.string S],.bool ab]) (by simp[bK,mN,go_sem,aM,aG,bj,bq,bA,i',ja]) rfl ⟨rfl,az⟩
  | exact bI (v:=.tuple #[.agg #[.int .u8 5,.int .i64 n,.int .u64 b,.string t,.slice bM bC bN,.bool g,.string S],.bool ai]) (by simp[bK,mN,go_sem,aM,aG,bj,bq,bA,i',ja]) rfl ⟨rfl,az⟩
theorem nL {w w':af} {b p:Nat} {v:aw} (aY:w.grownBy w' (U b)) (an:w.cell? ⟨p,0,J⟩=U v) (hp:p<w.heap.size) (dT:p≠b):w'.cell? ⟨p,0,J⟩=U v:=by
 rw[uy (w:=w) (aY.block p hp (by intro e;injection e with e;exact dT e))];exact an
theorem C5 {W:af} {k:Nat} {v:aw} {T:TypeId} (h:W.heap[k]? = U (.cells #[v] T)):W.cell? ⟨k,0,J⟩=U v:=by simp[World.cell?,h]
def qK (w:af) (b:Nat) (L:List (Int×aw)) (eO:Int) (s:ByteArray) (pf gD gO dR dA k:Nat):Prop:=w.cell? ⟨dR,0,J⟩=U (.func (.func gO) #[] #[])∧w.cell? ⟨dA,0,J⟩=U (.func (.func gD) #[] #[])∧dR<w.heap.size∧dA<w.heap.size∧dR≠b∧dA≠b∧
 ∀how:Nat,3≤how→how<k+3→∃p,db L (eO+(how:Int))=U (cS s (.func (.func pf) #[] #[.pointer (U ⟨dR,0,J⟩),.pointer (U ⟨dA,0,J⟩),.pointer (U ⟨p,0,J⟩)]))∧w.cell? ⟨p,0,J⟩=U (.int .i64 (how:Int))∧p<w.heap.size∧p≠b
theorem qK.kept {w w':af} {b:Nat} {L:List (Int×aw)} {eO:Int} {s:ByteArray} {pf gD gO dR dA k:Nat} (h:qK w b L eO s pf gD gO dR dA k) (aY:w.grownBy w' (U b)):qK w' b L eO s pf gD gO dR dA k:=by
 obtain⟨aa,ae,aJ,bQ,dm,ga,iL⟩:=h;refine⟨nL aY aa aJ dm,nL aY ae bQ ga,cv aJ aY.size,cv bQ aY.size,dm,ga,fun how aH aT=>?_⟩;obtain⟨p,bY,fA,gW,tQ⟩:=iL how aH aT;exact⟨p,bY,nL aY fA gW tQ,cv gW aY.size,tQ⟩
theorem qK.more {w:af} {b:Nat} {L:List (Int×aw)} {eO n:Int} {s:ByteArray} {pf gD gO dR dA k p:Nat} (h:qK w b L eO s pf gD gO dR dA k) (aB:n=eO+((k:Int)+3)) (an:w.cell? ⟨p,0,J⟩=U (.int .i64 ((k:Int)+3))) (hp:p<w.heap.size) (uR:p≠b) :
 qK w b ((n,cS s (.func (.func pf) #[] #[.pointer (U ⟨dR,0,J⟩),.pointer (U ⟨dA,0,J⟩),.pointer (U ⟨p,0,J⟩)]))::L) eO s pf gD gO dR dA (k+1):=by
 obtain⟨aa,ae,aJ,bQ,dm,ga,iL⟩:=h;refine⟨aa,ae,aJ,bQ,dm,ga,fun how aH aT=>?_⟩;by_cases e:how=k+3
 ·subst e;exact⟨p,by rw[aB,show ((k+3:Nat):Int)=(k:Int)+3 by omega];simp[db],by rw[show ((k+3:Nat):Int)=(k:Int)+3 by omega];exact an,hp,uR⟩
 ·obtain⟨q,bD,cX⟩:=iL how aH (by omega);exact⟨q,by rw[db,aU (by show n≠_;omega)];exact bD,cX⟩
def yt (w:af) (L:List (Int×aw)) (eO:Int) (s:ByteArray) (pf gD gO:Nat):Prop:=∃dR dA,w.cell? ⟨dR,0,J⟩=U (.func (.func gO) #[] #[])∧w.cell? ⟨dA,0,J⟩=U (.func (.func gD) #[] #[])∧dR<w.heap.size∧dA<w.heap.size∧
 ∀how:Nat,3≤how→how<9→∃p,db L (eO+(how:Int))=U (cS s (.func (.func pf) #[] #[.pointer (U ⟨dR,0,J⟩),.pointer (U ⟨dA,0,J⟩),.pointer (U ⟨p,0,J⟩)]))∧w.cell? ⟨p,0,J⟩=U (.int .i64 (how:Int))∧p<w.heap.size
theorem qK.at {w:af} {b:Nat} {L tR:List (Int×aw)} {eO:Int} {s:ByteArray} {pf gD gO dR dA:Nat} (h:qK w b L eO s pf gD gO dR dA 6) (ao:∀(n:Int) v,eO+3≤n→n≤eO+8→db L n=U v→db tR n=U v):yt w tR eO s pf gD gO:=by
 obtain⟨aa,ae,aJ,bQ,dm,ga,iL⟩:=h;refine⟨dR,dA,aa,ae,aJ,bQ,fun how aH aT=>?_⟩;obtain⟨p,bY,fA,gW,_⟩:=iL how aH aT;exact⟨p,ao _ _ (by omega) (by omega) bY,fA,gW⟩
theorem akh (eO:Int) (s:ByteArray) (gD gO b:Nat) (L:List (Int×aw)) (w:af) (h:eR w b L) (hH:L.length≤500) (bd:-1000≤eO∧eO≤1000) :
 aq ak 33 #[.map (U b),.int .i64 eO,.string s,.func (.func gD) #[] #[],.func (.func gO) #[] #[]] w fun e w'=>e=.returned (.tuple #[])∧∃gf,eR w' b (gf++L)∧(∀x ∈ gf,eO+3≤x.1∧x.1≤eO+8)∧gf.length≤6∧w.grownBy w' (U b)∧∃dR dA,qK w' b gf eO s 67 gD gO dR dA 6:=by
 have k1:=h.lt;obtain⟨aZ,bl⟩:∃aZ,(((w.alloc (.cells #[.func (.func gD) #[] #[]] 60)).alloc (.cells #[.func (.func gO) #[] #[]] 63)).alloc (.cells #[.int .i64 3] 3))=aZ:=⟨_,rfl⟩;have dL:aZ.heap.size=w.heap.size+3:=by rw[←bl];simp
 have tP:w.grownBy aZ (U b):=by
  rw[←bl];exact ((h1 w _ _).andThen (h1 _ _ _) (fun _ e=>.inr e)).andThen (h1 _ _ _) (fun _ e=>.inr e)
 have o2:aZ.cell? ⟨w.heap.size+2,0,J⟩=U (.int .i64 3):=by
  have q:=fX ((w.alloc (.cells #[.func (.func gD) #[] #[]] 60)).alloc (.cells #[.func (.func gO) #[] #[]] 63)) (.cells #[.int .i64 3] 3);rw[bl] at q;have e:((w.alloc (.cells #[.func (.func gD) #[] #[]] 60)).alloc (.cells #[.func (.func gO) #[] #[]] 63)).heap.size=w.heap.size+2:=by simp
  rw[e] at q;simp[World.cell?,q]
 have pU:eR aZ b L:=by
  have q:w.grownBy aZ J:=by
   rw[←bl];exact ((h1 w _ J).andThen (h1 _ _ J) (fun _ e=>.inr e)).andThen (h1 _ _ J) (fun _ e=>.inr e)
  exact h.kept q (by simp)
 have bF:aj (qK aZ b [] eO s 67 gD gO (w.heap.size+1) w.heap.size 0):=I (by
  have b0:=fX w (.cells #[.func (.func gD) #[] #[]] 60);have bD:=fX (w.alloc (.cells #[.func (.func gD) #[] #[]] 60)) (.cells #[.func (.func gO) #[] #[]] 63);have AF:=(aK (w.heap.size+2) ((w.alloc (.cells #[.func (.func gD) #[] #[]] 60)).alloc (.cells #[.func (.func gO) #[] #[]] 63))).alloc (by simp) (.cells #[.int .i64 3] 3);have RS:=(aK (w.heap.size+1) (w.alloc (.cells #[.func (.func gD) #[] #[]] 60))).alloc (by simp) (.cells #[.func (.func gO) #[] #[]] 63);rw[bl] at AF;have e:(w.alloc (.cells #[.func (.func gD) #[] #[]] 60)).heap.size=w.heap.size+1:=by simp
  rw[e] at bD;refine⟨?_,?_,by omega,by omega,by omega,by omega,fun how aH aT=>by omega⟩
  ·rw[AF.cell (p:=⟨w.heap.size+1,0,J⟩) (by show w.heap.size+1<_;omega)];exact C5 bD
  ·rw[AF.cell (p:=⟨w.heap.size,0,J⟩) (by show w.heap.size<_;omega),RS.cell (p:=⟨w.heap.size,0,J⟩) (by show w.heap.size<_;omega)];exact C5 b0)
 have di:=I pU;have eK:=I tP;have bJ:=I o2;have aN:=I dL;clear h pU tP o2 dL;go_enter func33,ntmps33;go_wp2;go_loopw [10] (fun q wr=>∃(k p:Nat) (gf:List (Int×aw)),k≤6∧q=.pointer (U ⟨p,0,J⟩)∧wr.cell? ⟨p,0,J⟩=U (.int .i64 ((k:Int)+3))∧w.heap.size≤p∧p<wr.heap.size∧eR wr b (gf++L)∧gf.length=k∧aj (∀x ∈ gf,eO+3≤x.1∧x.1≤eO+8)∧w.grownBy wr (U b)∧aj (qK wr b gf eO s 67 gD gO (w.heap.size+1) w.heap.size k)) (fun q wr=>match q with | .pointer (U a)=>(match wr.cell? a with | some v=>(9-RowKit.intOf v).toNat | none=>0) | _=>0);case atStart=>exact⟨0,w.heap.size+2,[],by omega,rfl,bJ.out,by omega,by rw[aN.out];omega,di.out,rfl,I (by simp),eK.out,bF⟩
 case round=>
  obtain⟨k,p,gf,aA,rfl,an,xZ,K5,hm,ao,GI,aY,GJ⟩:=hrel;have GK:p≠b:=by omega
  have o5:=I aY;by_cases bV:k<6
  ·have aL:au ((k:Int)+3≤8)=ai:=bE (by omega);clear aY;go_wp2_with (at_mapUpdate;refine hO _ rfl (.tmp 15) (.tmp 18) (.tmp 21) 42 40 (.inl rfl) hl b _ rfl hm (by rw[ey];omega) (eO+((k:Int)+3)) (cS s (.func (.func 67) #[] #[.pointer (U ⟨w.heap.size+1,0,J⟩),.pointer (U ⟨w.heap.size,0,J⟩),.pointer (U ⟨p,0,J⟩)])) rfl rfl (by omega) ?_);intro aP hd gJ;have mu:=nL gJ an K5 GK;have dY:=gJ.size;have lY:=I (((GJ.out.kept gJ).more rfl mu (by omega) GK).kept (h1 aP (.cells #[.int .i64 ((k:Int)+3+1)] 3) _));have RT:=I ((o5.out.andThen gJ (fun _ e=>.inr e)).andThen (h1 aP (.cells #[.int .i64 ((k:Int)+3+1)] 3) _) (fun _ e=>.inr e));have yu:=I (hd.kept (h1 aP (.cells #[.int .i64 ((k:Int)+3+1)] 3) J) (by simp));clear hd gJ hm;go_wp2;go_roundw;case rel=>
    refine⟨k+1,aP.heap.size,_::gf,by omega,rfl,?_,by omega,by simp,yu.out,by simp[ao],I ?_,RT.out,lY⟩
    ·rw[show ((k+1:Nat):Int)+3=(k:Int)+3+1 by omega];simp
    ·intro x hx;rcases List.mem_cons.1 hx with rfl | hx
     ·exact⟨by show eO+3≤eO+_;omega,by show eO+_≤eO+8;omega⟩
     ·exact GI.out x hx
   case measure=>
    simp[RowKit.intOf,an];omega
  ·obtain rfl:k=6:=by omega
   clear aY;go_wp2;go_end0;exact⟨rfl,gf,hm,GI.out,by omega,o5.out,_,_,GJ.out⟩
theorem aki (eO:Int) (s:ByteArray) (gD gO b:Nat) (L:List (Int×aw)) (w:af) (h:eR w b L) (hH:L.length≤500) (bd:-1000≤eO∧eO≤1000) :
 aq ak 37 #[.map (U b),.int .i64 eO,.string s,.func (.func gD) #[] #[],.func (.func gO) #[] #[]] w fun e w'=>e=.returned (.tuple #[])∧∃gf,eR w' b (gf++L)∧(∀x ∈ gf,eO+3≤x.1∧x.1≤eO+8)∧gf.length≤6∧w.grownBy w' (U b)∧∃dR dA,qK w' b gf eO s 71 gD gO dR dA 6:=by
 have k1:=h.lt;obtain⟨aZ,bl⟩:∃aZ,(((w.alloc (.cells #[.func (.func gD) #[] #[]] 65)).alloc (.cells #[.func (.func gO) #[] #[]] 66)).alloc (.cells #[.int .i64 3] 3))=aZ:=⟨_,rfl⟩;have dL:aZ.heap.size=w.heap.size+3:=by rw[←bl];simp
 have tP:w.grownBy aZ (U b):=by
  rw[←bl];exact ((h1 w _ _).andThen (h1 _ _ _) (fun _ e=>.inr e)).andThen (h1 _ _ _) (fun _ e=>.inr e)
 have o2:aZ.cell? ⟨w.heap.size+2,0,J⟩=U (.int .i64 3):=by
  have q:=fX ((w.alloc (.cells #[.func (.func gD) #[] #[]] 65)).alloc (.cells #[.func (.func gO) #[] #[]] 66)) (.cells #[.int .i64 3] 3);rw[bl] at q;have e:((w.alloc (.cells #[.func (.func gD) #[] #[]] 65)).alloc (.cells #[.func (.func gO) #[] #[]] 66)).heap.size=w.heap.size+2:=by simp
  rw[e] at q;simp[World.cell?,q]
 have pU:eR aZ b L:=by
  have q:w.grownBy aZ J:=by
   rw[←bl];exact ((h1 w _ J).andThen (h1 _ _ J) (fun _ e=>.inr e)).andThen (h1 _ _ J) (fun _ e=>.inr e)
  exact h.kept q (by simp)
 have bF:aj (qK aZ b [] eO s 71 gD gO (w.heap.size+1) w.heap.size 0):=I (by
  have b0:=fX w (.cells #[.func (.func gD) #[] #[]] 65);have bD:=fX (w.alloc (.cells #[.func (.func gD) #[] #[]] 65)) (.cells #[.func (.func gO) #[] #[]] 66);have AF:=(aK (w.heap.size+2) ((w.alloc (.cells #[.func (.func gD) #[] #[]] 65)).alloc (.cells #[.func (.func gO) #[] #[]] 66))).alloc (by simp) (.cells #[.int .i64 3] 3);have RS:=(aK (w.heap.size+1) (w.alloc (.cells #[.func (.func gD) #[] #[]] 65))).alloc (by simp) (.cells #[.func (.func gO) #[] #[]] 66);rw[bl] at AF;have e:(w.alloc (.cells #[.func (.func gD) #[] #[]] 65)).heap.size=w.heap.size+1:=by simp
  rw[e] at bD;refine⟨?_,?_,by omega,by omega,by omega,by omega,fun how aH aT=>by omega⟩
  ·rw[AF.cell (p:=⟨w.heap.size+1,0,J⟩) (by show w.heap.size+1<_;omega)];exact C5 bD
  ·rw[AF.cell (p:=⟨w.heap.size,0,J⟩) (by show w.heap.size<_;omega),RS.cell (p:=⟨w.heap.size,0,J⟩) (by show w.heap.size<_;omega)];exact C5 b0)
 have di:=I pU;have eK:=I tP;have bJ:=I o2;have aN:=I dL;clear h pU tP o2 dL;go_enter func37,ntmps37;go_wp2;go_loopw [10] (fun q wr=>∃(k p:Nat) (gf:List (Int×aw)),k≤6∧q=.pointer (U ⟨p,0,J⟩)∧wr.cell? ⟨p,0,J⟩=U (.int .i64 ((k:Int)+3))∧w.heap.size≤p∧p<wr.heap.size∧eR wr b (gf++L)∧gf.length=k∧aj (∀x ∈ gf,eO+3≤x.1∧x.1≤eO+8)∧w.grownBy wr (U b)∧aj (qK wr b gf eO s 71 gD gO (w.heap.size+1) w.heap.size k)) (fun q wr=>match q with | .pointer (U a)=>(match wr.cell? a with | some v=>(9-RowKit.intOf v).toNat | none=>0) | _=>0);case atStart=>exact⟨0,w.heap.size+2,[],by omega,rfl,bJ.out,by omega,by rw[aN.out];omega,di.out,rfl,I (by simp),eK.out,bF⟩
 case round=>
  obtain⟨k,p,gf,aA,rfl,an,xZ,K5,hm,ao,GI,aY,GJ⟩:=hrel;have GK:p≠b:=by omega
  have o5:=I aY;by_cases bV:k<6
  ·have aL:au ((k:Int)+3≤8)=ai:=bE (by omega);clear aY;go_wp2_with (at_mapUpdate;refine hO _ rfl (.tmp 15) (.tmp 18) (.tmp 21) 42 40 (.inl rfl) hl b _ rfl hm (by rw[ey];omega) (eO+((k:Int)+3)) (cS s (.func (.func 71) #[] #[.pointer (U ⟨w.heap.size+1,0,J⟩),.pointer (U ⟨w.heap.size,0,J⟩),.pointer (U ⟨p,0,J⟩)])) rfl rfl (by omega) ?_);intro aP hd gJ;have mu:=nL gJ an K5 GK;have dY:=gJ.size;have lY:=I (((GJ.out.kept gJ).more rfl mu (by omega) GK).kept (h1 aP (.cells #[.int .i64 ((k:Int)+3+1)] 3) _));have RT:=I ((o5.out.andThen gJ (fun _ e=>.inr e)).andThen (h1 aP (.cells #[.int .i64 ((k:Int)+3+1)] 3) _) (fun _ e=>.inr e));have yu:=I (hd.kept (h1 aP (.cells #[.int .i64 ((k:Int)+3+1)] 3) J) (by simp));clear hd gJ hm;go_wp2;go_roundw;case rel=>
    refine⟨k+1,aP.heap.size,_::gf,by omega,rfl,?_,by omega,by simp,yu.out,by simp[ao],I ?_,RT.out,lY⟩
    ·rw[show ((k+1:Nat):Int)+3=(k:Int)+3+1 by omega];simp
    ·intro x hx;rcases List.mem_cons.1 hx with rfl | hx
     ·exact⟨by show eO+3≤eO+_;omega,by show eO+_≤eO+8;omega⟩
     ·exact GI.out x hx
   case measure=>
    simp[RowKit.intOf,an];omega
  ·obtain rfl:k=6:=by omega
   clear aY;go_wp2;go_end0;exact⟨rfl,gf,hm,GI.out,by omega,o5.out,_,_,GJ.out⟩
theorem GL (A B:List (Int×aw)) (k:Int):db (A++B) k=match db A k with | some v=>U v | none=>db B k:=by
 induction A with
 | nil=>rfl
 | cons p A dw=>
   rw[rf,db,db];split
   ·rfl
   ·exact dw
theorem RU {A:List (Int×aw)} {k:Int} (h:∀x ∈ A,x.1≠k):db A k=J:=by
 induction A with
 | nil=>rfl
 | cons p A dw=>
   rw[db,aU (h p (by simp))];exact dw (fun x hx=>h x (BE _ hx))
theorem mA {A B:List (Int×aw)} {k:Int} (h:∀x ∈ A,x.1≠k):db (A++B) k=db B k:=by rw[GL,RU h]
theorem ng (k:Int) (v:aw) (L:List (Int×aw)):db ((k,v)::L) k=U v:=by simp[db]
theorem c6 {j k:Int} (v:aw) (L:List (Int×aw)) (h:j≠k):db ((j,v)::L) k=db L k:=by rw[db,aU h]
def mB (R:Nat) (w:af) (b:Nat) (L:List (Int×aw)) (k:Int) (v:aw):Prop:=∃ed cu,db L k=U (cS ⟨#[70,70]⟩ (.func (.func 87) #[] #[.pointer (U ⟨ed,0,J⟩),.pointer (U ⟨cu,0,J⟩)]))∧
 w.cell? ⟨ed,0,J⟩=U (.int .i64 k)∧w.cell? ⟨cu,0,J⟩=U v∧ed<w.heap.size∧cu<w.heap.size∧ed≠b∧cu≠b∧R<ed∧R<cu
def iP (R:Nat) (w:af) (b:Nat) (L:List (Int×aw)) (k:Int) (v:aw):Prop:=∃cu,db L k=U (cS ⟨#[70]⟩ (.func (.func 91) #[] #[.pointer (U ⟨cu,0,J⟩)]))∧
 w.cell? ⟨cu,0,J⟩=U v∧cu<w.heap.size∧cu≠b∧R<cu
theorem mB.kept {R b q:Nat} {w w':af} {L:List (Int×aw)} {k:Int} {v:aw} (h:mB R w b L k v) (aY:w.grownBy w' (U q)) (aE:q=b∨q≤R∨w.heap.size≤q):mB R w' b L k v:=by
 obtain⟨ed,cu,aa,ae,aJ,bQ,dm,ga,iL,jn,fe⟩:=h;have a1:=aY.size;exact⟨ed,cu,aa,nL aY ae bQ (by omega),nL aY aJ dm (by omega),by omega,by omega,ga,iL,jn,fe⟩
theorem iP.kept {R b q:Nat} {w w':af} {L:List (Int×aw)} {k:Int} {v:aw} (h:iP R w b L k v) (aY:w.grownBy w' (U q)) (aE:q=b∨q≤R∨w.heap.size≤q):iP R w' b L k v:=by
 obtain⟨cu,aa,aJ,dm,iL,fe⟩:=h;have a1:=aY.size;exact⟨cu,aa,nL aY aJ dm (by omega),by omega,iL,fe⟩
theorem mB.cons {R b:Nat} {w:af} {L:List (Int×aw)} {k j:Int} {v u:aw} (h:mB R w b L k v) (dT:j≠k):mB R w b ((j,u)::L) k v:=by
 obtain⟨ed,cu,aa,r⟩:=h;exact⟨ed,cu,by unfold db;rw[aU dT];exact aa,r⟩
theorem iP.cons {R b:Nat} {w:af} {L:List (Int×aw)} {k j:Int} {v u:aw} (h:iP R w b L k v) (dT:j≠k):iP R w b ((j,u)::L) k v:=by
 obtain⟨cu,aa,r⟩:=h;exact⟨cu,by unfold db;rw[aU dT];exact aa,r⟩
theorem YM {L:List (Int×aw)} {k:Int} {v:aw} (h:db L k=U v):Maps.has (sE L) (.int .i64 k)=ai:=
 Maps.has_true_of_atKey (y:=.held v) (fun z=>by rw[AE,h])
theorem YN {left:Lit→Bool} {k x:Int} (h:left (.int .i64 k)=ai) (dT:k≠x):(left (.int .i64 k) && !(Lit.int .i64 k).sameKey (.int .i64 x))=ai:=by
 rw[h,sg];show (!decide (IntKind.i64=IntKind.i64∧k=x))=ai;rw[bx (fun e=>dT e.2)];rfl
theorem YO {x:Int} {pW:Lit} (aA:keyOf ak 3 (.int .i64 x)=U pW):pW=.int .i64 x:=by
 obtain⟨hr,e,h,_⟩:=IT hG aA;clear aA;rw[h];have aT:x=hr:=(Value.int.inj e).2;rw[aT]
def mP (w:af) (L:List (Int×aw)) (k:Int) (f:Nat):Prop:=∃ed cu,db L k=U (cS ⟨#[70,70]⟩ (.func (.func 87) #[] #[.pointer (U ⟨ed,0,J⟩),.pointer (U ⟨cu,0,J⟩)]))∧
 w.cell? ⟨ed,0,J⟩=U (.int .i64 k)∧w.cell? ⟨cu,0,J⟩=U (.func (.func f) #[] #[])∧ed<w.heap.size∧cu<w.heap.size
def mO (w:af) (L:List (Int×aw)) (k:Int) (f:Nat):Prop:=∃cu,db L k=U (cS ⟨#[70]⟩ (.func (.func 91) #[] #[.pointer (U ⟨cu,0,J⟩)]))∧
 w.cell? ⟨cu,0,J⟩=U (.func (.func f) #[] #[])∧cu<w.heap.size
theorem mB.e {R b f:Nat} {w:af} {L:List (Int×aw)} {k:Int} (h:mB R w b L k (.func (.func f) #[] #[])):mP w L k f:=by
 obtain⟨ed,cu,aa,ae,aJ,bQ,dm,_⟩:=h;exact⟨ed,cu,aa,ae,aJ,bQ,dm⟩
theorem iP.e {R b f:Nat} {w:af} {L:List (Int×aw)} {k:Int} (h:iP R w b L k (.func (.func f) #[] #[])):mO w L k f:=by
 obtain⟨cu,aa,ae,aJ,_⟩:=h;exact⟨cu,aa,ae,aJ⟩
theorem mP.below {w w':af} {L:List (Int×aw)} {k:Int} {f:Nat} (h:mP w L k f) (ad:ah w.heap.size w w'):mP w' L k f:=by
 obtain⟨ed,cu,aa,ae,aJ,bQ,dm⟩:=h;exact⟨ed,cu,aa,by rw[ad.cell (p:=⟨ed,0,J⟩) bQ];exact ae,by rw[ad.cell (p:=⟨cu,0,J⟩) dm];exact aJ,cv bQ ad.size,cv dm ad.size⟩
theorem mO.below {w w':af} {L:List (Int×aw)} {k:Int} {f:Nat} (h:mO w L k f) (ad:ah w.heap.size w w'):mO w' L k f:=by
 obtain⟨cu,aa,aJ,dm⟩:=h;exact⟨cu,aa,by rw[ad.cell (p:=⟨cu,0,J⟩) dm];exact aJ,cv dm ad.size⟩
theorem mP.sub {w:af} {L tR:List (Int×aw)} {k:Int} {f:Nat} (h:mP w L k f) (ao:∀v,db L k=U v→db tR k=U v):mP w tR k f:=by
 obtain⟨ed,cu,aa,r⟩:=h;exact⟨ed,cu,ao _ aa,r⟩
theorem mO.sub {w:af} {L tR:List (Int×aw)} {k:Int} {f:Nat} (h:mO w L k f) (ao:∀v,db L k=U v→db tR k=U v):mO w tR k f:=by
 obtain⟨cu,aa,r⟩:=h;exact⟨cu,ao _ aa,r⟩
structure wH (w:af) (L:List (Int×aw)):Prop where
 f41:mP w L 41 83
 f42:mP w L 42 84
 f49:mP w L 49 85
 f50:mP w L 50 86
 f52:mO w L 52 88
 f55:mO w L 55 89
 f57:mO w L 57 90
 f51:db L 51=U (cS ⟨#[70]⟩ (.func (.func 92) #[] #[]))
 f53:db L 53=U (cS ⟨#[70]⟩ (.func (.func 94) #[] #[]))
 f54:db L 54=U (cS ⟨#[70,76]⟩ (.func (.func 96) #[] #[]))
 f56:db L 56=U (cS ⟨#[70]⟩ (.func (.func 98) #[] #[]))
structure C6 (w:af) (b:Nat) (L:List (Int×aw)):Prop where
 f41:∃R,mB R w b L 41 (.func (.func 83) #[] #[])
 f42:∃R,mB R w b L 42 (.func (.func 84) #[] #[])
 f49:∃R,mB R w b L 49 (.func (.func 85) #[] #[])
 f50:∃R,mB R w b L 50 (.func (.func 86) #[] #[])
 f52:∃R,iP R w b L 52 (.func (.func 88) #[] #[])
 f55:∃R,iP R w b L 55 (.func (.func 89) #[] #[])
 f57:∃R,iP R w b L 57 (.func (.func 90) #[] #[])
 f51:db L 51=U (cS ⟨#[70]⟩ (.func (.func 92) #[] #[]))
 f53:db L 53=U (cS ⟨#[70]⟩ (.func (.func 94) #[] #[]))
 f54:db L 54=U (cS ⟨#[70,76]⟩ (.func (.func 96) #[] #[]))
 f56:db L 56=U (cS ⟨#[70]⟩ (.func (.func 98) #[] #[]))
theorem C6.kept {w w':af} {b:Nat} {L:List (Int×aw)} (h:C6 w b L) (aY:w.grownBy w' (U b)):C6 w' b L:=by
 obtain⟨⟨_,RV⟩,⟨_,RW⟩,⟨_,RX⟩,⟨_,RY⟩,⟨_,AG⟩,⟨_,RZ⟩,⟨_,R0⟩,R1,R2,R3,R4⟩:=h;exact⟨⟨_,RV.kept aY (.inl rfl)⟩,⟨_,RW.kept aY (.inl rfl)⟩,⟨_,RX.kept aY (.inl rfl)⟩,⟨_,RY.kept aY (.inl rfl)⟩,⟨_,AG.kept aY (.inl rfl)⟩,⟨_,RZ.kept aY (.inl rfl)⟩,⟨_,R0.kept aY (.inl rfl)⟩,R1,R2,R3,R4⟩
theorem C6.at {w:af} {b:Nat} {L:List (Int×aw)} (h:C6 w b L):wH w L:=by
 obtain⟨⟨_,RV⟩,⟨_,RW⟩,⟨_,RX⟩,⟨_,RY⟩,⟨_,AG⟩,⟨_,RZ⟩,⟨_,R0⟩,R1,R2,R3,R4⟩:=h;exact⟨RV.e,RW.e,RX.e,RY.e,AG.e,RZ.e,R0.e,R1,R2,R3,R4⟩
theorem wH.below {w w':af} {L:List (Int×aw)} (h:wH w L) (ad:ah w.heap.size w w'):wH w' L:=
 ⟨h.f41.below ad,h.f42.below ad,h.f49.below ad,h.f50.below ad,h.f52.below ad,h.f55.below ad,h.f57.below ad,h.f51,h.f53,h.f54,h.f56⟩
theorem wH.sub {w:af} {L tR:List (Int×aw)} (h:wH w L) (ao:∀k v,41≤k→k≤57→db L k=U v→db tR k=U v):wH w tR:=
 ⟨h.f41.sub (fun v=>ao _ v (by decide) (by decide)),h.f42.sub (fun v=>ao _ v (by decide) (by decide)),h.f49.sub (fun v=>ao _ v (by decide) (by decide)),h.f50.sub (fun v=>ao _ v (by decide) (by decide)),h.f52.sub (fun v=>ao _ v (by decide) (by decide)),h.f55.sub (fun v=>ao _ v (by decide) (by decide)),h.f57.sub (fun v=>ao _ v (by decide) (by decide)),ao _ _ (by decide) (by decide) h.f51,ao _ _ (by decide) (by decide) h.f53,ao _ _ (by decide) (by decide) h.f54,ao _ _ (by decide) (by decide) h.f56⟩
def AM (l:aw) (c:Nat) (v:aw) (is:Bool) (w:af):Prop:=aq ak 14 #[l,.int .u8 c] w fun e w'=>e=.returned (.tuple #[v,.bool is])∧ah w.heap.size w w'
theorem AM.bool {l:aw} {c:Nat} {v:aw} {is aaH:Bool} {w:af} (h:aq ak 14 #[l,.int .u8 c] w fun e w'=>e=.returned (.tuple #[v,.bool is])∧ah w.heap.size w w') (e:is=aaH):AM l c v aaH w:=by subst e;exact h
theorem alr (n:Int) (c:Nat) (bM:Option ho) (bN:Nat) (w:af) (aa:-9223372036854775808≤n) (ae:n≤9223372036854775807) (an:c=73∨c=76) :
 aq ak 14 #[bw 4 n 0 ⟨#[]⟩ (.slice bM 0 bN),.int .u8 c] w fun e w'=>e=.returned (.tuple #[hA 4 n 0 ⟨#[]⟩ (.slice bM 0 bN) (au (n<0)) (ax (o.bs n.natAbs)),.bool (au (cJ n))])∧ah w.heap.size w w':=
 AM.bool (aaD n 0 ⟨#[]⟩ bM 0 bN c w aa ae) (decide_eq_decide.2 ⟨fun h=>h.2.2.1,fun h=>⟨rfl,an,h,rfl,rfl⟩⟩)
theorem als (l:List UInt8) (n:Int) (bM:Option ho) (bN:Nat) (w:af) (ao:l.length≤300000) (aB:o.bO n) (bn:o.fl 10 l n) :
 aq ak 14 #[bw 5 0 0 (ax l) (.slice bM 0 bN),.int .u8 73] w fun e w'=>e=.returned (.tuple #[hA 5 0 0 (ax l) (.slice bM 0 bN) (au (n<0)) (ax (o.bs n.natAbs)),.bool (!decide (cJ n))])∧ah w.heap.size w w':=by
 have hp:∀W,aq ak 52 #[.string (ax l),.int .i64 10] W fun e w'=>e=.returned (.tuple #[.agg #[.bool (au (n<0)),.string (ax (o.bs n.natAbs))],.int .i64 0])∧ah W.heap.size W w':=fun W=>(X9 l W ao).mono fun e w' ⟨aa,ae⟩=>by
  refine⟨?_,ae⟩;rcases aa with ⟨m,hm,rfl⟩ | ⟨lZ,_⟩
  ·rw[←o.CR (by decide) bn hm];unfold e7;rw[ba aB];rfl
  ·exact absurd bn (lZ n)
 by_cases bd:cJ n
 ·have nj:fU n=.tuple #[.int .i64 n,.bool ai]:=by
   unfold fU;rw[ba];unfold cJ at bd;unfold In64;omega
  exact AM.bool (aaE 0 0 _ bM 0 bN 73 n 0 aB hp w bd nj) (by simp[bd])
 ·by_cases ga:In64 n
  ·exact AM.bool (aaF 0 0 _ bM 0 bN 73 n 0 aB hp w bd (by unfold fU;rw[ba ga])) (by simp[bd])
  ·exact AM.bool (aaG 0 0 _ bM 0 bN 73 n 0 aB hp w bd (by unfold fU;rw[aU ga])) (by simp[bd])
theorem alu (t:ByteArray) (bM:Option ho) (bN:Nat) (w:af) (bn:t.size≤65536) :
 aq ak 14 #[bw 8 0 0 t (.slice bM 0 bN),.int .u8 83] w fun e w'=>e=.returned (.tuple #[hA 8 0 0 t (.slice bM 0 bN) ab ⟨#[]⟩,.bool ai])∧ah w.heap.size w w':=
 AM.bool (aaC 0 0 t bM 0 bN 83 w) (bE ⟨rfl,rfl,bn,rfl,rfl⟩)
theorem bk.drew {W:af} {k:Nat} {a b c d e:aw} (h:bk W k a b c d e):bk W.drew k a b c d e:=h
theorem alc (x y:bB) (k:Nat) (c:UInt8) (v:aw) (w:af) (h:e2 w v [x,y]) (aA:x.t.data.toList[k]? = U c) (aW:y.n=(k:Int)+1) (a1:x.t.size≤1000000000) :
 aq ak 100 #[v] w (ek w (bw 7 c.toNat 0 ⟨#[]⟩ (.slice J 0 0)) ai):=by
 obtain⟨ag,a6⟩:∃ag,w.alloc (.cells #[.int .u8 0,.int .i64 0,.int .u64 0,.string ⟨#[]⟩,.slice J 0 0] 28)=ag:=⟨_,rfl⟩;have aO:aj (bk ag w.heap.size (.int .u8 0) (.int .i64 0) (.int .u64 0) (.string ⟨#[]⟩) (.slice J 0 0)):=I (by rw[←a6];exact bk.new _ _ _ _ _ _);have ay:aj (ah w.heap.size w ag):=I (by rw[←a6];exact (aK _ _).alloc (aC _) _);obtain⟨al,gL,rfl,br,bT⟩:=h;have an:∀(i:Nat) (q:bB),[x,y][i]? = U q→∀(j:Nat) (u:aw),q.cells[j]? = U u→ag.cell? ⟨al,i*7+j,J⟩=U u:=fun i q aE j u hu=>by rw[ay.out.cell (p:=⟨al,i*7+j,J⟩) br];exact bT i q aE j u hu
 have aY:=cv br ay.out.size;obtain⟨c0,c1,c2,c3,c4,f0,f1,f2,f3,f4⟩:=aO.out.cells;have oh:ag.cell? ⟨al,1,J⟩=_:=an 0 _ rfl 1 _ rfl;have jT:ag.cell? ⟨al,3,J⟩=_:=an 0 _ rfl 3 _ rfl;have km:ag.cell? ⟨al,8,J⟩=_:=an 1 _ rfl 1 _ rfl;have qF:ag.cell? ⟨al,10,J⟩=_:=an 1 _ rfl 3 _ rfl;clear an bT;simp only[ch,du] at *;have jr:k<x.t.size:=by
  have:=(List.getElem?_eq_some_iff.1 aA).1;simpa using this
 have Lt:x.t[k]'jr=c:=by
  obtain⟨q,aE⟩:=List.getElem?_eq_some_iff.1 aA;rw[←aE];rfl
 rw[aW] at km;clear aA aW;have axu:wrap64 (c.toNat:Int)=(c.toNat:Int):=by have:=c.toNat_lt;unfold wrap64;omega
 generalize x.t=T at *;have d1:au ((k:Int)+1<1)=ab:=bx (by omega);have d2:au ((T.size:Int)<(k:Int)+1)=ab:=bx (by omega);go_enter Pz,ntmps100;go_wp2;go_region;go_wp2_with fail;obtain⟨aM,aG,bj,bq,bA,_,_,_,_,_⟩:=((aO.out.set (.int .u8 7) (.int .i64 c.toNat) (.int .u64 0) (.string ⟨#[]⟩) (.slice J 0 0)).drew).cells;exact bI (v:=.tuple #[.agg #[.int .u8 7,.int .i64 c.toNat,.int .u64 0,.string ⟨#[]⟩,.slice J 0 0],.bool ai]) (by simp[bK,results100,go_sem,aM,aG,bj,bq,bA]) rfl ⟨rfl,(dG ay.out (aC _) _ _ _ _ _).drew⟩
theorem ald (x y:bB) (v:aw) (w:af) (h:e2 w v [x,y]) (aW:y.n<1∨(x.t.size:Int)<y.n) :
 aq ak 100 #[v] w (ek w (iA) ab):=by
 obtain⟨ag,a6⟩:∃ag,w.alloc (.cells #[.int .u8 0,.int .i64 0,.int .u64 0,.string ⟨#[]⟩,.slice J 0 0] 28)=ag:=⟨_,rfl⟩;have aO:aj (bk ag w.heap.size (.int .u8 0) (.int .i64 0) (.int .u64 0) (.string ⟨#[]⟩) (.slice J 0 0)):=I (by rw[←a6];exact bk.new _ _ _ _ _ _);have ay:aj (ah w.heap.size w ag):=I (by rw[←a6];exact (aK _ _).alloc (aC _) _);obtain⟨al,gL,rfl,br,bT⟩:=h;have an:∀(i:Nat) (q:bB),[x,y][i]? = U q→∀(j:Nat) (u:aw),q.cells[j]? = U u→ag.cell? ⟨al,i*7+j,J⟩=U u:=fun i q aE j u hu=>by rw[ay.out.cell (p:=⟨al,i*7+j,J⟩) br];exact bT i q aE j u hu
 have aY:=cv br ay.out.size;obtain⟨c0,c1,c2,c3,c4,f0,f1,f2,f3,f4⟩:=aO.out.cells;have oh:ag.cell? ⟨al,1,J⟩=_:=an 0 _ rfl 1 _ rfl;have jT:ag.cell? ⟨al,3,J⟩=_:=an 0 _ rfl 3 _ rfl;have km:ag.cell? ⟨al,8,J⟩=_:=an 1 _ rfl 1 _ rfl;have qF:ag.cell? ⟨al,10,J⟩=_:=an 1 _ rfl 3 _ rfl;clear an bT;simp only[ch,du] at *;unfold iA bw;generalize x.t=T at *;generalize y.n=N at *;have aL:au (N<1)=ai∨(au (N<1)=ab∧au ((T.size:Int)<N)=ai):=by
  by_cases aa:N<1
  ·exact .inl (bE aa)
  ·exact .inr ⟨bx aa,bE (by omega)⟩
 go_enter Pz,ntmps100;go_wp2;go_region;rcases aL with d1 | ⟨d1,d2⟩;all_goals
  go_wp2_with fail;obtain⟨aM,aG,bj,bq,bA,_,_,_,_,_⟩:=((aO.out.set (.int .u8 0) (.int .i64 0) (.int .u64 0) (.string ⟨#[]⟩) (.slice J 0 0)).drew).cells;exact bI (v:=.tuple #[.agg #[.int .u8 0,.int .i64 0,.int .u64 0,.string ⟨#[]⟩,.slice J 0 0],.bool ab]) (by simp[bK,results100,go_sem,aM,aG,bj,bq,bA]) rfl ⟨rfl,(dG ay.out (aC _) _ _ _ _ _).drew⟩
theorem aas (x y z:bB) (a b:Nat) (v:aw) (w:af) (h:e2 w v [x,y,z]) (aW:y.n=(a:Int)+1) (aX:z.n=(b:Int)) (kW:a≤b) (ad:b≤x.t.size) (a1:x.t.size≤65536) :
 aq ak 108 #[v] w (ek w (bw 8 0 0 (x.t.extract a b) (.slice J 0 0)) ai):=by
 obtain⟨ag,a6⟩:∃ag,w.alloc (.cells #[.int .u8 0,.int .i64 0,.int .u64 0,.string ⟨#[]⟩,.slice J 0 0] 28)=ag:=⟨_,rfl⟩;have aO:aj (bk ag w.heap.size (.int .u8 0) (.int .i64 0) (.int .u64 0) (.string ⟨#[]⟩) (.slice J 0 0)):=I (by rw[←a6];exact bk.new _ _ _ _ _ _);have ay:aj (ah w.heap.size w ag):=I (by rw[←a6];exact (aK _ _).alloc (aC _) _);obtain⟨al,gL,rfl,br,bT⟩:=h;have an:∀(i:Nat) (q:bB),[x,y,z][i]? = U q→∀(j:Nat) (u:aw),q.cells[j]? = U u→ag.cell? ⟨al,i*7+j,J⟩=U u:=fun i q aE j u hu=>by rw[ay.out.cell (p:=⟨al,i*7+j,J⟩) br];exact bT i q aE j u hu
 have aY:=cv br ay.out.size;obtain⟨c0,c1,c2,c3,c4,f0,f1,f2,f3,f4⟩:=aO.out.cells;have oh:ag.cell? ⟨al,1,J⟩=_:=an 0 _ rfl 1 _ rfl;have jT:ag.cell? ⟨al,3,J⟩=_:=an 0 _ rfl 3 _ rfl;have km:ag.cell? ⟨al,8,J⟩=_:=an 1 _ rfl 1 _ rfl;have qF:ag.cell? ⟨al,10,J⟩=_:=an 1 _ rfl 3 _ rfl;have aat:ag.cell? ⟨al,15,J⟩=_:=an 2 _ rfl 1 _ rfl;have axv:ag.cell? ⟨al,17,J⟩=_:=an 2 _ rfl 3 _ rfl;clear an bT;simp only[ch,du] at *;have cR:=I (fun W=>C0 (x.t.extract a b) W (by rw[IL];omega));unfold bw at cR;rw[aW] at km;rw[aX] at aat;clear aW aX;generalize x.t=T at *;have d1:au ((a:Int)+1<1)=ab:=bx (by omega);have d2:au ((T.size:Int)<(b:Int))=ab:=bx (by omega);have d3:au ((b:Int)+1<(a:Int)+1)=ab:=bx (by omega);go_enter Jw,ntmps108;go_wp2;go_region;have Lu:=I ay.out.drew;have aau:=I aO.out.drew;go_wp2_with fail;refine (cR.out _).mono ?_;rintro e aP ⟨rfl,bg⟩;have c8:=I (aau.out.below bg);have bL:=I (Lu.out.trans (bg.mono (by have:=aau.out.lt;omega)));clear c0 c1 c2 c3 c4 f0 f1 f2 f3 f4;obtain⟨c0,c1,c2,c3,c4,f0,f1,f2,f3,f4⟩:=c8.out.cells;go_wp2_with fail;obtain⟨aM,aG,bj,bq,bA,_,_,_,_,_⟩:=(c8.out.set (.int .u8 8) (.int .i64 0) (.int .u64 0) (.string (T.extract a b)) (.slice J 0 0)).cells;exact bI (v:=.tuple #[.agg #[.int .u8 8,.int .i64 0,.int .u64 0,.string (T.extract a b),.slice J 0 0],.bool ai]) (by simp[bK,results108,go_sem,aM,aG,bj,bq,bA]) rfl ⟨rfl,dG bL.out (aC _) _ _ _ _ _⟩
end Go.Proofs.YtkhphoonnkoipaaGreatDoor
