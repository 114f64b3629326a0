/- Lemmas. -/
import Derived.Test.YtkhphoonnkoipaaGreatDoorVaal
import Derived.Test.YtkhphoonnkoipaaGreatDoorVaaj
set_option linter.all false
set_option maxHeartbeats 2000000
set_option maxRecDepth 100000
open Go.Proofs.Tryz Go.RowKit Go.Lib
open Option renaming some→U
open Bool renaming true→ai,false→ab
open Go renaming World→af,Calls→aq
open Go.RowKit renaming Below→ah
open Go.Proofs.Tryz renaming prog→ak
namespace Go.Proofs.YtkhphoonnkoipaaGreatDoor
def u6 (a:Nat):Value:=match av.xI a with | some n=>.tuple #[.int .i64 n,.int .i64 0] | none=>.tuple #[.int .i64 0,.int .i64 101]
theorem X' (a:Nat) (aS:a<18446744073709551616):bits .and .u64 ((a:Int)/4503599627370496) 2047=((a/4503599627370496%2048:Nat):Int):=by
 have:=J' (a:=a/4503599627370496) (k:=11) (by omega) (by decide);rw[show ((2^11-1:Nat):Int)=2047 from rfl,show (2:Nat)^11=2048 from rfl] at this;rw[←this];simp
theorem RG {r:Nat} (ar:r≠0) (h:r<18446744073709551616):Lib.bitLen r=r.log2+1:=by
 exact o.Qs h (sa ar) (by rw[ei];exact (by have:=oM (n:=r);rw[ei] at this;exact this))
theorem ajF (a:Nat) (w:af) (aS:a<18446744073709551616) :
 aq ak 95 #[.int .u64 a] w fun e w'=>e=.returned (u6 a)∧w=w':=by
 have bZ:=I (fun w=>FI a aS w);have wF:=I (X' a aS);have u7:=I (Qq a aS);by_cases bd:a%9223372036854775808<9218868437227405312
 ·rw[bE bd] at bZ;by_cases aX:a%9223372036854775808=0
  ·have cM:=I (show u6 a=.tuple #[.int .i64 0,.int .i64 101] by unfold u6 av.xI;rw[ba (.inl aX)]);have b6:FloatKind.f64.format.order a 0=U .eq:=by
    show av.D.order a 0=_;rw[av.td (by simp[av.dC];omega) (by decide)];have ar:av.val (av.D.read 0)=0:=by rw[av.jK];decide +kernel
    have aa:av.val (av.D.read a)=0:=by
     rw[av.jK,ba (by omega),aX];simp only[av.val];unfold Ieee.signed;simp
    rw[ar,aa];rfl
   clear aX bd wF u7;go_enter JC,Jt;go_wp2_with (first | (refine (h3 _ _).mono ?_;rintro e w' ⟨rfl,rfl⟩) | (refine (bZ.out _).mono ?_;rintro e w' ⟨rfl,rfl⟩));go_ret2;exact⟨by rw[cM.out];rfl,rfl⟩
  ·have mq:FloatKind.f64.format.order a 0=U .lt∨FloatKind.f64.format.order a 0=U .gt:=av.Ki bd aX;obtain⟨ex,hex⟩:∃ex,a/4503599627370496%2048=ex:=⟨_,rfl⟩;obtain⟨mt,o1⟩:∃mt,a%4503599627370496=mt:=⟨_,rfl⟩;have KY:a%9223372036854775808/4503599627370496=ex:=by omega
   have cZ:bits .and .u64 ((a:Int)/4503599627370496) 2047=(ex:Int):=by rw[wF.out,hex]
   have cT:bits .and .u64 (a:Int) 4503599627370495=(mt:Int):=by rw[u7.out,o1]
   have awT:ex<2048:=by omega
   by_cases he:ex=0
   ·have Ya:a%9223372036854775808=mt:=by omega
    have iu:mt≠0:=by omega
    have Qz:mt<4503599627370496:=by omega
    have cM:=I (show u6 a=.tuple #[.int .i64 ((Lib.bitLen mt:Nat)-1075:Int),.int .i64 0] by
     unfold u6 av.xI;rw[aU (by omega),KY,ba he,Ya,RG iu (by omega)];have:(((mt.log2:Nat):Int)-1074)=(((mt.log2+1:Nat):Int)-1075):=by omega
     rw[this])
    have k1:Lib.bitLen mt≤64:=B3 mt 64 (aC _) (by omega);have ajG:(ex:Int)≤0:=by omega
    have RH:=I he;clear aX bd wF u7 hex o1 KY Ya iu he;rcases mq with b6 | b6;all_goals
     go_enter JC,Jt;go_wp2_with (first | (refine (h3 _ _).mono ?_;rintro e w' ⟨rfl,rfl⟩) | (refine (bZ.out _).mono ?_;rintro e w' ⟨rfl,rfl⟩));refine (bits_Len64 _ _ (by omega) (by omega)).mono ?_;rintro e w' ⟨rfl,rfl⟩;rw[qc];generalize Lib.bitLen mt=L at k1 cM ⊢;go_wp2;go_ret2;exact⟨by rw[cM.out];rfl,rfl⟩
   ·have cM:=I (show u6 a=.tuple #[.int .i64 ((ex:Int)-1023),.int .i64 0] by
     unfold u6 av.xI;rw[aU (by omega),KY,aU he])
    have ajG:0<(ex:Int):=by omega
    clear aX bd wF u7 hex o1 KY he;rcases mq with b6 | b6;all_goals
     go_enter JC,Jt;go_wp2_with (first | (refine (h3 _ _).mono ?_;rintro e w' ⟨rfl,rfl⟩) | (refine (bZ.out _).mono ?_;rintro e w' ⟨rfl,rfl⟩));go_ret2;exact⟨by rw[cM.out];rfl,rfl⟩
 ·rw[bx bd] at bZ;have cM:=I (show u6 a=.tuple #[.int .i64 0,.int .i64 101] by unfold u6 av.xI;rw[ba (.inr (by omega))]);clear bd wF u7;go_enter JC,Jt;go_wp2_with (first | (refine (h3 _ _).mono ?_;rintro e w' ⟨rfl,rfl⟩) | (refine (bZ.out _).mono ?_;rintro e w' ⟨rfl,rfl⟩));go_ret2;exact⟨by rw[cM.out];rfl,rfl⟩
end Go.Proofs.YtkhphoonnkoipaaGreatDoor
namespace Go.Proofs.YtkhphoonnkoipaaGreatDoor
open Go.RowKit
open av (bR)
def y2 (d:Nat) (p:Int) (neg:Bool) (w:af) (e:Ending) (w':af):Prop:=
 ∃f ok,e=.returned (.tuple #[.float .f64 f,.bool ok])∧(ok=ai→f=av.D.word neg (o.iC bR (d,p))∧o.iC bR (d,p)<9218868437227405312)∧w=w'
theorem DT (d k:Nat):o.iC bR (d,(k:Int))=av.er (d*10^k*2^bR) 1:=by
 unfold o.iC;simp only;rw[qc,show (-(k:Int)).toNat=0 by omega,hn]
theorem aeh (d k:Nat) (aA:0<k):o.iC bR (d,-(k:Int))=av.er (d*2^bR) (10^k):=by
 unfold o.iC;simp only;rw[show (-(k:Int)).toNat=0 by omega,BZ,qc,hn,fI]
theorem aei (d:Nat):floatOfInt .f64 (d:Int)=av.j9 (d:Int):=rfl
theorem arW (d:Nat) (p:Int) (neg:Bool) (w:af) (gv:4503599627370496≤d) (aL:d<18446744073709551616) (he:Env w) :
 aq ak 288 #[.int .u64 d,.int .i64 p,.bool neg] w (y2 d p neg w):=by
 have aa:=he.info;have cd:((d:Int)/4503599627370496 != 0)=ai:=by simp;omega
 clear he;go_enter BV,BP;go_wp2;go_ret2;exact⟨_,_,rfl,(fun h=>by cases h),rfl⟩
def arX (neg:Bool) (d x:Nat):Prop:=(neg=ab∧floatOfInt .f64 (d:Int)=x)∨(neg=ai∧∃y,floatOfInt .f64 (d:Int)=y∧∀w:af,(Op.unary .neg (.float .f64 y)).run ak w=.ok (.float .f64 x) w)
theorem Im (neg:Bool) (d:Nat):arX neg d (av.mJ neg d):=by
 cases neg
 ·refine .inl ⟨rfl,(aei d).trans ?_⟩;unfold av.mJ;rw[aU (by decide)]
 ·refine .inr ⟨rfl,_,aei d,fun w=>?_⟩;unfold av.mJ;rw[ba rfl];exact JV _ w
theorem arY (d k:Nat) (neg:Bool) (w:af) (aL:d<4503599627370496) (aA:k≤22) (h4:0<k) (he:Env w) :
 aq ak 288 #[.int .u64 d,.int .i64 (k:Int),.bool neg] w (y2 d k neg w):=by
 have aa:=he.info;obtain⟨a,cap,ae,aJ,bQ⟩:=he.f10;have dm:=bQ k _ (av.MK ⟨k,by omega⟩);have hm:=av.Ie neg (d:=d) (k:=k) (by omega) aA;rw[←DT] at hm;have qp:o.iC bR (d,(k:Int))<9218868437227405312:=by
  rw[DT];refine av.MI (gQ (kz (qf aL) (dB (by decide) aA)) (by decide))
 have cR:=I qp;obtain⟨x,hx⟩:∃x,av.mJ neg d=x:=⟨_,rfl⟩;have mD:=Im neg d;have Bj:av.dC x=ab:=by rw[←hx];exact (av.MH neg (d:=d) (by omega)).nan
 rw[hx] at hm mD;obtain⟨iq,h7⟩:=av.MJ Bj (b:=4831355200913801216) (by decide);obtain⟨jM,iJ⟩:=av.MJ Bj (b:=14054727237768577024) (by decide);have arZ:FloatKind.f64.format.order x 4831355200913801216=U iq:=h7;have ar0:FloatKind.f64.format.order x 14054727237768577024=U jM:=iJ;clear h7 iJ;obtain⟨r,aF⟩:∃r,av.D.word neg (o.iC bR (d,(k:Int)))=r:=⟨_,rfl⟩;rw[aF] at hm;obtain⟨q,aE⟩:∃q,av.j9 ((10^k:Nat):Int)=q:=⟨_,rfl⟩;rw[aE] at dm hm;have ga:=fun (t:TypeId) (w:af)=>sc (P:=ak) w .mul t .f64 x q r hm;have cd:((d:Int)/4503599627370496 != 0)=ab:=by rw[El];omega
 have cF:((k:Int)==0)=ab:=by rw[cH];omega
 have bG:=I aF;clear bQ hm he aJ hx Bj qp aE aF;rcases mD with ⟨rfl,hx⟩ | ⟨rfl,y,aW,MT⟩;all_goals
  cases iq<;>cases jM;all_goals
   go_enter BV,BP;go_wp2;go_ret2;first | exact⟨_,_,rfl,(fun _=>⟨bG.out.symm,cR.out⟩),rfl⟩ | exact⟨_,_,rfl,(fun h=>by cases h),rfl⟩
theorem ar1 (d k:Nat) (neg:Bool) (w:af) (aL:d<4503599627370496) (aA:k≤22) (h4:0<k) (he:Env w) :
 aq ak 288 #[.int .u64 d,.int .i64 (-(k:Int)),.bool neg] w (y2 d (-(k:Int)) neg w):=by
 have aa:=he.info;obtain⟨a,cap,ae,aJ,bQ⟩:=he.f10;have dm:=bQ k _ (av.MK ⟨k,by omega⟩);have hm:=av.aq3 neg (d:=d) (k:=k) (by omega) aA;rw[←aeh d k h4] at hm;have qp:o.iC bR (d,-(k:Int))<9218868437227405312:=by
  rw[aeh d k h4];exact av.aq6 (cv aL (by decide)) (dK (by decide))
 have cR:=I qp;obtain⟨x,hx⟩:∃x,av.mJ neg d=x:=⟨_,rfl⟩;have mD:=Im neg d;rw[hx] at hm mD;obtain⟨r,aF⟩:∃r,av.D.word neg (o.iC bR (d,-(k:Int)))=r:=⟨_,rfl⟩;rw[aF] at hm;obtain⟨q,aE⟩:∃q,av.j9 ((10^k:Nat):Int)=q:=⟨_,rfl⟩;rw[aE] at dm hm;have ga:=fun (t:TypeId) (w:af)=>sc (P:=ak) w .quo t .f64 x q r hm;have cd:((d:Int)/4503599627370496 != 0)=ab:=by rw[El];omega
 have cF:(-(k:Int)==0)=ab:=by rw[cH];omega
 have bG:=I aF;clear bQ hm he aJ hx qp aE aF;rcases mD with ⟨rfl,hx⟩ | ⟨rfl,y,aW,MT⟩;all_goals
  go_enter BV,BP;go_wp2;go_ret2;exact⟨_,_,rfl,(fun _=>⟨bG.out.symm,cR.out⟩),rfl⟩
theorem ar2 (d:Nat) (neg:Bool) (w:af) (aL:d<4503599627370496) (he:Env w) :
 aq ak 288 #[.int .u64 d,.int .i64 0,.bool neg] w (y2 d 0 neg w):=by
 have aa:=he.info;have aF:av.D.word neg (o.iC bR (d,0))=av.mJ neg d:=by
  rw[av.MG,show (0:Int)=((0:Nat):Int) from rfl,DT,hn,fI]
 have qp:o.iC bR (d,0)<9218868437227405312:=by
  rw[show (0:Int)=((0:Nat):Int) from rfl,DT,hn,fI];exact av.MI (cv aL (by decide))
 have cR:=I qp;obtain⟨x,hx⟩:∃x,av.mJ neg d=x:=⟨_,rfl⟩;have mD:=Im neg d;rw[hx] at aF mD;have cd:((d:Int)/4503599627370496 != 0)=ab:=by rw[El];omega
 have bG:=I aF;clear he hx qp aF;rcases mD with ⟨rfl,hx⟩ | ⟨rfl,y,aW,MT⟩;all_goals
  go_enter BV,BP;go_wp2;go_ret2;exact⟨_,_,rfl,(fun _=>⟨bG.out.symm,cR.out⟩),rfl⟩
theorem ar3 (d:Nat) (p:Int) (neg:Bool) (w:af) (aL:d<4503599627370496) (hp:p < -22∨37<p) (he:Env w) :
 aq ak 288 #[.int .u64 d,.int .i64 p,.bool neg] w (y2 d p neg w):=by
 have aa:=he.info;obtain⟨x,hx⟩:∃x,av.mJ neg d=x:=⟨_,rfl⟩;have mD:=Im neg d;rw[hx] at mD;have cd:((d:Int)/4503599627370496 != 0)=ab:=by rw[El];omega
 have cF:(p==0)=ab:=by rw[cH];omega
 clear he hx;rcases hp with hp | hp;all_goals
  rcases mD with ⟨rfl,hx⟩ | ⟨rfl,y,aW,MT⟩;all_goals
   go_enter BV,BP;go_wp2;go_ret2;exact⟨_,_,rfl,(fun h=>by cases h),rfl⟩
theorem ar4 (d j:Nat) (neg:Bool) (w:af) (aL:d<4503599627370496) (bP:j≤15) (Dy:0<j) (he:Env w) :
 aq ak 288 #[.int .u64 d,.int .i64 (j+22:Nat),.bool neg] w (y2 d (j+22:Nat) neg w):=by
 have aa:=he.info;obtain⟨a,cap,ae,aJ,bQ⟩:=he.f10;have dm:=bQ j _ (av.MK ⟨j,by omega⟩);have AG:=bQ 22 _ (av.MK ⟨22,by omega⟩);obtain⟨y,jl⟩:∃y,av.D.mul (av.mJ neg d) (av.j9 ((10^j:Nat):Int))=U y:=⟨_,av.Ie neg (d:=d) (k:=j) (by omega) (by omega)⟩;have Bj:av.dC y=ab:=av.PQ jl;obtain⟨iq,h7⟩:=av.MJ Bj (b:=4831355200913801216) (by decide);obtain⟨jM,iJ⟩:=av.MJ Bj (b:=14054727237768577024) (by decide);have aej:=I (fun (g1:iq≠.gt) (g2:jM≠.lt)=>av.aq9 neg aL bP jl (by rw[h7];intro e;exact g1 (hb e)) (by rw[iJ];intro e;exact g2 (hb e)));have wW:=I jl;have arZ:FloatKind.f64.format.order y 4831355200913801216=U iq:=h7;have ar0:FloatKind.f64.format.order y 14054727237768577024=U jM:=iJ;clear h7 iJ;have qp:d*10^j<9007199254740992→av.D.mul y (av.j9 ((10^22:Nat):Int))=U (av.D.word neg (o.iC bR (d,(j+22:Nat)))):=by
  intro h;have:=wW.out;rw[av.aq2 neg (by omega) (by omega) h] at this;have aW:=hb this;rw[←aW,av.Ie neg h (by omega),DT,cm,cE d]
 have kV:o.iC bR (d,((j+22:Nat):Int))<9218868437227405312:=by
  rw[DT];refine av.MI (gQ (kz (qf aL) (dB (by decide) (show j+22≤37 by omega))) (by decide))
 have nF:=I kV;obtain⟨x,hx⟩:∃x,av.mJ neg d=x:=⟨_,rfl⟩;have mD:=Im neg d;rw[hx] at jl mD;obtain⟨r,aF⟩:∃r,av.D.word neg (o.iC bR (d,((j+22:Nat):Int)))=r:=⟨_,rfl⟩;rw[aF] at qp;obtain⟨q,aE⟩:∃q,av.j9 ((10^j:Nat):Int)=q:=⟨_,rfl⟩;obtain⟨cX,lQ⟩:∃cX,av.j9 ((10^22:Nat):Int)=cX:=⟨_,rfl⟩;rw[aE] at dm jl;rw[lQ] at AG qp;have azj:w.cell? ⟨a.block,a.off+22,none⟩=U (.float .f64 cX):=by simpa[Addr.add] using AG
 clear AG;have ga:=fun (t:TypeId) (w:af)=>sc (P:=ak) w .mul t .f64 x q y jl;have nN:=I (fun (g1:iq≠.gt) (g2:jM≠.lt) (t:TypeId) (w:af)=>sc (P:=ak) w .mul t .f64 y cX r (qp (aej.out g1 g2)));have cd:((d:Int)/4503599627370496 != 0)=ab:=by rw[El];omega
 obtain⟨k,aA⟩:∃k:Nat,j+22=k:=⟨_,rfl⟩;have cI:=I (show (k:Int)-22=j by omega);rw[aA] at aF nF ⊢;have azk:22<k:=by omega
 have azl:k≤37:=by omega
 have azm:(k:Int)-22=(j:Int):=by omega
 have cF:((k:Int)==0)=ab:=by rw[cH];omega
 have bG:=I aF;clear bQ jl he aJ hx Bj qp kV aE lQ aF wW aej aA;rcases mD with ⟨rfl,hx⟩ | ⟨rfl,z,aW,MT⟩;all_goals
  cases iq<;>cases jM;all_goals
   first
    | (have iL:=nN.out (by decide) (by decide)
       clear nN)
    | clear nN
   go_enter BV,BP;go_wp2;go_ret2;first | exact⟨_,_,rfl,(fun _=>⟨bG.out.symm,nF.out⟩),rfl⟩ | exact⟨_,_,rfl,(fun h=>by cases h),rfl⟩
end Go.Proofs.YtkhphoonnkoipaaGreatDoor
namespace Go.Proofs.YtkhphoonnkoipaaGreatDoor.av
open Ieee
theorem ao2:D.read 4503599627370496=.number ab 4503599627370496 (-1074):=by rw[jK];decide +kernel
theorem ao3:val (D.read 4503599627370496)=4503599627370496:=by rw[ao2];decide +kernel
theorem acK {r:Nat} (aF:r<9218868437227405312):D.order r 4503599627370496=U (compare (r:Nat) 4503599627370496):=by
 have aB:dC r=ab:=by simp[dC];omega
 rw[td aB (by decide),ao3];have iK:r%9223372036854775808=r:=by omega
 have a1:(r/9223372036854775808%2==1)=ab:=by
  have:r/9223372036854775808=0:=by omega
  rw[this];rfl
 rw[jK,iK,a1];by_cases h:r<4503599627370496
 ·rw[ba h];have aD:val (.number ab r (-1074))=(r:Int):=by simp[val,Ieee.signed]
  rw[aD,tc (by omega)];simp[compare,compareOfLessAndEq,h]
 ·rw[aU h,ba aF];have aD:val (.number ab (4503599627370496+r%4503599627370496) (-1074+(r/4503599627370496-1:Nat)))=(((4503599627370496+r%4503599627370496)*2^(r/4503599627370496-1):Nat):Int):=by
   simp only[val,Ieee.signed,mM];have e:(-1074+((r/4503599627370496-1:Nat):Int)+1074).toNat=r/4503599627370496-1:=by omega
   rw[e];rfl
  rw[aD];by_cases ae:r=4503599627370496
  ·subst ae;rfl
  ·have hp:1≤2^(r/4503599627370496-1):=Nat.one_le_two_pow;have qB:4503599627370496<(4503599627370496+r%4503599627370496)*2^(r/4503599627370496-1):=by
    by_cases aJ:r%4503599627370496=0
    ·have bQ:2≤r/4503599627370496:=by omega
     have:2^1≤2^(r/4503599627370496-1):=dB (by decide) (by omega);rw[aJ];omega
    ·have:(4503599627370496+r%4503599627370496)*1≤(4503599627370496+r%4503599627370496)*2^(r/4503599627370496-1):=gp _ hp;omega
   generalize (4503599627370496+r%4503599627370496)*2^(r/4503599627370496-1)=v at qB;rw[vP (by omega)];have dm:¬ r<4503599627370496:=h;simp[compare,compareOfLessAndEq,dm,ae]
theorem ao4 {a:Nat} (aS:a<18446744073709551616) (bd:a%9223372036854775808<9218868437227405312) (aX:a%9223372036854775808≠0) :
 ∃(s:Bool) (m z:Nat),4503599627370496≤m∧m<9007199254740992∧z≤2045∧s=(a/9223372036854775808%2==1)∧
   ((4503599627370496≤a%9223372036854775808∧a=D.word s (z*4503599627370496+m)∧∀k,D.write (scaled k (D.read a))=D.nearest s m (z-1074+k))∨
    (a%9223372036854775808<4503599627370496∧D.mul a 4841369599423283200=U (D.word s (z*4503599627370496+m))∧∀k,D.write (scaled k (D.read a))=D.nearest s m (z-1126+k))):=by
 obtain⟨r,aF⟩:∃r,a%9223372036854775808=r:=⟨_,rfl⟩;obtain⟨s,a1⟩:∃s,(a/9223372036854775808%2==1)=s:=⟨_,rfl⟩;have DE:=jK a;rw[aF,a1] at DE;rw[aF] at bd aX;by_cases h:r<4503599627370496
 ·rw[ba h] at DE;obtain⟨iT,pK,tB,DF⟩:=af2 aX h;refine⟨s,r*2^(52-r.log2),r.log2,pK,tB,by omega,a1.symm,.inr ⟨by omega,?_,fun k=>?_⟩⟩
  ·rw[af1 s r _ DE,DF,PR s (by omega) tB (.inl pK) (by omega)];have e:(-1074+52-((52-r.log2:Nat):Int)+1074).toNat=r.log2:=by omega
   rw[e]
  ·rw[DE];show D.nearest s r (-1074+k)=_;rw[DF];congr 1;omega
 ·rw[aU h,ba bd] at DE;refine⟨s,4503599627370496+r%4503599627370496,r/4503599627370496-1,by omega,by omega,by omega,a1.symm,.inl ⟨by omega,?_,fun k=>?_⟩⟩
  ·have aa:=PS aS;rw[aF,a1] at aa;rw[←aa];congr 1;omega
  ·rw[DE];show D.nearest s _ (-1074+((r/4503599627370496-1:Nat):Int)+k)=_;have e:-1074+((r/4503599627370496-1:Nat):Int)+k=((r/4503599627370496-1:Nat):Int)-1074+k:=by omega
   rw[e]
end Go.Proofs.YtkhphoonnkoipaaGreatDoor.av
namespace Go.Proofs.YtkhphoonnkoipaaGreatDoor
def HO (y:Nat) (e:Int) (w:af) (bm:Ending) (w':af):Prop:=bm=.returned (.tuple #[.float .f64 y,.int .i64 e])∧w=w'
theorem acL (a:Nat) (aS:a<18446744073709551616) (bd:a%9223372036854775808<9218868437227405312) (h:4503599627370496≤a%9223372036854775808) (w:af) :
 aq ak 169 #[.float .f64 a] w (HO a 0 w):=by
 have eQ:=I (QD a aS);have HP:=av.acK bd;generalize a%9223372036854775808=r at *;have b6:FloatKind.f64.format.order r 4503599627370496=U .eq∨FloatKind.f64.format.order r 4503599627370496=U .gt:=by
  have e:FloatKind.f64.format.order r 4503599627370496=U (compare (r:Nat) 4503599627370496):=HP;rw[e];by_cases ae:r=4503599627370496
  ·left;subst ae;rfl
  ·right;have dm:¬ r<4503599627370496:=by omega
   simp[compare,compareOfLessAndEq,dm,ae]
 clear HP h bd;rcases b6 with b6 | b6;all_goals
  go_enter func169,ntmps169;go_wp2_with fail;refine (eQ.out _).mono ?_;rintro e w' ⟨rfl,rfl⟩;go_wp2;go_ret2;exact⟨rfl,rfl⟩
theorem ao5 (a y:Nat) (aS:a<18446744073709551616) (h:a%9223372036854775808<4503599627370496) (aW:av.D.mul a 4841369599423283200=U y) (w:af) :
 aq ak 169 #[.float .f64 a] w (HO y (-52) w):=by
 have eQ:=I (QD a aS);have HP:=av.acK (r:=a%9223372036854775808) (by omega);have ae:=fun (t:TypeId) (w:af)=>sc (P:=ak) w .mul t .f64 a 4841369599423283200 y aW;generalize a%9223372036854775808=r at *;have b6:FloatKind.f64.format.order r 4503599627370496=U .lt:=by
  have e:FloatKind.f64.format.order r 4503599627370496=U (compare (r:Nat) 4503599627370496):=HP;rw[e];simp[compare,compareOfLessAndEq,h]
 clear HP h aW;go_enter func169,ntmps169;go_wp2_with fail;refine (eQ.out _).mono ?_;rintro e w' ⟨rfl,rfl⟩;go_wp2;go_ret2;exact⟨rfl,rfl⟩
theorem acM (a:Nat) (h:av.dC a=ab) (w:af):aq ak 168 #[.float .f64 a] w fun e w'=>e=.returned (.bool ab)∧w=w':=by
 have b6:FloatKind.f64.format.order a a=U .eq:=by rw[av.Ca,h];rfl
 go_enter func168,ntmps168;go_wp2;go_ret;exact⟨rfl,rfl⟩
theorem ao6 (a:Nat) (h:av.dC a=ai) (w:af):aq ak 168 #[.float .f64 a] w fun e w'=>e=.returned (.bool ai)∧w=w':=by
 have b6:FloatKind.f64.format.order a a=none:=by rw[av.Ca,h];rfl
 go_enter func168,ntmps168;go_wp2;go_ret;exact⟨rfl,rfl⟩
theorem acN (n:Int) (w:af) (aB:n=1∨n = -1):aq ak 171 #[.int .i64 n] w fun e w'=>e=.returned (.float .f64 (if n=1 then 9218868437227405312 else 18442240474082181120))∧w=w':=by
 have aa:=B9;rcases aB with rfl | rfl;all_goals
  go_enter func171,ntmps171;go_wp2;go_ret;exact⟨rfl,rfl⟩
namespace av
open Ieee
theorem w0 (s:Bool) (r:Nat):D.word s r=(if s then 9223372036854775808 else 0)+r:=by
 unfold Format.word;have:D.signWeight=9223372036854775808:=by decide
 rw[this];cases s
 ·simp
 ·rfl
theorem ao7 (s:Bool) {m z:Nat} (aa:4503599627370496≤m) (ae:m<9007199254740992) (aX:z≤2045):D.order (D.word s (z*4503599627370496+m)) 0=U (if s then .lt else .gt):=by
 obtain⟨bH,cN,fV⟩:=B7 s aa ae aX;rw[td fV (by decide),bH];have ar:val (D.read 0)=0:=by rw[jK];decide +kernel
 rw[ar];simp only[val];unfold Ieee.signed;rw[mM];have hp:0<m*2^((z:Int)-1074+1074).toNat:=lM (by omega) (dK (by decide));generalize m*2^((z:Int)-1074+1074).toNat=v at *;cases s
 ·rw[vP (by simp;omega)];rfl
 ·rw[tc (by simp;omega)];rfl
end av
theorem acO (s:Bool) {m z:Nat} (aa:4503599627370496≤m) (ae:m<9007199254740992) (aX:z≤2045):bits .andNot .u64 ((av.D.word s (z*4503599627370496+m):Nat):Int) 9218868437227405312=(((if s then 9223372036854775808 else 0)+(m-4503599627370496):Nat):Int):=by
 rw[av.w0];have h:=Ot ((if s then 9223372036854775808 else 0)+(z*4503599627370496+m)) 9218868437227405312 (by cases s<;>simp<;>omega) (by omega);rw[show ((9218868437227405312:Nat):Int)=9218868437227405312 from rfl] at h;have key:((if s then 9223372036854775808 else 0)+(z*4503599627370496+m)) &&& (18446744073709551615-9218868437227405312)=(if s then 9223372036854775808 else 0)+(m-4503599627370496):=by
  have an:18446744073709551615-9218868437227405312=9223372036854775808 ||| (2^52-1):=by decide
  rw[an,V2,D7];have aH:((if s then 9223372036854775808 else 0)+(z*4503599627370496+m))%2^52=m-4503599627370496:=by
   have:(2:Nat)^52=4503599627370496:=by decide
   rw[this];cases s<;>simp<;>omega
  have aT:((if s then 9223372036854775808 else 0)+(z*4503599627370496+m)) &&& 9223372036854775808=(if s then 9223372036854775808 else 0):=by
   have aA:(9223372036854775808:Nat)=2^63:=by decide
   rw[aA];have bn:(((if s then 2^63 else 0)+(z*4503599627370496+m))).testBit 63=s:=by
    rw[VQ];cases s
    ·have:((if ab=ai then 2^63 else 0)+(z*4503599627370496+m))/2^63%2=0:=by simp;omega
     rw[this];rfl
    ·have:((if ai=ai then 2^63 else 0)+(z*4503599627370496+m))/2^63%2=1:=by simp;omega
     rw[this];rfl
   apply Eh;intro i;rw[Oi,Ei];by_cases aV:63=i
   ·subst aV;rw[bn];cases s
    ·simp
    ·simp;decide
   ·cases s
    ·simp[aV]
    ·have ae:=Ei (n:=63) (m:=i);rw[←aA] at ae;simp[aV] at ae ⊢;exact ae
  rw[aH,aT];have bV:m-4503599627370496<2^63:=by omega
  cases s
  ·simp
  ·rw[ba rfl];have:=oJ (i:=63) bV 1;simpa using this.symm
 rw[h,key]
theorem acP (s:Bool) {m z:Nat} (aa:4503599627370496≤m) (ae:m<9007199254740992) (aX:z≤2045):bits .or .u64 (((if s then 9223372036854775808 else 0)+(m-4503599627370496):Nat):Int) (((z+1)*4503599627370496:Nat):Int)=((av.D.word s (z*4503599627370496+m):Nat):Int):=by
 rw[Fh (by cases s<;>simp<;>omega) (by omega),av.w0];apply eS (fun n:Nat=>(n:Int));have bV:m-4503599627370496<2^52:=by omega
 have aH:(z+1)*4503599627370496 ||| (m-4503599627370496)=(z+1)*4503599627370496+(m-4503599627370496):=by
  have:=oJ (i:=52) bV (z+1);rw[show (2:Nat)^52=4503599627370496 by decide] at this;rw[dx,←this]
 cases s
 ·simp only[oL,oV,hc];rw[si,aH];omega
 ·rw[ba rfl];have vY:∀r,r<2^63→9223372036854775808+r=9223372036854775808 ||| r:=fun r aF=>by
   have:=oJ (i:=63) aF 1;simpa using this
  rw[vY _ (by omega),Nat.or_assoc,si (m-4503599627370496),aH,←vY _ (by omega)];omega
theorem ao8 (s:Bool) (y r:Nat) (aW:y=(if s then 9223372036854775808 else 0)+r) (aF:r<9223372036854775808) (w:af) :
 aq ak 170 #[.float .f64 0,.float .f64 y] w fun e w'=>e=.returned (.float .f64 (if s then 9223372036854775808 else 0))∧w=w':=by
 have aa:=B';have ae:=B9;have cd:bits .andNot .u64 0 9223372036854775808=0:=by decide
 obtain⟨t,bn⟩:∃t:Nat,(if s then 9223372036854775808 else 0)=t:=⟨_,rfl⟩;have cF:bits .and .u64 (y:Int) 9223372036854775808=(t:Int):=by
  have zY:y<18446744073709551616:=by rw[aW];cases s<;>simp<;>omega
  have kA:(2:Nat)^IntKind.u64.bits=18446744073709551616:=rfl;have e:(9223372036854775808:Int)=((9223372036854775808:Nat):Int):=rfl;rw[e];simp only[bits,oK,BK,ns,kA];rw[eF zY,eF (show 9223372036854775808<18446744073709551616 by decide)];have key:y &&& 9223372036854775808=t:=by
   have aA:(9223372036854775808:Nat)=2^63:=by decide
   rw[←bn,aA];apply Eh;intro i;rw[Oi,Ei];by_cases aV:63=i
   ·subst aV;have TD:y.testBit 63=s:=by
     rw[VQ];cases s
     ·have:y/2^63%2=0:=by simp at aW;omega
      rw[this];rfl
     ·have:y/2^63%2=1:=by simp at aW;omega
      rw[this];rfl
    rw[TD];cases s
    ·simp
    ·simp;decide
   ·cases s
    ·simp[aV]
    ·have ae:=Ei (n:=63) (m:=i);rw[←aA] at ae;simp[aV] at ae ⊢;exact ae
  rw[key,pA (by rw[←bn];cases s<;>decide)]
 have fw:bits .or .u64 0 (t:Int)=(t:Int):=by
  have:=Fh (a:=0) (b:=t) (by decide) (by rw[←bn];cases s<;>decide);simpa using this
 rw[bn];clear aW aF bn;go_enter func170,ntmps170;go_wp2;go_ret;exact⟨rfl,rfl⟩
end Go.Proofs.YtkhphoonnkoipaaGreatDoor
namespace Go.Proofs.YtkhphoonnkoipaaGreatDoor
theorem acQ (a y m z:Nat) (s:Bool) (k ck:Int) (w:af) (aS:a<18446744073709551616) (bd:a%9223372036854775808<9218868437227405312) (aX:a%9223372036854775808≠0)
 (aB:∀w,aq ak 169 #[.float .f64 a] w (HO y ck w)) (aW:y=av.D.word s (z*4503599627370496+m)) (aa:4503599627370496≤m) (ae:m<9007199254740992) (yT:z≤2045) (yU:-52≤ck∧ck≤0) (aA:-40000≤k∧k≤40000) :
 aq ak 139 #[.float .f64 a,.int .i64 k] w fun e w'=>e=.returned (.float .f64 (av.D.nearest s m (z-1074+ck+k)))∧w=w':=by
 have mq:FloatKind.f64.format.order a 0=U .lt∨FloatKind.f64.format.order a 0=U .gt:=av.Ki bd aX;have hq:=I (fun w=>Cs a aS w);rw[bx (by omega)] at hq;have nI:=I (fun w=>acM a (by simp[av.dC];omega) w);have bU:=I aB;have ad:=B';have Lr:=B9;obtain⟨bH,cN,fV⟩:=av.B7 s aa ae yT;rw[←aW] at cN;have DG:FloatKind.f64.format.order y 0=U (if s then .lt else .gt):=by rw[aW];exact av.ao7 s aa ae yT
 have tx:y=(if s then 9223372036854775808 else 0)+(z*4503599627370496+m):=by rw[aW,av.w0]
 obtain⟨Z,iz⟩:∃Z,z+1=Z:=⟨_,rfl⟩;have hex:bits .and .i64 ((y:Int)/4503599627370496) 2047=(Z:Int):=by
  rw[Qp y cN,←iz];congr 1;rw[tx];cases s<;>simp<;>omega
 obtain⟨E,ef⟩:∃E:Int,k+ck+((Z:Int)-1023)=E:=⟨_,rfl⟩;have bG:=I (show av.D.nearest s m (z-1074+ck+k)=av.D.nearest s m (E-52) by congr 1;omega);rw[bG.out];have ayE:-43000≤E∧E≤43000:=by omega
 have ao9:1≤Z∧Z≤2046:=by omega
 obtain⟨vt,w1⟩:∃vt:Nat,(if s then 9223372036854775808 else 0)+(m-4503599627370496)=vt:=⟨_,rfl⟩;have hand:bits .andNot .u64 (y:Int) 9218868437227405312=(vt:Int):=by rw[aW,acO s aa ae yT,w1]
 have qz:=I (fun (q:Nat) (aE:q≤2045)=>acP s aa ae aE);rw[w1] at qz;have DH:=I (fun w=>ao8 s y (z*4503599627370496+m) tx (by omega) w);have wW:=I (fun (q:Nat) (aE:q≤2045)=>av.mul_one s aa ae aE);have Uf:=I (fun (q:Nat) (aE:q≤2045)=>av.af0 s aa ae aE);have aN:=I (fun (hx:E < -1075)=>av.afV s aa ae hx);have eK:=I (fun (hx:1023<E)=>av.afW s aa ae hx);clear aB aW bH fV tx iz w1 bd aX bG aa ae yT;by_cases c1:E < -1075
 ·have b3:=I (aN.out c1);rcases mq with b6 | b6;all_goals
   go_enter xD,xy;go_wp2_with fail;refine (hq.out _).mono ?_;rintro e w' ⟨rfl,rfl⟩;go_wp2_with fail;refine (nI.out _).mono ?_;rintro e w' ⟨rfl,rfl⟩;go_wp2_with fail;refine (bU.out _).mono ?_;rintro e w' ⟨rfl,rfl⟩;go_wp2_with fail;refine (DH.out _).mono ?_;rintro e w' ⟨rfl,rfl⟩;generalize aY:(if s=ai then 9223372036854775808 else 0)=t;have bc:=I aY;clear aY DG;go_wp2;go_ret;exact⟨PV (by rw[b3.out,av.w0,bc.out];rfl),rfl⟩
 by_cases c2:1023<E
 ·have b3:=I (eK.out c2);cases s
  ·have iJ:FloatKind.f64.format.order y 0=U .gt:=DG;clear DG;rcases mq with b6 | b6;all_goals
    go_enter xD,xy;go_wp2_with fail;refine (hq.out _).mono ?_;rintro e w' ⟨rfl,rfl⟩;go_wp2_with fail;refine (nI.out _).mono ?_;rintro e w' ⟨rfl,rfl⟩;go_wp2_with fail;refine (bU.out _).mono ?_;rintro e w' ⟨rfl,rfl⟩;go_wp2_with fail;refine (acN 1 _ (.inl rfl)).mono ?_;rintro e w' ⟨rfl,rfl⟩;go_wp2;go_ret;exact⟨PV (by rw[b3.out,av.w0];rfl),rfl⟩
  ·have iJ:FloatKind.f64.format.order y 0=U .lt:=DG;clear DG;rcases mq with b6 | b6;all_goals
    go_enter xD,xy;go_wp2_with fail;refine (hq.out _).mono ?_;rintro e w' ⟨rfl,rfl⟩;go_wp2_with fail;refine (nI.out _).mono ?_;rintro e w' ⟨rfl,rfl⟩;go_wp2_with fail;refine (bU.out _).mono ?_;rintro e w' ⟨rfl,rfl⟩;go_wp2_with fail;refine (acN (-1) _ (.inr rfl)).mono ?_;rintro e w' ⟨rfl,rfl⟩;go_wp2;go_ret;exact⟨PV (by rw[b3.out,av.w0];rfl),rfl⟩
 clear DG;by_cases c3:E < -1022
 ·obtain⟨Q,ma⟩:∃Q:Nat,E+53+1023=(Q:Int):=⟨(E+53+1023).toNat,by omega⟩;have Hv:1≤Q∧Q≤2046:=by omega
  obtain⟨j',ui⟩:∃j',av.D.word s ((Q-1)*4503599627370496+m)=j':=⟨_,rfl⟩;have gU:bits .or .u64 (vt:Int) ((Q:Int)*4503599627370496)=(j':Int):=by
   have:=qz.out (Q-1) (by omega);rw[ui,show Q-1+1=Q by omega] at this;rw[←this];simp
  have hm:=Uf.out (Q-1) (by omega);rw[ui,show ((Q-1:Nat):Int)-1127=E-52 by omega] at hm;have ga:=fun (t:TypeId) (w:af)=>sc (P:=ak) w .mul t .f64 4368491638549381120 j' _ hm;generalize av.D.nearest s m (E-52)=R at *;clear qz wW Uf aN eK hm ui;rcases mq with b6 | b6;all_goals
   go_enter xD,xy;go_wp2_with fail;refine (hq.out _).mono ?_;rintro e w' ⟨rfl,rfl⟩;go_wp2_with fail;refine (nI.out _).mono ?_;rintro e w' ⟨rfl,rfl⟩;go_wp2_with fail;refine (bU.out _).mono ?_;rintro e w' ⟨rfl,rfl⟩;go_wp2;go_ret;exact⟨rfl,rfl⟩
 ·obtain⟨Q,ma⟩:∃Q:Nat,E+1023=(Q:Int):=⟨(E+1023).toNat,by omega⟩;have Hv:1≤Q∧Q≤2046:=by omega
  obtain⟨j',ui⟩:∃j',av.D.word s ((Q-1)*4503599627370496+m)=j':=⟨_,rfl⟩;have gU:bits .or .u64 (vt:Int) ((Q:Int)*4503599627370496)=(j':Int):=by
   have:=qz.out (Q-1) (by omega);rw[ui,show Q-1+1=Q by omega] at this;rw[←this];simp
  have hm:=wW.out (Q-1) (by omega);rw[ui,show ((Q-1:Nat):Int)-1074=E-52 by omega] at hm;have ga:=fun (t:TypeId) (w:af)=>sc (P:=ak) w .mul t .f64 4607182418800017408 j' _ hm;generalize av.D.nearest s m (E-52)=R at *;clear qz wW Uf aN eK hm ui;rcases mq with b6 | b6;all_goals
   go_enter xD,xy;go_wp2_with fail;refine (hq.out _).mono ?_;rintro e w' ⟨rfl,rfl⟩;go_wp2_with fail;refine (nI.out _).mono ?_;rintro e w' ⟨rfl,rfl⟩;go_wp2_with fail;refine (bU.out _).mono ?_;rintro e w' ⟨rfl,rfl⟩;go_wp2;go_ret;exact⟨rfl,rfl⟩
theorem ao' (a:Nat) (k:Int) (w:af) (aS:a<18446744073709551616) (bd:a%9223372036854775808<9218868437227405312) (aX:a%9223372036854775808≠0) (aA:-40000≤k∧k≤40000) :
 aq ak 139 #[.float .f64 a,.int .i64 k] w fun e w'=>e=.returned (.float .f64 (av.lr a k))∧w=w':=by
 have mG:av.dC a=ab:=by simp[av.dC];omega
 obtain⟨s,m,z,aa,ae,aJ,_,h⟩:=av.ao4 aS bd aX;unfold av.lr;rw[mG];rcases h with ⟨ad,aW,aF⟩ | ⟨ad,aW,aF⟩
 ·have:=acQ a a m z s k 0 w aS bd aX (fun w=>acL a aS bd ad w) aW aa ae aJ (by omega) aA;rw[show (z:Int)-1074+0+k=z-1074+k by omega] at this;simpa[aF k] using this
 ·have:=acQ a _ m z s k (-52) w aS bd aX (fun w=>ao5 a _ aS ad aW w) rfl aa ae aJ (by omega) aA;rw[show (z:Int)-1074 + -52+k=z-1126+k by omega] at this;simpa[aF k] using this
theorem apa (a:Nat) (k:Int) (w:af) (aX:FloatKind.f64.format.order a 0=U .eq) :
 aq ak 139 #[.float .f64 a,.int .i64 k] w fun e w'=>e=.returned (.float .f64 a)∧w=w':=by
 go_enter xD,xy;go_wp2;go_ret;exact⟨rfl,rfl⟩
end Go.Proofs.YtkhphoonnkoipaaGreatDoor
namespace Go.Proofs.YtkhphoonnkoipaaGreatDoor.av
open Ieee
theorem Ug {a:Nat} (k:Int) (aS:a<18446744073709551616) (aX:a%9223372036854775808=0):lr a k=a:=by
 have mG:dC a=ab:=by simp[dC];omega
 unfold lr;rw[mG,aU (by decide)];have aa:=PS aS;rw[aX] at aa;rw[jK,ba (by omega),aX];show D.nearest _ 0 (-1074+k)=a;unfold Format.nearest;rw[ba rfl];exact aa
theorem apb {a:Nat} (k:Int) (aS:a<18446744073709551616) (aX:a%9223372036854775808=9218868437227405312):lr a k=a:=by
 have mG:dC a=ab:=by simp[dC];omega
 have h:=afU aS mG;have aF:D.read a=.infinity (a/9223372036854775808%2==1):=by rw[jK,aU (by omega),aU (by omega),ba aX]
 unfold lr;rw[mG,aU (by decide)];rw[aF] at h ⊢;exact h
theorem acR {a:Nat} (aX:a%9223372036854775808=0):D.order a 0=U .eq:=by
 rw[td (by simp[dC];omega) (by decide)];have ar:val (D.read 0)=0:=by rw[jK];decide +kernel
 have aa:val (D.read a)=0:=by
  rw[jK,ba (by omega),aX];simp only[val];unfold Ieee.signed;simp
 rw[ar,aa];rfl
set_option exponentiation.threshold 3000 in
theorem apc {a:Nat} (aS:a%9223372036854775808=9218868437227405312):D.order a 0=U .lt∨D.order a 0=U .gt:=by
 rw[td (by simp[dC];omega) (by decide)];have ar:val (D.read 0)=0:=by rw[jK];decide +kernel
 rw[ar,jK,aU (by omega),aU (by omega),ba aS];simp only[val];have hp:(0:Nat)<2^2200:=dK (by decide);unfold Ieee.signed;rw[mM,fW];generalize 2^2200=v at hp;cases (a/9223372036854775808%2==1)
 ·right;rw[vP (by simp;omega)]
 ·left;rw[tc (by simp;omega)]
end Go.Proofs.YtkhphoonnkoipaaGreatDoor.av
namespace Go.Proofs.YtkhphoonnkoipaaGreatDoor
theorem apd (a:Nat) (k:Int) (w:af) (aS:a<18446744073709551616) (aV:a%9223372036854775808=9218868437227405312) :
 aq ak 139 #[.float .f64 a,.int .i64 k] w fun e w'=>e=.returned (.float .f64 a)∧w=w':=by
 have hq:=I (fun w=>Cs a aS w);rw[bE aV] at hq;have b6:FloatKind.f64.format.order a 0=U .lt∨FloatKind.f64.format.order a 0=U .gt:=av.apc aV;clear aV;rcases b6 with b6 | b6;all_goals
  go_enter xD,xy;go_wp2_with fail;refine (hq.out _).mono ?_;rintro e w' ⟨rfl,rfl⟩;go_wp2;go_ret;exact⟨rfl,rfl⟩
theorem ape (a:Nat) (k:Int) (w:af) (aS:a<18446744073709551616) (aB:av.dC a=ai) :
 aq ak 139 #[.float .f64 a,.int .i64 k] w fun e w'=>e=.returned (.float .f64 a)∧w=w':=by
 have aV:¬ a%9223372036854775808=9218868437227405312:=by simp[av.dC] at aB;omega
 have hq:=I (fun w=>Cs a aS w);rw[bx aV] at hq;have bU:=I (fun w=>ao6 a aB w);have b6:FloatKind.f64.format.order a 0=none:=av.PN 0 aB;clear aV aB;go_enter xD,xy;go_wp2_with fail;refine (hq.out _).mono ?_;rintro e w' ⟨rfl,rfl⟩;go_wp2_with fail;refine (bU.out _).mono ?_;rintro e w' ⟨rfl,rfl⟩;go_wp2;go_ret;exact⟨rfl,rfl⟩
theorem apf (a:Nat) (k:Int) (w:af) (aS:a<18446744073709551616) (aA:-40000≤k∧k≤40000) :
 aq ak 139 #[.float .f64 a,.int .i64 k] w fun e w'=>e=.returned (.float .f64 (av.lr a k))∧w=w':=by
 by_cases ar:a%9223372036854775808=0
 ·rw[av.Ug k aS ar];exact apa a k w (av.acR ar)
 ·rcases zk (a%9223372036854775808) 9218868437227405312 with h | h | h
  ·exact ao' a k w aS h ar aA
  ·rw[av.apb k aS h];exact apd a k w aS h
  ·have aB:av.dC a=ai:=by simp[av.dC];omega
   have e:av.lr a k=a:=by unfold av.lr;rw[aB];rfl
   rw[e];exact ape a k w aS aB
theorem Uh (a:Nat) (k:Int) (w:af) (aS:a<18446744073709551616) (aA:-40000≤k∧k≤40000) :
 aq ak 80 #[.float .f64 a,.int .i64 k] w fun e w'=>e=.returned (.float .f64 (av.lr a k))∧w=w':=by
 have H:=I (fun w=>apf a k w aS aA);generalize av.lr a k=r at *;go_enter func80,ntmps80;go_wp2_with fail;refine (H.out _).mono ?_;rintro e w' ⟨rfl,rfl⟩;go_wp2;go_ret;exact⟨rfl,rfl⟩
theorem apg (a:Nat) (n:Int) (w:af) (aS:a<18446744073709551616) :
 aq ak 97 #[.int .u64 a,.int .i64 n] w fun e w'=>e=.returned (.int .u64 (av.PU a n))∧w=w':=by
 obtain⟨c,an⟩:∃c,av.PT n=c:=⟨_,rfl⟩;have Ce:-3000≤c∧c≤3000:=by rw[←an];unfold av.PT;omega
 have mu:max (min n 3000) (-3000)=c:=an;have H:=I (fun w=>Uh a c w aS (by omega));have cM:=I (show av.PU a n=av.told (av.lr a c) by unfold av.PU;rw[an]);rw[cM.out];generalize av.lr a c=r at *;clear an;go_enter func97,ntmps97;go_wp2_with fail;refine (h3 _ _).mono ?_;rintro e w' ⟨rfl,rfl⟩;go_wp2_with fail;refine (H.out _).mono ?_;rintro e w' ⟨rfl,rfl⟩;go_wp2_with fail;refine (nx _ _).mono ?_;rintro e w' ⟨rfl,rfl⟩;go_wp2;go_ret;exact⟨rfl,rfl⟩
def av.j0 (a:Nat):Nat:=FloatKind.f64.encode ((FloatKind.f64.decode a).integral .zero)
theorem aph (name:String) (acS:Ieee.Toward) (a:Nat) (h:av.dC a=ab):Extern.MathFloor.toIntegral name acS #[.float .f64 a]=pure (.float .f64 (FloatKind.f64.encode ((FloatKind.f64.decode a).integral acS))):=by
 have aY:av.Good (FloatKind.f64.decode a):=av.JQ h;change Extern.MathFloor.toIntegral.match_1 _ (FloatKind.f64.decode a) _ _=_;generalize FloatKind.f64.decode a=d at aY;cases d with
 | number s m i=>rfl
 | infinity s=>rfl
 | nan s f=>exact aY.elim
theorem api (a:Nat) (w:af) (h:av.dC a=ab):(callFunc 172 #[.float .f64 a]).run ak w=.ok (.value (.float .f64 (av.j0 a))) w:=by
 rw[zg func172 (by kernel_rfl) (by kernel_rfl) (by kernel_rfl) (show Extern.find _=U (Extern.MathFloor.toIntegral "math.archTrunc" .zero) by kernel_rfl),aph _ _ _ h];rfl
theorem acT (a:Nat) (w:af) (h:av.dC a=ab):aq ak 143 #[.float .f64 a] w fun e w'=>e=.returned (.float .f64 (av.j0 a))∧w=w':=by
 have aa:=fun w=>api a w h;generalize av.j0 a=b at *;go_enter func143,ntmps143;go_wp2;go_ret;exact⟨rfl,rfl⟩
def Mn (a f:Nat) (e:Int):Prop:=∀w,aq ak 145 #[.float .f64 a] w fun bm w'=>bm=.returned (.tuple #[.float .f64 f,.int .i64 e])∧w=w'
theorem apj (a:Nat) (aX:FloatKind.f64.format.order a 0=U .eq) (w:af):aq ak 176 #[.float .f64 a] w fun bm w'=>bm=.returned (.tuple #[.float .f64 a,.int .i64 0])∧w=w':=by
 go_enter func176,ntmps176;go_wp2;go_ret2;exact⟨rfl,rfl⟩
theorem apk (a y m z:Nat) (s:Bool) (ck:Int) (w:af) (aS:a<18446744073709551616) (bd:a%9223372036854775808<9218868437227405312) (aX:a%9223372036854775808≠0)
 (aB:∀w,aq ak 169 #[.float .f64 a] w (HO y ck w)) (aW:y=av.D.word s (z*4503599627370496+m)) (aa:4503599627370496≤m) (ae:m<9007199254740992) (yT:z≤2045) (yU:-52≤ck∧ck≤0) :
 aq ak 176 #[.float .f64 a] w fun bm w'=>bm=.returned (.tuple #[.float .f64 (av.D.word s (1021*4503599627370496+m)),.int .i64 (z-1021+ck)])∧w=w':=by
 have mq:FloatKind.f64.format.order a 0=U .lt∨FloatKind.f64.format.order a 0=U .gt:=av.Ki bd aX;have hq:=I (fun w=>Cs a aS w);rw[bx (by omega)] at hq;have nI:=I (fun w=>acM a (by simp[av.dC];omega) w);have bU:=I aB;have ad:=B';have Lr:=B9;obtain⟨bH,cN,fV⟩:=av.B7 s aa ae yT;rw[←aW] at cN;have tx:y=(if s then 9223372036854775808 else 0)+(z*4503599627370496+m):=by rw[aW,av.w0]
 obtain⟨Z,iz⟩:∃Z,z+1=Z:=⟨_,rfl⟩;have hex:bits .and .u64 ((y:Int)/4503599627370496) 2047=(Z:Int):=by
  rw[X' y cN,←iz];congr 1;rw[tx];cases s<;>simp<;>omega
 have fQ:=I (show (z:Int)-1021+ck=ck+((Z:Int)-1023+1) by omega);have ao9:1≤Z∧Z≤2046:=by omega
 obtain⟨vt,w1⟩:∃vt:Nat,(if s then 9223372036854775808 else 0)+(m-4503599627370496)=vt:=⟨_,rfl⟩;have hand:bits .andNot .u64 (y:Int) 9218868437227405312=(vt:Int):=by rw[aW,acO s aa ae yT,w1]
 obtain⟨j',ui⟩:∃j',av.D.word s (1021*4503599627370496+m)=j':=⟨_,rfl⟩;have gU:bits .or .u64 (vt:Int) 4602678819172646912=(j':Int):=by
  have:=acP s aa ae (z:=1021) (by omega);rw[w1,ui] at this;exact this
 rw[ui,fQ.out];clear aB aW bH fV tx iz w1 bd aX aa ae yT ui fQ;rcases mq with b6 | b6;all_goals
  go_enter func176,ntmps176;go_wp2_with fail;refine (hq.out _).mono ?_;rintro e w' ⟨rfl,rfl⟩;go_wp2_with fail;refine (nI.out _).mono ?_;rintro e w' ⟨rfl,rfl⟩;go_wp2_with fail;refine (bU.out _).mono ?_;rintro e w' ⟨rfl,rfl⟩;go_wp2;go_ret2;exact⟨rfl,rfl⟩
theorem acU (a f:Nat) (e:Int) (h:∀w,aq ak 176 #[.float .f64 a] w fun bm w'=>bm=.returned (.tuple #[.float .f64 f,.int .i64 e])∧w=w'):Mn a f e:=by
 intro w;go_enter func145,ntmps145;go_wp2_with fail;refine (h _).mono ?_;rintro e w' ⟨rfl,rfl⟩;go_wp2;go_ret2;exact⟨rfl,rfl⟩
theorem apl (a d:Nat) (w:af) (aS:a<18446744073709551616) (bd:a%9223372036854775808<9218868437227405312) (aL:av.D.sub a (av.j0 a)=U d) :
 aq ak 88 #[.int .u64 a] w fun e w'=>e=.returned (.int .u64 (if av.D.order d 0=U .eq then 0 else av.told d:Nat))∧w=w':=by
 have mG:av.dC a=ab:=by simp[av.dC];omega
 have bZ:=I (fun w=>FI a aS w);rw[bE bd] at bZ;have bc:=I (fun w=>acT a w mG);have ae:=fun (t:TypeId) (w:af)=>sc (P:=ak) w .sub t .f64 a (av.j0 a) d aL;generalize av.j0 a=b at *;obtain⟨a7,b6⟩:∃a7,FloatKind.f64.format.order d 0=a7:=⟨_,rfl⟩;have sn:av.D.order d 0=a7:=b6;rw[sn];clear bd mG aL sn;rcases a7 with _ | a7
 ·rw[aU (by simp)];go_enter B0,E2;go_wp2_with (first | (refine (h3 _ _).mono ?_;rintro e w' ⟨rfl,rfl⟩) | (refine (bZ.out _).mono ?_;rintro e w' ⟨rfl,rfl⟩) | (refine (bc.out _).mono ?_;rintro e w' ⟨rfl,rfl⟩));refine (nx _ _).mono ?_;rintro e w' ⟨rfl,rfl⟩;go_wp2;go_ret;exact⟨rfl,rfl⟩
 ·cases a7
  ·rw[aU (by simp)];go_enter B0,E2;go_wp2_with (first | (refine (h3 _ _).mono ?_;rintro e w' ⟨rfl,rfl⟩) | (refine (bZ.out _).mono ?_;rintro e w' ⟨rfl,rfl⟩) | (refine (bc.out _).mono ?_;rintro e w' ⟨rfl,rfl⟩));refine (nx _ _).mono ?_;rintro e w' ⟨rfl,rfl⟩;go_wp2;go_ret;exact⟨rfl,rfl⟩
  ·rw[ba rfl];go_enter B0,E2;go_wp2_with (first | (refine (h3 _ _).mono ?_;rintro e w' ⟨rfl,rfl⟩) | (refine (bZ.out _).mono ?_;rintro e w' ⟨rfl,rfl⟩) | (refine (bc.out _).mono ?_;rintro e w' ⟨rfl,rfl⟩));go_ret;exact⟨rfl,rfl⟩
  ·rw[aU (by simp)];go_enter B0,E2;go_wp2_with (first | (refine (h3 _ _).mono ?_;rintro e w' ⟨rfl,rfl⟩) | (refine (bZ.out _).mono ?_;rintro e w' ⟨rfl,rfl⟩) | (refine (bc.out _).mono ?_;rintro e w' ⟨rfl,rfl⟩));refine (nx _ _).mono ?_;rintro e w' ⟨rfl,rfl⟩;go_wp2;go_ret;exact⟨rfl,rfl⟩
end Go.Proofs.YtkhphoonnkoipaaGreatDoor
namespace Go.Proofs.YtkhphoonnkoipaaGreatDoor
open Go.RowKit
open av (bR)
theorem ar5 (d:Nat) (p:Int) (neg:Bool) (w:af) (aL:d<18446744073709551616) (he:Env w) :
 aq ak 288 #[.int .u64 d,.int .i64 p,.bool neg] w (y2 d p neg w):=by
 rcases eh d 4503599627370496 with h | h
 ·by_cases ar:p=0
  ·subst ar;exact ar2 d neg w h he
  ·by_cases aa:p < -22∨37<p
   ·exact ar3 d p neg w h aa he
   ·rcases xA p 0 with ae | ae
    ·obtain⟨k,rfl⟩:∃k:Nat,p = -(k:Int):=⟨(-p).toNat,by omega⟩;exact ar1 d k neg w h (by omega) (by omega) he
    ·obtain⟨k,rfl⟩:∃k:Nat,p=(k:Int):=⟨p.toNat,by omega⟩;rcases eh 22 k with aJ | aJ
     ·obtain⟨j,rfl⟩:∃j,k=j+22:=⟨k-22,by omega⟩;exact ar4 d j neg w h (by omega) (by omega) he
     ·exact arY d k neg w h aJ (by omega) he
 ·exact arW d p neg w h aL he
def Io (neg:Bool) (r n:Nat):Value:=.tuple #[.float .f64 (av.D.word neg r),.int .i64 n,if r=9218868437227405312 then .iface 188 (.int .i64 1) else .nilIface]
theorem aek (neg:Bool) {d:Nat} {p:Int} (fr:d≠0) (aL:d<18446744073709551616) (eU:-345≤p) (fE:p≤310) :
 Bh neg (o.vA d (Lib.bitLen d) p)=.tuple #[.float .f64 (av.D.word neg (o.iC bR (d,p))),if o.iC bR (d,p)=9218868437227405312 then .iface 188 (.int .i64 1) else .nilIface]:=by
 obtain⟨cd,cF,fw⟩:=o.FA aL fr;have lP:=Lib.bitLen_le d 64 (aC _) aL;rw[o.arL av.oE cd lP cF fw eU fE];unfold Bh;simp only[NW]
theorem ar6 (s:ByteArray) (n d:Nat) (p:Int) (neg:Bool) (w:af) (a1:uq s) (aF:vx s d p neg ab n) (fr:d≠0) (aL:d<18446744073709551616) (eU:-345≤p) (fE:p≤310) (he:Env w) :
 aq ak 250 #[.string s] w fun e w'=>e=.returned (Io neg (o.iC bR (d,p)) n)∧ah w.heap.size w w':=by
 have aa:=he.opt;have b9:=I (ar5 d p neg w aL he);have aO:=I (aed d p neg w fr aL eU fE he.vT (by have:=he.size;omega));rw[aek neg fr aL eU fE] at aO;have cd:((d:Int)==0)=ab:=by rw[cH];omega
 obtain⟨r,iW⟩:∃r,o.iC bR (d,p)=r:=⟨_,rfl⟩;unfold y2 at b9;rw[iW] at b9 aO ⊢;clear he iW;go_enter zB,zx;go_wp2_with fail;refine (a1 _).mono ?_;rintro e w' ⟨rfl,rfl⟩;go_wp2_with fail;refine (aF _).mono ?_;rintro e w' ⟨rfl,rfl⟩;go_wp2_with fail;refine (vQ _ _).mono ?_;rintro e w' ⟨rfl,rfl⟩;obtain⟨cy,jF,U3⟩:∃cy:Int,(o.eV neg:Int)=cy∧(neg=ab∧cy=0∨neg=ai∧cy=9223372036854775808):=⟨_,rfl,by cases neg<;>simp[o.eV]⟩;rw[jF] at aO;clear jF;rcases U3 with ⟨rfl,rfl⟩ | ⟨rfl,rfl⟩;all_goals
  go_wp2_with fail;refine b9.out.mono ?_;rintro e azn ⟨f,ok,rfl,e4,rfl⟩;cases ok;rotate_left 1
  ·obtain⟨rfl,bV⟩:=e4 rfl;have cD:=I bV;clear e4 bV;go_wp2;go_ret3;refine⟨?_,aK _ _⟩;unfold Io;rw[aU (by have:=cD.out;omega)];rfl
  ·clear e4;by_cases DU:r=9218868437227405312
   ·rw[ba DU] at aO;have hq:=I DU;clear DU;go_wp2_with fail;refine aO.out.mono ?_;rintro e aP ⟨rfl,ad⟩;have ay:=I ad;clear ad;go_wp2;go_ret3;refine⟨?_,ay.out⟩;unfold Io;rw[ba hq.out];rfl
   ·rw[aU DU] at aO;have hq:=I DU;clear DU;go_wp2_with fail;refine aO.out.mono ?_;rintro e aP ⟨rfl,ad⟩;have ay:=I ad;clear ad;go_wp2;go_ret3;refine⟨?_,ay.out⟩;unfold Io;rw[aU hq.out];rfl
end Go.Proofs.YtkhphoonnkoipaaGreatDoor
namespace Go.Proofs.YtkhphoonnkoipaaGreatDoor
def q4 (R:Nat→Prop) (E:Prop) (s:ByteArray) (n:Nat) (w:af):Prop:=
 aq ak 250 #[.string s] w fun e w'=>(∃r,R r∧e=.returned (.tuple #[.float .f64 r,.int .i64 n,.nilIface])∨E∧e=.returned (.tuple #[.float .f64 r,.int .i64 n,.iface 188 (.int .i64 1)]))∧ah w.heap.size w w'
theorem ar7 {R:Nat→Prop} {E:Prop} (s:ByteArray) (w:af) (n:Nat) (h:q4 R E s n w) :
 aq ak 221 #[.string s,.int .i64 64] w fun e w'=>(∃r,R r∧e=.returned (.tuple #[.float .f64 r,.int .i64 n,.nilIface])∨E∧e=.returned (.tuple #[.float .f64 r,.int .i64 n,.iface 188 (.int .i64 1)]))∧ah w.heap.size w w':=by
 go_enter func221,ntmps221;go_wp2_with fail;refine h.mono ?_;rintro e w' ⟨⟨r,⟨bS,rfl⟩ | ⟨ef,rfl⟩⟩,az⟩
 ·go_wp2;go_ret3;exact⟨⟨r,.inl ⟨bS,rfl⟩⟩,az⟩
 ·go_wp2;go_ret3;exact⟨⟨r,.inr ⟨ef,rfl⟩⟩,az⟩
theorem ar8 {R:Nat→Prop} {E:Prop} (s:ByteArray) (w:af) (n:Nat) (h:q4 R E s n w) (aB:Hid (s.size=n)) :
 aq ak 196 #[.string s,.int .i64 64] w fun e w'=>(∃r,R r∧e=.returned (.tuple #[.float .f64 r,.nilIface])∨E∧e=.returned (.tuple #[.float .f64 r,.iface 188 (.int .i64 1)]))∧ah w.heap.size w w':=by
 have zW:=aB.out;have cd:((n:Int) != (n:Int))=ab:=by simp
 go_enter func196,ntmps196;go_wp2_with fail;refine (ar7 s _ n h).mono ?_;rintro e w' ⟨⟨r,⟨bS,rfl⟩ | ⟨ef,rfl⟩⟩,az⟩
 ·go_wp2;go_ret2;exact⟨⟨r,.inl ⟨bS,rfl⟩⟩,az⟩
 ·go_wp2;go_ret2;exact⟨⟨r,.inr ⟨ef,rfl⟩⟩,az⟩
theorem ar9 {R:Nat→Prop} {E:Prop} (s:ByteArray) (w:af) (n:Nat) (h:q4 R E s n w) (aB:Hid (s.size=n)) (a1:s.size≤100000) (he:Env w) :
 aq ak 161 #[.string s,.int .i64 64] w fun e w'=>(∃r,R r∧e=.returned (.tuple #[.float .f64 r,.nilIface])∨E∧∃a,e=.returned (.tuple #[.float .f64 r,.iface 189 (.pointer (U a))]))∧ah w.heap.size w w':=by
 go_enter func161,ntmps161;go_wp2_with fail;refine (ar8 s _ n h aB).mono ?_;rintro e w' ⟨⟨r,⟨bS,rfl⟩ | ⟨ef,rfl⟩⟩,az⟩
 ·go_wp2;go_ret2;exact⟨⟨r,.inl ⟨bS,rfl⟩⟩,az⟩
 ·have ay:=I az;have ar':=he.below az;clear az;go_wp2_with fail;refine (aqM _ s _ a1 ar').mono ?_;rintro e cq ⟨a,rfl,gT⟩;have sM:=I (ay.out.trans (gT.mono ay.out.size));clear gT;go_wp2;go_ret2;exact⟨⟨r,.inr ⟨ef,a,rfl⟩⟩,sM.out⟩
theorem asa {R:Nat→Prop} {E:Prop} (l:List UInt8) (w:af) (ao:l.length≤1000) (bd:o.formed l=ai) (he:Env w) (h:∀w,Env w→q4 R E (ax l) l.length w) :
 aq ak 114 #[.string (ax l)] w fun e w'=>((∃r,R r∧e=.returned (.tuple #[.int .u64 (av.told r),.int .i64 0]))∨E∧e=.returned (.tuple #[.int .u64 0,.int .i64 101]))∧ah w.heap.size w w':=by
 have bZ:=I (W9 l w (by omega));have aO:=I (fun w he=>ar9 (ax l) w l.length (h w he) (I rfl) (by rw[fN];omega) he);rw[bd] at bZ;clear h;generalize ax l=s at *;go_enter PI,O0;go_wp2_with fail;refine bZ.out.mono ?_;rintro e cq ⟨rfl,az⟩;go_wp2_with fail;refine (aO.out _ (he.below az)).mono ?_;rintro e aP ⟨⟨r,⟨bS,rfl⟩ | ⟨ef,a,rfl⟩⟩,dP⟩
 ·have sM:=I (az.trans (dP.mono az.size));clear az dP;go_wp2_with fail;refine (nx _ _).mono ?_;rintro e cc ⟨rfl,rfl⟩;go_wp2;go_ret2;exact⟨.inl ⟨r,bS,rfl⟩,sM.out⟩
 ·have sM:=I (az.trans (dP.mono az.size));clear az dP;go_wp2;go_ret2;exact⟨.inr ⟨ef,rfl⟩,sM.out⟩
namespace o
def bt (n:Nat):Nat:=if n=0 then 0 else n.log2+1
theorem ajL (xs:List Nat):gh xs=[]∨∃ys c,gh xs=ys++[c]∧c≠0:=by
 unfold gh;cases h:xs.reverse.dropWhile (· == 0)with
 | nil=>left;rfl
 | cons c l=>
   right;refine⟨l.reverse,c,by simp,?_⟩;have:=V1 (p:=(· == 0)) xs.reverse;rw[h] at this;simpa using this
theorem ajM {ys:List Nat} {c:Nat} (an:c≠0) (aW:∀x ∈ ys,x<4294967296):bt (num (ys++[c]))=32*ys.length+(c.log2+1):=by
 have aa:=x4 ys aW;have e:num (ys++[c])=num ys+4294967296^ys.length*c:=x5 ys c;have az:(4294967296:Nat)^ys.length=2^(32*ys.length):=by rw[mi]
 rw[az] at e aa;have bY:=sa an;have fA:c<2^(c.log2+1):=oM;have ao:(num (ys++[c])).log2=32*ys.length+c.log2:=by
  refine av.Gx ?_ ?_
  ·rw[e,cm];have:=gp (2^(32*ys.length)) bY;omega
  ·rw[e,nW,cm];have:=gp (2^(32*ys.length)) (show c+1≤2^(c.log2+1) by omega);rw[fP,fI] at this;omega
 have ar:num (ys++[c])≠0:=by
  rw[e];have:=gp (2^(32*ys.length)) (show 1≤c by omega);have:=ez (32*ys.length);omega
 unfold bt;rw[aU ar,ao];omega
end o
theorem Ye (v:Value) (xs:List Nat) (w:af) (h:b2 w v xs) (ao:xs.length≤100000) (hx:∀x ∈ xs,x<4294967296) :
 aq ak 135 #[v] w fun e w'=>e=.returned (.int .i64 (o.bt (o.num xs):Nat))∧w=w':=by
 have bc:=I (qv v xs w h ao);have b9:=I hx;have cD:=I (Ae xs);obtain⟨c7,o9,fj,rfl⟩:=na h;clear h hx;rcases o.ajL xs with ar | ⟨ys,c,ar,an⟩
 ·have cM:=I (show o.bt (o.num xs)=0 by rw[←o.Ct,ar];rfl);go_enter func135,ntmps135;go_wp2_with fail;refine bc.out.mono ?_;rintro e w' ⟨dv,rfl,aF,rfl⟩;rw[ar] at aF;obtain⟨a,K0,rfl⟩:∃a K0,dv=.slice a 0 K0:=by
   rcases aF with ⟨rfl,_⟩ | ⟨b,cap,rfl,_⟩
   ·exact⟨_,_,rfl⟩
   ·exact⟨_,_,rfl⟩
  clear aF;go_wp2;go_ret;exact⟨by rw[cM.out];rfl,rfl⟩
 ·have lX:c<4294967296:=b9.out c (x9 (by rw[ar];simp));have o4:ys.length+1≤100000:=by
   have:=cD.out;rw[ar] at this;simp at this;omega
  have cM:=I (show (o.bt (o.num xs):Int)=32*(ys.length:Int)+(Lib.bitLen c:Nat) by
   rw[←o.Ct,ar,o.ajM an (fun x hx=>b9.out x (x9 (by rw[ar];simp[hx]))),RG an (by omega)];push_cast;rfl)
  have k1:Lib.bitLen c≤32:=B3 c 32 (by omega) (by omega);go_enter func135,ntmps135;go_wp2_with fail;refine bc.out.mono ?_;rintro e w' ⟨dv,rfl,aF,rfl⟩;rw[ar] at aF;rcases aF with ⟨_,aB⟩ | ⟨b,cap,rfl,ae,aJ,bQ⟩
  ·simp at aB
  have gz:w.cell? ⟨b,ys.length,none⟩=U (.int .u32 c):=bQ ys.length c (by simp);rw[ey,pr] at ae ⊢;generalize ys.length=k at *;clear bQ bc b9 cD ar;have b3:=I (fun w=>bits_Len32 (c:Int) w (by omega) (by omega));go_wp2_with fail;refine (b3.out _).mono ?_;rintro e w' ⟨rfl,rfl⟩;rw[qc];generalize Lib.bitLen c=L at *;go_wp2;go_ret;exact⟨jf (by rw[cM.out]),rfl⟩
end Go.Proofs.YtkhphoonnkoipaaGreatDoor
