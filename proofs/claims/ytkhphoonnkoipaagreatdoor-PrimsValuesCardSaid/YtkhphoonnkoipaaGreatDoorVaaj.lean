/- Lemmas. -/
import Derived.Test.YtkhphoonnkoipaaGreatDoorVaai
set_option linter.all false
set_option maxHeartbeats 2000000
set_option maxRecDepth 4000
open Go.Proofs.Tryz Go.RowKit Go.Lib
open Option renaming none→J,some→U
open Bool renaming false→ab
open Decidable renaming decide→au
open Go renaming World→af,Value→aw,Calls→aq
open Go.RowKit renaming Below→ah,Hid→aj
open Go.Proofs.Tryz renaming prog→ak
namespace Go.Proofs.YtkhphoonnkoipaaGreatDoor
theorem Q9 {a:Nat} (h:a<4294967296):IntKind.u32.wrap (a:Int)=a:=by rw[EE];omega
theorem Q' {a b:Nat} (aS:a<4294967296) (ad:b<4294967296):bits .and .u32 (a:Int) (b:Int)=((a &&& b:Nat):Int):=by
 have wi:(2:Nat)^IntKind.u32.bits=4294967296:=rfl;simp only[bits,oK,BK,ns,wi];rw[eF aS,eF ad,Q9 (gQ I6 aS)]
theorem Xq {a b:Nat} (aS:a<4294967296) (ad:b<4294967296):bits .or .u32 (a:Int) (b:Int)=((a ||| b:Nat):Int):=by
 have wi:(2:Nat)^IntKind.u32.bits=4294967296:=rfl;simp only[bits,oK,vL,ns,wi];rw[eF aS,eF ad,Q9 (zm (n:=32) aS ad)]
theorem Ra {a b:Nat} (aS:a<4294967296) (ad:b<4294967296):bits .xor .u32 (a:Int) (b:Int)=((a ^^^ b:Nat):Int):=by
 have wi:(2:Nat)^IntKind.u32.bits=4294967296:=rfl;simp only[bits,oK,Oa,ns,wi];rw[eF aS,eF ad,Q9 (Ep (n:=32) aS ad)]
theorem Rb {a:Nat} (aS:a<4294967296):bits .xor .u32 IntKind.u32.max (a:Int)=((4294967295-a:Nat):Int):=by
 rw[show IntKind.u32.max=((4294967295:Nat):Int) from rfl,Ra (by decide) aS];have h:=BitVec.toNat_not (x:=BitVec.ofNat 32 a);rw[←BitVec.allOnes_xor,Oa,BitVec.toNat_allOnes,ns,eF (show a<2^32 from aS)] at h;rw[show (4294967295:Nat)=2^32-1 from rfl,h]
theorem Rc (x y c d c':Nat) (w:af) (hx:x<4294967296) (aW:y<4294967296) (an:c≤1) (aL:(x+8589934592-y-c)%4294967296=d) (iS:(if x<y+c then 1 else 0)=c') :
 aq ak 166 #[.int .u32 x,.int .u32 y,.int .u32 c] w fun e w'=>e=.returned (.tuple #[.int .u32 d,.int .u32 c'])∧w=w':=by
 have az:=o.aiu hx aW an aL.symm;rw[iS] at az;have hL:d<4294967296:=by omega
 have Kw:x ^^^ y<4294967296:=Ep (n:=32) hx aW;have aH:((x:Int)-(y:Int)-(c:Int))%4294967296=(d:Int):=by omega
 have aT:bits .or .u32 (bits .and .u32 (bits .xor .u32 IntKind.u32.max (x:Int)) (y:Int)) (bits .and .u32 (bits .xor .u32 IntKind.u32.max (bits .xor .u32 (x:Int) (y:Int))) (d:Int))/2147483648=(c':Int):=by
  rw[Rb hx,Ra hx aW,Rb Kw,Q' (by omega) aW,Q' (by omega) hL,Xq (gQ I6 (by omega)) (gQ I6 (by omega)),←az];rfl
 clear az iS Kw;go_enter func166,ntmps166;go_wp2_with fail;all_goals
  go_ret2;exact⟨rfl,rfl⟩
theorem Xr (e6 fz:aw) (fk iw:List Nat) (w:af) (hx:b2 w e6 fk) (aW:b2 w fz iw) (rv:fk.length≤3000) (ry:iw.length≤fk.length) (hJ:o.dI fk) (rz:o.dI iw) (hle:o.num iw≤o.num fk) :
 aq ak 128 #[e6,fz] w (x6 w (o.num fk-o.num iw)):=by
 obtain⟨i0,aV,eo,eP,eL⟩:=oU sr;obtain⟨Kx,Ky,rfl⟩:=hx.form;obtain⟨Q4,Q5,rfl⟩:=aW.form;have b9:=I hx;have hi:=I aW;have sv:=I hJ;have uU:=I rz;have x8:=I hle;clear hx aW hJ rz hle;obtain⟨n,aB⟩:∃n,fk.length=n:=⟨_,rfl⟩;obtain⟨m,hm⟩:∃m,iw.length=m:=⟨_,rfl⟩;rw[aB] at rv b9 ry;rw[hm] at hi ry;rw[aB,hm];have bU:=I aB;have di:=I hm;obtain⟨V,cA⟩:∃V,o.num fk-o.num iw=V:=⟨_,rfl⟩;rw[cA];have cM:=I cA;clear aB hm cA;go_enter func128,ntmps128;go_wp2_with (at_make;refine s8 _ rfl _ _ 83 rfl w.heap.size 96 i0 (.int .u32 0) 1 qd aV eo eP .i64 .i64 _ _ n rfl rfl (by omega) (by omega) (by rw[eL];omega) (by unfold maxLen;omega) (by simp) ?_);intro cq h7 gm;obtain⟨g,eT⟩:∃g,w.heap.size=g:=⟨_,rfl⟩;have cj:=x7 h7;rw[eT] at cj ⊢;have cQ:=I (show ah g w cq from (aK _ _).grown gm (by omega) (fun k aA=>by cases aA));have fF:=I cj;have ly:=I eT;clear h7 gm aV eo eP eL cj eT;go_wp2;go_loopw [6,14] (fun c i wr=>∃(k df:Nat) (zs:List Nat),k≤n∧df≤1∧c=.int .u32 df∧i=.int .i64 k∧fc wr g zs∧zs.length=n∧o.dI zs∧(∀j,k≤j→zs.getD j 0=0)∧aj (o.num zs+o.num (iw.take k)=o.num (fk.take k)+4294967296^k*df)∧ah g w wr) (fun _ i _=>n-(RowKit.intOf i).toNat);case atStart=>exact⟨0,0,List.replicate n 0,il _,by omega,rfl,rfl,fF.out,by simp,o.z8 _,fun j _=>by simp[e5,Nt];split<;>rfl,I (by rw[o.FZ];simp[o.num]),cQ.out⟩
 case round=>
  obtain⟨k,df,zs,aA,mj,rfl,rfl,cj,eH,f',eo,jj,ad⟩:=hrel;have ay:=I ad;have lV:=I eH;have mZ:=I f';have mq:=I eo;have pN:=I cj;by_cases bV:k<n
  ·have hU:k<zs.length:=by rw[eH];omega
   have gz:=cj.cell hU;have lA:=cj.free k;obtain⟨pP,Ab,Ac,fO⟩:=b9.out.at (k:=k) (by rw[bU.out];exact bV);have Ad:wr.cell? ⟨pP,k,J⟩=U (.int .u32 (fk.getD k 0:Nat)):=by
    rw[ay.out.cell (p:=⟨pP,k,J⟩) (by have:=ly.out;show pP<_;omega)];exact fO
   subst Ab;clear cj eH f' eo ad fO Ac;have gH:=o.ia sv.out k;obtain⟨x,hx⟩:∃x,fk.getD k 0=x:=⟨_,rfl⟩;obtain⟨y,aW⟩:∃y,iw.getD k 0=y:=⟨_,rfl⟩;rw[hx] at Ad gH;have o4:y<4294967296:=by rw[←aW];exact o.ia uU.out k
   obtain⟨d,aL⟩:∃d,(x+8589934592-y-df)%4294967296=d:=⟨_,rfl⟩;have hw:=o.Q3 gH o4 mj aL.symm;obtain⟨c',iS⟩:∃c',(if x<y+df then 1 else 0)=c':=⟨_,rfl⟩;rw[iS] at hw;have kk:=I (fun (ar:zs.getD k 0=0)=>o.aip (xs:=fk) (ys:=iw) (zs:=zs) (k:=k) (b:=df) (d:=d) (b':=c') hU ar jj.out (by rw[hx,aW];exact hw));have lW:=I (fun W=>Rc x y df d c' W gH o4 mj aL iS);have hL:d<4294967296:=by omega
   have lX:c'≤1:=by rw[←iS];split<;>omega
   have rA:=pN.out.set k d;have hs:=ay.out.setCell (p:=⟨g,k,J⟩) (aC g) (.int .u32 (d:Nat));have uV:=I rA;have bu:=I hs;have lY:=I hx;have F0:=I aW;have aiv:=I hU;clear rA hs hx aW hU jj aL iS gH hw;by_cases hm:k<m;case' pos=>
    obtain⟨sw,F1,CE,gP⟩:=hi.out.at (k:=k) (by rw[di.out];exact hm);have Q8:wr.cell? ⟨sw,k,J⟩=U (.int .u32 (y:Nat)):=by
     rw[ay.out.cell (p:=⟨sw,k,J⟩) (by have:=ly.out;show sw<_;omega),←F0.out];exact gP
    subst F1;clear gP CE;go_wp2_with fail
   case' neg=>
    have qi:y=0:=by rw[←F0.out,e5,zf (by rw[di.out];omega)];rfl
    subst qi;go_wp2_with fail
   all_goals
    refine (lW.out _).mono ?_;rintro e w' ⟨rfl,rfl⟩;go_wp2;go_roundw;case rel=>
     refine⟨k+1,c',zs.set k d,by omega,lX,rfl,by go_num,uV.out,by rw[mh];exact lV.out,mZ.out.set k hL,fun j bP=>?_,I (kk.out (mq.out k (aC _))),bu.out⟩;rw[e5,NB (by omega),←e5];exact mq.out j (by omega)
    case measure=>simp[RowKit.intOf];omega
  ·obtain rfl:k=n:=by omega
   have kF:o.num zs=V:=by
    have aa:=jj.out;rw[fp (by rw[di.out];exact ry),fp (by rw[bU.out];exact aC _)] at aa;have ae:=o.n9 f';rw[eH] at ae;have aJ:=x8.out;have bQ:=cM.out;rcases (show df=0∨df=1 by omega)with dm | dm
    ·rw[dm,oQ] at aa;omega
    ·rw[dm,fI] at aa;omega
   have eX:=cj.rd (cap:=k) (by rw[eH];exact aC _);rw[eH] at eX;have bc:=I (qv _ _ _ eX (by rw[eH];omega));have et:=I (o.tC f' kF);clear cj ad f' jj eX kF eo bV eH;go_wp2_with fail;refine bc.out.mono ?_;rintro e w' ⟨dv,rfl,aF,rfl⟩;rw[et.out] at aF;have bG:=I aF;obtain⟨a,c,rfl⟩:=aF.form;clear aF;go_wp2;go_ret;exact⟨_,rfl,bG.out,by rw[ly.out];exact ay.out⟩
theorem aiw {a b:Nat} (aS:a<4294967296) (ad:b<4294967296):bits .or .u64 ((a:Int)*4294967296) (b:Int)=((a*4294967296+b:Nat):Int):=by
 have kA:(2:Nat)^IntKind.u64.bits=18446744073709551616:=rfl;have e:(a:Int)*4294967296=((4294967296*a:Nat):Int):=by omega
 rw[e];have gU:4294967296*a ||| b=4294967296*a+b:=by
  have:=oJ (i:=32) (b:=b) ad a;rw[show (2:Nat)^32=4294967296 by decide] at this;exact this.symm
 simp only[bits,oK,vL,ns,kA];rw[eF (show 4294967296*a<18446744073709551616 by omega),eF (show b<18446744073709551616 by omega),gU,pA (by omega),dx]
theorem aix (r x y q ix:Nat) (w:af) (aF:r<y) (hx:x<4294967296) (aW:y<4294967296) (aE:(r*4294967296+x)/y=q) (iW:(r*4294967296+x)%y=ix) :
 aq ak 137 #[.int .u32 r,.int .u32 x,.int .u32 y] w fun e w'=>e=.returned (.tuple #[.int .u32 q,.int .u32 ix])∧ah w.heap.size w w':=by
 obtain⟨z,aX⟩:∃z,r*4294967296+x=z:=⟨_,rfl⟩;have gU:bits .or .u64 ((r:Int)*4294967296) (x:Int)=(z:Int):=by rw[aiw (by omega) hx,aX]
 rw[aX] at aE iW;have qi:((y:Int)==0)=ab:=by rw[cH];omega
 have eH:z<18446744073709551616:=by omega
 have qA:q<4294967296:=by rw[←aE];apply vH;rw[←aX];have:(r+1)*4294967296≤y*4294967296:=fD _ aF;rw[dx] at *;omega
 have m':ix<4294967296:=by rw[←iW];have:=eW z (show 0<y by omega);omega
 have aH:(z:Int)/(y:Int)=(q:Int):=by rw[←aE];simp
 have aT:(z:Int)%(y:Int)=(ix:Int):=by rw[←iW];simp
 have b8:(z:Int).tdiv (y:Int)=(q:Int):=by rw[←aH];exact D' (by omega)
 have eb:(z:Int).tmod (y:Int)=(ix:Int):=by rw[←aT];exact Ea (by omega)
 have hle:au ((y:Int)≤(r:Int))=ab:=bx (by omega);clear aX aE iW;go_enter func137,ntmps137;go_wp2;go_region;go_wp2;go_ret2;exact⟨rfl,(aK _ _).drew⟩
def Rd (w:af) (V y:Nat) (e:Ending) (w':af):Prop:=∃v,e=.returned (.tuple #[v,.int .u32 (V%y:Nat)])∧b2 w' v (o.wd (V/y))∧ah w.heap.size w w'
theorem fc.tD {w w':af} {g B:Nat} {zs:List Nat} (h:fc w g zs) (ad:ah B w w') (aY:g<B):fc w' g zs:=(ad.block g aY).trans h
theorem o.aiy (xs:List Nat) (k:Nat) (h:k<xs.length):o.num (xs.drop k)=xs.getD k 0+4294967296*o.num (xs.drop (k+1)):=by
 rw[xh h,o.num,e5,eE h];rfl
theorem o.aiz {zs:List Nat} {k q:Nat} (h:k<zs.length):(zs.set k q).drop k=q::zs.drop (k+1):=by
 rw[xh (by rw[mh];exact h),V',BF (by omega)]
theorem Xs (e6:aw) (fk:List Nat) (y:Nat) (w:af) (hx:b2 w e6 fk) (rv:fk.length≤3000) (hJ:o.dI fk) (qi:0<y) (aW:y<4294967296) :
 aq ak 77 #[e6,.int .u32 y] w (Rd w (o.num fk) y):=by
 obtain⟨i0,aV,eo,eP,eL⟩:=oU sr;obtain⟨Kx,Ky,rfl⟩:=hx.form;have b9:=I hx;have sv:=I hJ;clear hx hJ;obtain⟨n,aB⟩:∃n,fk.length=n:=⟨_,rfl⟩;rw[aB] at rv b9;rw[aB];have bU:=I aB;clear aB;go_enter func77,ntmps77;go_wp2_with (at_make;refine s8 _ rfl _ _ 83 rfl w.heap.size 96 i0 (.int .u32 0) 1 qd aV eo eP .i64 .i64 _ _ n rfl rfl (by omega) (by omega) (by rw[eL];omega) (by unfold maxLen;omega) (by simp) ?_);intro cq h7 gm;obtain⟨g,eT⟩:∃g,w.heap.size=g:=⟨_,rfl⟩;have cj:=x7 h7;rw[eT] at cj ⊢;have cQ:=I (show ah g w cq from (aK _ _).grown gm (by omega) (fun k aA=>by cases aA));have fF:=I cj;have ly:=I eT;clear h7 gm aV eo eP eL cj eT;go_wp2;go_loopw [7,8] (fun c i wr=>∃(k r:Nat) (zs:List Nat),k≤n∧r<y∧c=.int .u32 r∧i=.int .i64 ((k:Int)-1)∧fc wr g zs∧zs.length=n∧o.dI zs∧aj (o.num (fk.drop k)=o.num (zs.drop k)*y+r)∧ah g w wr) (fun _ i _=>(RowKit.intOf i+1).toNat);case atStart=>exact⟨n,0,List.replicate n 0,aC _,qi,rfl,rfl,fF.out,by simp,o.z8 _,I (by rw[Ee (by rw[bU.out];exact aC _),Ee (by simp)];simp[o.num]),cQ.out⟩
 case round=>
  obtain⟨k,r,zs,aA,aF,rfl,rfl,cj,eH,f',jj,ad⟩:=hrel;have ay:=I ad;have lV:=I eH;have mZ:=I f';have pN:=I cj;cases k with
  | succ k=>
    have hU:k<zs.length:=by rw[eH];omega
    have gz:=cj.cell hU;have lA:=cj.free k;have Re:k<fk.length:=by rw[bU.out];omega
    obtain⟨pP,Ab,Ac,fO⟩:=b9.out.at Re;have Ad:wr.cell? ⟨pP,k,J⟩=U (.int .u32 (fk.getD k 0:Nat)):=by
     rw[ay.out.cell (p:=⟨pP,k,J⟩) (by have:=ly.out;show pP<_;omega)];exact fO
    subst Ab;clear cj eH f' ad fO Ac;have gH:=o.ia sv.out k;have jQ:=I (o.aiy fk k Re);obtain⟨x,hx⟩:∃x,fk.getD k 0=x:=⟨_,rfl⟩;rw[hx] at Ad gH jQ;have pQ:=(o.air (q:=0) (x:=x) jj.out).1;obtain⟨q,aE⟩:∃q,(r*4294967296+x)/y=q:=⟨_,rfl⟩;obtain⟨ix,iW⟩:∃ix,(r*4294967296+x)%y=ix:=⟨_,rfl⟩;rw[aE,iW] at pQ;have qA:q<4294967296:=by
     rw[←aE];apply vH;have:(r+1)*4294967296≤y*4294967296:=fD _ aF;omega
    have m':ix<y:=by rw[←iW];exact eW _ qi
    have kk:aj (o.num (fk.drop k)=o.num ((zs.set k q).drop k)*y+ix):=I (by rw[jQ.out,pQ,o.aiz hU,o.num]);have lW:=I (fun W=>aix r x y q ix W aF gH aW aE iW);have uW:((k+1:Nat):Int)-1=(k:Int):=by omega
    rw[uW];clear pQ aE iW hx Re uW gz lA;go_wp2_with fail;refine (lW.out _).mono ?_;rintro e aP ⟨rfl,bg⟩;have n8:=pN.out.tD bg pN.out.lt;have dP:=ay.out.trans (bg.mono (qf pN.out.lt));have gz:=n8.cell hU;have lA:=n8.free k;have uV:=I (n8.set k q);have bu:=I (dP.setCell (p:=⟨g,k,J⟩) (aC g) (.int .u32 (q:Nat)));clear n8 dP bg;go_wp2;go_roundw;case rel=>exact⟨k,ix,zs.set k q,by omega,m',rfl,by go_num,uV.out,by rw[mh];exact lV.out,mZ.out.set k qA,kk,bu.out⟩
    case measure=>first | (simp[RowKit.intOf];done) | (simp[RowKit.intOf];omega)
  | zero=>
    have aa:=jj.out;rw[xu,xu] at aa;have aE:o.num zs=o.num fk/y:=by
     rw[aa,dx,jv,Nat.add_mul_div_left _ _ qi,nu aF,hc]
    have iK:r=o.num fk%y:=by
     rw[aa,dx,jv,Eb,eF aF]
    have eX:=cj.rd (cap:=n) (by rw[eH];exact aC _);rw[eH] at eX;have bc:=I (qv _ _ _ eX (by rw[eH];omega));have et:=I (o.tC f' aE);have ki:=I iK;clear cj ad f' jj eX aa eH aE iK;go_wp2_with fail;refine bc.out.mono ?_;rintro e w' ⟨dv,rfl,kg,rfl⟩;rw[et.out] at kg;have bG:=I kg;obtain⟨a,c,rfl⟩:=kg.form;clear kg;go_wp2;go_ret2;exact⟨_,by rw[←ki.out];rfl,bG.out,by rw[ly.out];exact ay.out⟩
namespace o
def hV (a b:Nat):Int:=if a<b then -1 else if b<a then 1 else 0
theorem Xu {a b:Nat} (h:a≤b):(wd a).length≤(wd b).length:=by
 rcases eh (wd b).length (wd a).length with aa | aa
 ·have:=Q2 (fa b) (uT a) aa;rw[eA,eA] at this;omega
 ·exact aa
theorem aiA {a b:List Nat} {k:Nat} (aS:k<a.length) (ad:k<b.length) (h:a.drop (k+1)=b.drop (k+1)) (e:a.getD k 0=b.getD k 0):a.drop k=b.drop k:=by
 rw[xh aS,xh ad,h];congr 1;rw[e5,eE aS,e5,eE ad] at e;exact e
end o
theorem F3 (e6 fz:aw) (xs ys:List Nat) (w:af) (hx:b2 w e6 xs) (aW:b2 w fz ys) (rv:xs.length≤3000) (ry:ys.length≤3000) (hJ:o.dI xs) (rz:o.dI ys) :
 aq ak 127 #[e6,fz] w fun e w'=>e=.returned (.int .i64 (o.hV (o.num xs) (o.num ys)))∧ah w.heap.size w w':=by
 obtain⟨cx,ct,rfl⟩:=hx.form;obtain⟨eB,eC,rfl⟩:=aW.form;have mr:=I (qv _ _ w hx (by omega));have Xv:=I (qv _ _ w aW (by omega));have sv:=I (o.tC hJ rfl);have uU:=I (o.tC rz rfl);obtain⟨bo,lB⟩:∃bo,o.num xs=bo:=⟨_,rfl⟩;obtain⟨V,cA⟩:∃V,o.num ys=V:=⟨_,rfl⟩;have F4:(o.wd bo).length≤3000:=by
  rw[←lB,←sv.out];exact cp (Ae _) rv
 have aiB:(o.wd V).length≤3000:=by
  rw[←cA,←uU.out];exact cp (Ae _) ry
 rw[lB,cA];rw[lB] at sv;rw[cA] at uU;clear hx aW lB cA rv ry hJ rz;go_enter func127,ntmps127;go_wp2_with fail;refine mr.out.mono ?_;rintro e w' ⟨v1,rfl,mn,rfl⟩;rw[sv.out] at mn;obtain⟨b1,c1,rfl⟩:=mn.form;have KA:=I mn;clear mn mr;go_wp2_with fail;refine Xv.out.mono ?_;rintro e w' ⟨v2,rfl,iK,rfl⟩;rw[uU.out] at iK;obtain⟨a2,c2,rfl⟩:=iK.form;have ki:=I iK;clear iK Xv;obtain⟨n,aB⟩:∃n,(o.wd bo).length=n:=⟨_,rfl⟩;obtain⟨m,hm⟩:∃m,(o.wd V).length=m:=⟨_,rfl⟩;rw[aB] at F4 KA;rw[hm] at aiB ki;rw[aB,hm];have bU:=I aB;have di:=I hm;rcases zk n m with bV | heq | qB
 ·have cM:=I (show o.hV bo V = -1 by
   have:=o.Q2 (o.fa bo) (o.uT V) (by rw[aB,hm];exact bV);rw[o.eA,o.eA] at this;unfold o.hV;rw[ba this])
  clear aB hm;go_wp2;go_ret;exact⟨by rw[cM.out];rfl,aK _ _⟩
 ·subst heq;clear aB hm;go_wp2;go_loopw [5] (fun i wr=>∃(k:Nat),k≤n∧i=.int .i64 ((k:Int)-1)∧aj ((o.wd bo).drop k=(o.wd V).drop k)∧ah w.heap.size w wr) (fun i _=>(RowKit.intOf i+1).toNat);case atStart=>exact⟨n,aC _,rfl,I (by rw[Ee (by rw[bU.out];exact aC _),Ee (by rw[di.out];exact aC _)]),aK _ _⟩
  case round=>
   obtain⟨k,aA,rfl,heq,ad⟩:=hrel;have ay:=I ad;clear ad;cases k with
   | zero=>
     have cM:=I (show o.hV bo V=0 by
      have aa:=heq.out;rw[xu,xu] at aa;have ae:=eS o.num aa;rw[o.eA,o.eA] at ae;unfold o.hV;rw[ae,aU (Nat.lt_irrefl _),aU (Nat.lt_irrefl _)])
     go_wp2;go_ret;exact⟨by rw[cM.out];rfl,ay.out⟩
   | succ k=>
     have uY:k<(o.wd bo).length:=by rw[bU.out];omega
     have KB:k<(o.wd V).length:=by rw[di.out];omega
     obtain⟨cd,rfl,dD,iN⟩:=KA.out.at uY;obtain⟨cF,rfl,bg,mu⟩:=ki.out.at KB;have gv:wr.cell? ⟨cd,k,J⟩=U (.int .u32 ((o.wd bo).getD k 0:Nat)):=by rw[ay.out.cell (p:=⟨cd,k,J⟩) dD];exact iN
     have gq:wr.cell? ⟨cF,k,J⟩=U (.int .u32 ((o.wd V).getD k 0:Nat)):=by rw[ay.out.cell (p:=⟨cF,k,J⟩) bg];exact mu
     have bF:aj (((o.wd bo).getD k 0<(o.wd V).getD k 0→o.hV bo V = -1)∧((o.wd V).getD k 0<(o.wd bo).getD k 0→o.hV bo V=1)∧((o.wd bo).getD k 0=(o.wd V).getD k 0→(o.wd bo).drop k=(o.wd V).drop k)):=I (by
      refine⟨fun h=>?_,fun h=>?_,fun h=>o.aiA uY KB heq.out h⟩
      ·have:=o.Xl (o.fa bo) (by rw[bU.out,di.out]) uY heq.out h;rw[o.eA,o.eA] at this;unfold o.hV;rw[ba this]
      ·have:=o.Xl (o.fa V) (by rw[bU.out,di.out]) KB heq.out.symm h;rw[o.eA,o.eA] at this;unfold o.hV;rw[aU (by omega),ba this])
     have gu:=o.ia (o.fa bo) k;have gg:=o.ia (o.fa V) k;obtain⟨x,hx⟩:∃x,(o.wd bo).getD k 0=x:=⟨_,rfl⟩;obtain⟨y,aW⟩:∃y,(o.wd V).getD k 0=y:=⟨_,rfl⟩;rw[hx] at gv gu bF;rw[aW] at gq gg bF;have uW:((k+1:Nat):Int)-1=(k:Int):=by omega
     rw[uW];clear hx aW iN mu uY KB uW;rcases zk x y with h | h | h
     ·have cM:=I (bF.out.1 h);go_wp2;go_region;go_wp2;go_ret;exact⟨by rw[cM.out];rfl,ay.out.drew⟩
     ·subst h;have dd:=I (bF.out.2.2 rfl);go_wp2;go_region;go_wp2;go_region;go_wp2;go_roundw;case rel=>exact⟨k,by omega,rfl,dd,ay.out.drew.drew⟩
      case measure=>first | (simp[RowKit.intOf];done) | (simp[RowKit.intOf];omega)
     ·have cM:=I (bF.out.2.1 h);go_wp2;go_region;go_wp2;go_region;go_wp2;go_ret;exact⟨by rw[cM.out];rfl,ay.out.drew.drew⟩
 ·have cM:=I (show o.hV bo V=1 by
   have:=o.Q2 (o.fa V) (o.uT bo) (by rw[aB,hm];exact qB);rw[o.eA,o.eA] at this;unfold o.hV;rw[aU (by omega),ba this])
  clear aB hm;go_wp2;go_ret;exact⟨by rw[cM.out];rfl,aK _ _⟩
def ib (xs:List Nat):List aw:=xs.map fun x=>Value.int .u32 (x:Nat)
theorem F5 (xs:List Nat):(ib xs).length=xs.length:=by simp[ib]
theorem Xw (a b:List Nat):ib (a++b)=ib a++ib b:=by simp[ib]
theorem aiE (xs:List Nat) (k x:Nat):ib (xs.set k x)=(ib xs).set k (.int .u32 (x:Nat)):=by simp[ib,Ps]
theorem aiF {xs:List Nat} {k:Nat} (h:k<xs.length):(ib xs)[k]? = U (.int .u32 (xs.getD k 0:Nat)):=by
 simp[ib,e5,eE h]
def rB (w:af) (base:Nat) (v:aw) (xs:List Nat):Prop:=cB w base 96 1 v xs.length (ib xs)
theorem rB.rd {w:af} {base:Nat} {v:aw} {xs:List Nat} (h:rB w base v xs):b2 w v xs:=by
 rcases h.2 with ⟨aa,ae⟩ | ⟨g,cap,cur,fY,aa,ad,aY,_,tp,_⟩
 ·exact .inl ⟨aa,r7 ae⟩
 ·refine .inr ⟨g,cap,aa,tp,(Array.getElem?_eq_some_iff.1 aY).1,fun j x bP=>?_⟩;have hh:=h.1;subst aa;exact cB.cellAt h (by simp[ib,bP])
theorem aiG (w:af) (base:Nat):rB w base (.slice J 0 0) []:=cB.nil w base 96 1
namespace o
theorem aiH {xs zs:List Nat} {k c b F6:Nat} (aA:k<zs.length) (h:num (zs.take k)+4294967296^k*c=num (xs.take k)*b+F6) :
 num ((zs.set k ((xs.getD k 0*b+c)%4294967296)).take (k+1))+4294967296^(k+1)*((xs.getD k 0*b+c)/4294967296)=num (xs.take (k+1))*b+F6:=by
 rw[mY,mY,ei];have aH:(zs.set k ((xs.getD k 0*b+c)%4294967296)).take k=zs.take k:=by
  rw[NG (by omega)]
 have aT:(zs.set k ((xs.getD k 0*b+c)%4294967296)).getD k 0=(xs.getD k 0*b+c)%4294967296:=by
  rw[e5,Nx aA];rfl
 rw[aH,aT];have ae:=Q1 (4294967296^k) (xs.getD k 0*b+c);rw[fP] at ae;rw[ff];have b8:4294967296^k*xs.getD k 0*b=4294967296^k*(xs.getD k 0*b):=cE _ _ _;rw[b8];omega
theorem F7 {xs:List Nat} (h:n' xs) (ar:xs≠[]):4294967296^(xs.length-1)≤num xs:=by
 rcases h with h | ⟨l,c,rfl,an⟩
 ·exact absurd h ar
 ·rw[x5,ey,pr,nt];have:4294967296^l.length*1≤4294967296^l.length*c:=gp _ (by omega);omega
theorem Xx {xs:List Nat} (hw:dI xs) (h:4294967296^(xs.length-1)≤num xs):n' xs:=by
 by_cases ar:xs=[]
 ·exact .inl ar
 ·obtain⟨l,c,rfl⟩:∃l c,xs=l++[c]:=⟨_,_,(Bv ar).symm⟩;refine .inr ⟨l,c,rfl,fun e=>?_⟩;rw[x5,e,oQ,ey,pr,nt] at h;have:=n9 (xs:=l) (fun x hx=>hw x (by simp[hx]));omega
end o
theorem aiI {ops:Array Oper} {rest:List Oper} {a7:Oper} {a:Act} {Q:Exit→Act→af→Prop} {w:af} (eT:a7.guard=J) (s x:Operand)
 (b6:a7.op=.call { callee:=.builtin .append,args:=#[s,x],argTypes:=#[83,83] }) (base:Nat) (v:aw) (n:Nat) (xs:List aw) (a1:a.eval s=v) (dq:cB w base 96 1 v n xs)
 (news:List aw) (hx:a.eval x=.slice (U ⟨w.heap.size,0,J⟩) news.length news.length) (aa:∀u ∈ news,u.oneCell'=true) (hlen:n+news.length≤1000000) (tn:base≤w.heap.size)
 (h:∀dv w',cB w' base 96 1 dv (n+news.length) (xs++news)→Grow w v w' dv→wpList ak ops Q rest (a.put a7.dst dv) w'):wpList ak ops Q (a7::rest) a (w.alloc (.cells news.toArray 96)):=by
 obtain⟨i0,aV,eo,eP,eL⟩:=oU sr;refine J4 eT s x 83 b6 base 96 i0 (.int .u32 0) 1 4 qd aV eo eP eL rfl v n xs a1 (dq.alloc _) ⟨w.heap.size,0,J⟩ news.length news.length news hx (by simp) ?_ aa (by unfold maxLen;omega) (by omega) (by simp;omega) ?_
 ·intro j u bP;rw[B2,hc,ze];simpa using bP
 ·intro dv w' sn Fw;exact h dv w' sn ((Grow.alloc w v _).trans Fw)
def aiJ (w:af) (base V:Nat) (e:Ending) (w':af):Prop:=∃v zs,e=.returned v∧rB w' base v zs∧o.dI zs∧o.n' zs∧o.num zs=V∧ah base w w'∧zs.length≤2001
theorem aiK (v:aw) (xs:List Nat) (b m base:Nat) (w:af) (b6:rB w base v xs) (ws:o.dI xs) (cr:o.n' xs) (ao:xs.length≤2000) (KC:1≤b) (ad:b≤36) (hm:m<4294967296) (tn:base≤w.heap.size) :
 aq ak 122 #[v,.int .u32 b,.int .u32 m] w (aiJ w base (o.num xs*b+m)):=by
 obtain⟨n,aB⟩:∃n,xs.length=n:=⟨_,rfl⟩;have bF:=I b6;have bU:=I aB;have Xy:=I ws;have iO:=I cr;obtain⟨c7,fj,aD⟩:=b6.form;rw[aB] at aD ao;subst aD;clear b6 aB ws cr;go_enter func122,ntmps122;go_wp2;go_loopw [7,15] (fun c i wr=>∃(k df:Nat) (zs:List Nat),k≤n∧df<4294967296∧c=.int .u64 df∧i=.int .i64 k∧rB wr base (.slice c7 n fj) zs∧zs.length=n∧o.dI zs∧aj (zs.drop k=xs.drop k)∧aj (o.num (zs.take k)+4294967296^k*df=o.num (xs.take k)*b+m)∧ah base w wr∧w.heap.size≤wr.heap.size) (fun _ i _=>n-(RowKit.intOf i).toNat);case atStart=>exact⟨0,m,xs,il _,hm,rfl,rfl,bF.out,bU.out,Xy.out,I rfl,I (by simp[o.num]),aK _ _,aC _⟩
 case round=>
  obtain⟨k,df,zs,aA,mj,rfl,rfl,dq,eH,f',j4,jj,iX,b5⟩:=hrel;have Rh:=I dq;have lV:=I eH;have mZ:=I f';have ay:=I iX;by_cases bV:k<n
  ·have hU:k<zs.length:=by rw[eH];exact bV
   have qB:zs.getD k 0=xs.getD k 0:=by
    have aa:=eS (fun l=>l.getD 0 0) j4.out;simpa[e5] using aa
   obtain⟨g,cap,aD,kD,Xz,CG⟩:=cB.yb dq (by rw[eH];omega);injection aD with v' XA F8;subst v' F8;have gz:wr.cell? ⟨g,k,J⟩=U (.int .u32 (xs.getD k 0:Nat)):=by
    have hh:cB wr base 96 1 (.slice (U ⟨g,0,J⟩) zs.length fj) zs.length (ib zs):=by have:=dq;unfold rB at this;rw[eH] at this ⊢;exact this
    rw[←qB];exact hh.cellAt (aiF hU)
   have lA:wr.frozen? ⟨g,k,J⟩=ab:=by
    have hh:cB wr base 96 1 (.slice (U ⟨g,0,J⟩) zs.length fj) zs.length (ib zs):=by have:=dq;unfold rB at this;rw[eH] at this ⊢;exact this
    exact hh.free (by omega)
   have gH:=o.ia Xy.out k;have kk:=I (o.aiH (b:=b) (c:=df) hU jj.out);obtain⟨x,hx⟩:∃x,xs.getD k 0=x:=⟨_,rfl⟩;rw[hx] at gz gH kk;have zK:x*b≤4294967295*36:=kz (by omega) ad;obtain⟨s,a1⟩:∃s,x*b+df=s:=⟨_,rfl⟩;have aiL:(x:Int)*(b:Int)+(df:Int)=(s:Int):=by rw[←a1];simp
   have awN:(0:Int)≤(x:Int)*(b:Int)∧(x:Int)*(b:Int)≤154618822620:=by
    have:(x:Int)*(b:Int)=((x*b:Nat):Int):=by simp
    rw[this];omega
   rw[a1] at kk;have o':s<200000000000:=by omega
   obtain⟨d,aL⟩:∃d,s%4294967296=d:=⟨_,rfl⟩;obtain⟨c',iS⟩:∃c',s/4294967296=c':=⟨_,rfl⟩;rw[aL,iS] at kk;have aiM:(s:Int)%4294967296=(d:Int):=by omega
   have KD:(s:Int)/4294967296=(c':Int):=by omega
   have hL:d<4294967296:=by omega
   have lX:c'<4294967296:=by omega
   have mX:aj (rB (wr.setCell ⟨g,k,J⟩ (.int .u32 (d:Nat))) base (.slice (U ⟨g,0,J⟩) n fj) (zs.set k d)):=I (by
    have hh:=dq;unfold rB at hh ⊢;rw[mh,aiE];rw[eH] at hh ⊢;exact hh.stored _)
   have bu:=I (iX.setCell (p:=⟨g,k,J⟩) kD (.int .u32 (d:Nat)));have Ag:aj ((zs.set k d).drop (k+1)=xs.drop (k+1)):=I (by
    rw[BF (by omega)];have aa:=eS (List.drop 1) j4.out;rwa[sf,sf] at aa)
   clear dq eH f' iX aL iS hx qB hU zK;go_wp2;go_roundw;case rel=>exact⟨k+1,c',zs.set k d,by omega,lX,rfl,by go_num,mX.out,by rw[mh];exact lV.out,mZ.out.set k hL,Ag,kk,bu.out,by simp[World.setCell];exact b5⟩
   case measure=>simp[RowKit.intOf];omega
  ·obtain rfl:k=n:=by omega
   have aa:=jj.out;rw[fp (by rw[eH];exact aC _),fp (by rw[bU.out];exact aC _)] at aa;by_cases an:df=0
   ·subst an;rw[oQ,jd] at aa;have bc:aj (o.n' zs):=I (by
     by_cases ar:zs=[]
     ·exact .inl ar
     ·have j1:xs≠[]:=by
       intro e;have:=bU.out;rw[e] at this;exact ar (r7 (by rw[eH,←this];rfl))
      have ae:=o.F7 iO.out j1;refine o.Xx f' ?_;rw[eH,aa,←bU.out];have:o.num xs*1≤o.num xs*b:=gp _ KC;omega)
    have cM:=I aa;clear aa dq f' iX eH;go_wp2;go_ret;exact⟨_,zs,rfl,Rh.out,mZ.out,bc.out,cM.out,ay.out,by rw[lV.out];omega⟩
   ·have bT:au ((0:Int)<(df:Int))=true:=bE (by omega);have XB:(df:Int)%4294967296=(df:Int):=by omega
    have mQ:base≤wr.heap.size:=by omega
    have cM:aj (o.num (zs++[df])=o.num xs*b+m):=I (by rw[o.x5,eH];exact aa);have jC:aj (cB wr base 96 1 (.slice c7 k fj) k (ib zs)):=I (by have:=dq;unfold rB at this;rw[eH] at this;exact this);have F9:=I dq.lt;clear aa dq f' iX eH;go_wp2_with (at_builtin;refine aiI rfl (.tmp 37) (.tmp 40) rfl base _ _ _ rfl jC.out [.int .u32 (df:Nat)] rfl (by intro u hu;simp at hu;subst hu;rfl) (by simp only[ch,du];omega) mQ ?_);intro v2 aP iJ gJ;have sq:=I iJ;have bL:=I (gJ.below ay.out mQ (fun j bP=>(F9.out j bP).1));obtain⟨a2,c2,rfl⟩:=iJ.form;clear iJ gJ;go_wp2;go_ret;refine⟨_,zs++[df],rfl,?_,?_,.inr ⟨zs,df,rfl,an⟩,cM.out,bL.out,by rw[ey,lV.out,pr];omega⟩
    ·have:=sq.out;unfold rB;rw[ey,lV.out,Xw];exact this
    ·intro x hx;rcases List.mem_append.1 hx with hx | hx
     ·exact mZ.out x hx
     ·rw[List.mem_singleton.1 hx];exact mj
namespace o
def Canon (l:List UInt8):Prop:=l.getLast?≠U 0
theorem KE:∀(a b:List UInt8),le (a++b)=le a+256^a.length*le b
 | [],b=>by simp[le]
 | x::a,b=>by rw[rf,le,KE a b,le,ch,ei,fP,←cE,dx 256 (256^a.length)];omega
theorem XC (l:List UInt8):le (strip l)=le l:=by
 have key:∀l:List UInt8,le (l.dropWhile (· == 0)).reverse=le l.reverse:=by
  intro l;induction l with
  | nil=>rfl
  | cons a l dw=>
    by_cases h:a=0
    ·subst h;simp[dw,KE,le]
    ·simp[h]
 have:=key l.reverse;rw[IP] at this;exact this
theorem XD (l:List UInt8):Canon (strip l):=by
 have key:∀l:List UInt8,Canon (l.dropWhile (· == 0)).reverse:=by
  intro l;induction l with
  | nil=>simp[Canon]
  | cons a l dw=>
    by_cases h:a=0
    ·subst h;simpa using dw
    ·simp[h,Canon]
 exact key l.reverse
theorem aiN {x:Nat} (h:x<4294967296):le (four x)=x:=by
 simp[four,le];omega
theorem XE:∀xs:List Nat,(∀x ∈ xs,x<4294967296)→le (flat xs)=num xs
 | [],_=>rfl
 | x::xs,h=>by
   have e:flat (x::xs)=four x++flat xs:=by simp[flat]
   rw[e,KE,aiN (h x (by simp)),XE xs (fun y aW=>h y (by simp[aW])),num];simp[four]
theorem Ri {xs:List Nat} (h:∀x ∈ xs,x<4294967296):le (bytesOf xs)=num xs:=by
 unfold bytesOf;rw[XC,XE _ (fun x hx=>h x (x9 hx)),Ct]
theorem Rj (xs:List Nat):Canon (bytesOf xs):=XD _
theorem wq {l:List UInt8} (h:Canon l) (ar:l≠[]):256^(l.length-1)≤le l:=by
 have e:=Bv ar;have ao:l.getLast ar≠0:=fun ae=>h (by rw[List.getLast?_eq_some_getLast ar,ae]);rw[←e,CC,ey,pr,nt];have aa:1≤(l.getLast ar).toNat:=by
  rcases kd (l.getLast ar).toNat with aJ | aJ
  ·exact (ao (UInt8.toNat_inj.1 aJ)).elim
  ·exact aJ
 exact cp (Nu _ aa) (Nat.le_add_left _ _)
theorem XF {a:UInt8} {l:List UInt8} (h:Canon (a::l)):Canon l:=by
 unfold Canon at h ⊢;cases l with
 | nil=>simp
 | cons b l=>rwa[List.getLast?_cons_cons] at h
theorem CH:∀{l m:List UInt8},Canon l→Canon m→le l=le m→l=m
 | [],[],_,_,_=>rfl
 | [],b::m,_,ae,h=>by
   have:=wq ae (by simp);have aJ:0<256^((b::m).length-1):=dK (by decide);rw[←h,le] at this;omega
 | a::l,[],aa,_,h=>by
   have:=wq aa (by simp);have aJ:0<256^((a::l).length-1):=dK (by decide);rw[h,le] at this;omega
 | a::l,b::m,aa,ae,h=>by
   rw[le,le] at h;have aS:=a.toNat_lt;have ad:=b.toNat_lt;have aH:a.toNat=b.toNat:=by omega
   have aT:le l=le m:=by omega
   rw[UInt8.toNat_inj.1 aH,CH (XF aa) (XF ae) aT]
theorem aiO {l:List UInt8} {n:Nat} (h:Canon l) (aD:le l<256^n):l.length≤n:=by
 by_cases ar:l=[]
 ·subst ar;simp
 ·have aa:=wq h ar;have ae:256^(l.length-1)<256^n:=gQ aa aD;have:=(BA (by decide:1<256)).1 ae;omega
def bs (V:Nat):List UInt8:=bytesOf (ec (V.log2/32+1) V)
theorem aiP (V:Nat):V<4294967296^(V.log2/32+1):=by
 have e:(4294967296:Nat)^(V.log2/32+1)=2^(32*(V.log2/32+1)):=by rw[mi]
 rw[e];exact cv oM (dB (by decide) (by omega))
theorem lC (V:Nat):le (bs V)=V:=by
 unfold bs;rw[Ri (fun x hx=>z7 hx),FX _ _ (aiP V)]
theorem sx (V:Nat):Canon (bs V):=Rj _
theorem CI {xs:List Nat} (h:∀x ∈ xs,x<4294967296):bytesOf xs=bs (num xs):=CH (Rj _) (sx _) (by rw[Ri h,lC])
theorem aiQ:bs 0=[]:=by
 have h:=lC 0;by_cases ar:bs 0=[]
 ·exact ar
 ·have aa:=wq (sx 0) ar;have:0<256^((bs 0).length-1):=dK (by decide);omega
theorem sy (V:Nat):(bs V).isEmpty=au (V=0):=by
 by_cases h:V=0
 ·subst h;rw[aiQ];rfl
 ·rw[bx h];have aa:=lC V;cases aL:bs V with
  | nil=>rw[aL,le] at aa;omega
  | cons a l=>rfl
theorem oa {V n:Nat} (h:V<256^n):(bs V).length≤n:=aiO (sx V) (by rw[lC];exact h)
theorem KF (l:List UInt8):∀n,l.length≤4*n→num (words n l)=le l:=by
 have key:∀n,∀l:List UInt8,l.length≤4*n→num (words n l)=le l:=by
  intro n;induction n with
  | zero=>
   intro l h;have:l=[]:=List.length_eq_zero_iff.1 (by omega);subst this;rfl
  | succ n dw=>
    intro l h;have e:words (n+1) l=word l 0::words n (l.drop 4):=by
     unfold words;rw[V5,tb,BR];congr 1;apply zh;intro j _;simp only[Function.comp,word,sf];rw[show 4+4*j=4*(j.succ) by omega]
    rw[e,num,dw _ (by rw[zo];omega)];conv=>rhs;rw[←xi 4 l]
    rw[KE];unfold word;simp only[oQ,xu];by_cases bQ:4≤l.length
    ·rw[gN,h2 bQ]
    ·rw[zd (by omega)];simp[le]
 exact fun n=>key n l
theorem CJ (V k:Nat):bytesOf (shl (bs V) k)=bs (V*2^k):=by
 have aB:=KF (bs V) (((bs V).length+3)/4) (by omega);rw[lC] at aB;refine CH (Rj _) (sx _) ?_;unfold shl;rw[Ri (fun x hx=>z7 (x9 hx)),lC,Ct,aB,FX];have aa:=ru (bs V);rw[lC] at aa;generalize (bs V).length=L at *;have aH:(256:Nat)^L=2^(8*L):=by rw[mi]
 have aT:(4294967296:Nat)^(k/32+(L+3)/4+1)=2^(32*(k/32+(L+3)/4+1)):=by rw[mi]
 rw[aH] at aa;rw[aT];have ae:V*2^k<2^(8*L)*2^k:=jG aa (dK (by decide));rw[←cm] at ae;exact cv ae (dB (by decide) (by omega))
theorem Ah {neg:Bool} {V:Nat} (h:V<256^4096) (aB:neg=true→V≠0):uO neg (bs V)=0:=by
 have ao:=oa h;unfold uO;rw[aU (by omega)];by_cases ar:(bs V).length=0
 ·rw[ba ar];have aa:bs V=[]:=List.length_eq_zero_iff.1 ar;have ae:=lC V;rw[aa,le] at ae;cases neg
  ·rfl
  ·exact (aB rfl ae.symm).elim
 ·rw[aU ar,aU];intro aa;exact sx V (by rw[VV];exact aa)
end o
def bz (t:Int):aw:=cO (au (t<0)) (o.bs t.natAbs)
theorem KG {n:Int} (aa:-9223372036854775808≤n) (ae:n≤9223372036854775807):FP n=bz n:=by
 obtain⟨V,cA⟩:∃V,n.natAbs=V:=⟨_,rfl⟩;have e:o.bytesOf [V%4294967296,V/4294967296]=o.bs V:=by
  rw[o.CI (by intro x hx;simp at hx;omega)];congr 1;simp only[o.num];omega
 unfold FP bz;rw[cA,e,o.sy];congr 1;by_cases aB:n<0
 ·rw[bE aB,bx (by omega)];rfl
 ·rw[bx aB];rfl
theorem ob {W bW:af} {C:Nat} {g:Bool} {S:ByteArray} (h:W.heap[C]? = U (.cells #[.bool g,.string S] 46)) (ad:ah W.heap.size W bW):bW.heap[C]? = U (.cells #[.bool g,.string S] 46):=by
 rw[ad.block _ (Array.getElem?_eq_some_iff.1 h).1];exact h
theorem wu {W:af} {C:Nat} {g:Bool} {S:ByteArray} (h:W.heap[C]? = U (.cells #[.bool g,.string S] 46)):W.cell? ⟨C,0,J⟩=U (.bool g)∧W.cell? ⟨C,1,J⟩=U (.string S)∧C<W.heap.size:=
 ⟨by simp[World.cell?,h],by simp[World.cell?,h],(Array.getElem?_eq_some_iff.1 h).1⟩
def aI (W:af) (k:Nat) (T:TypeId) (a b:aw):Prop:=W.heap[k]? = U (.cells #[a,b] T)
theorem aI.new (w:af) (T:TypeId) (a b:aw):aI (w.alloc (.cells #[a,b] T)) w.heap.size T a b:=fX _ _
theorem aI.lt {W:af} {k:Nat} {T:TypeId} {a b:aw} (h:aI W k T a b):k<W.heap.size:=(Array.getElem?_eq_some_iff.1 h).1
theorem aI.below {W bW:af} {k:Nat} {T:TypeId} {a b:aw} (h:aI W k T a b) (ad:ah W.heap.size W bW):aI bW k T a b:=by
 unfold aI;rw[ad.block _ h.lt];exact h
theorem aI.under {W bW:af} {k B:Nat} {T:TypeId} {a b:aw} (h:aI W k T a b) (ad:ah B W bW) (aA:k<B):aI bW k T a b:=by
 unfold aI;rw[ad.block _ aA];exact h
theorem aI.alloc {W:af} {k:Nat} {T:TypeId} {a b:aw} (h:aI W k T a b) (a7:Obj):aI (W.alloc a7) k T a b:=h.below ((aK _ _).alloc (aC _) _)
theorem aI.drew {W:af} {k:Nat} {T:TypeId} {a b:aw} (h:aI W k T a b):aI W.drew k T a b:=h
theorem aI.cells {W:af} {k:Nat} {T:TypeId} {a b:aw} (h:aI W k T a b):W.cell? ⟨k,0,J⟩=U a∧W.cell? ⟨k,1,J⟩=U b∧W.frozen? ⟨k,0,J⟩=ab∧W.frozen? ⟨k,1,J⟩=ab:=by
 unfold aI at h;refine⟨?_,?_,?_,?_⟩
 ·simp[World.cell?,h]
 ·simp[World.cell?,h]
 ·simp[World.frozen?,h]
 ·simp[World.frozen?,h]
theorem aI.set {W:af} {k:Nat} {T:TypeId} {a b:aw} (h:aI W k T a b) (x y:aw):aI ((W.setCell ⟨k,0,J⟩ x).setCell ⟨k,1,J⟩ y) k T x y:=by
 unfold aI at *;simp only[World.setCell,lp,ba,h];rfl
theorem aI.XG {W:af} {k:Nat} {T:TypeId} {a b:aw} (h:aI W k T a b) (x:aw):aI (W.setCell ⟨k,0,J⟩ x) k T x b:=by
 unfold aI at *;simp only[World.setCell,lp,ba,h];rfl
theorem aI.KH {W:af} {k:Nat} {T:TypeId} {a b:aw} (h:aI W k T a b) (x:aw):aI (W.setCell ⟨k,1,J⟩ x) k T a x:=by
 unfold aI at *;simp only[World.setCell,lp,ba,h];rfl
theorem aI.other {W:af} {k j i:Nat} {T:TypeId} {a b x:aw} (h:aI W k T a b) (dT:j≠k):aI (W.setCell ⟨j,i,J⟩ x) k T a b:=by
 unfold aI at *;simp only[World.setCell,lp,aU dT];exact h
theorem aI.both {W:af} {k j:Nat} {T:TypeId} {a b x y:aw} (h:aI W k T a b) (dT:j≠k):aI ((W.setCell ⟨j,0,J⟩ x).setCell ⟨j,1,J⟩ y) k T a b:=(h.other dT).other dT
theorem fG {w W:af} {k B:Nat} (ad:ah B w W) (aA:B≤k) (x y:aw):ah B w ((W.setCell ⟨k,0,J⟩ x).setCell ⟨k,1,J⟩ y):=
 (ad.setCell (p:=⟨k,0,J⟩) aA _).setCell (p:=⟨k,1,J⟩) aA _
theorem b2.clear {W:af} {k i:Nat} {T:TypeId} {a b x v:aw} {xs:List Nat} (h:b2 W v xs) (aA:aI W k T a b) (aS:∀n,a≠.int .u32 n):b2 (W.setCell ⟨k,i,J⟩ x) v xs:=by
 rcases h with h | ⟨g,cap,aa,ae,aJ,bQ⟩
 ·exact .inl h
 ·refine .inr ⟨g,cap,aa,ae,by simpa[World.setCell] using aJ,fun j y bP=>?_⟩;have dT:(⟨k,i,J⟩:Addr)≠⟨g,j,J⟩:=by
   intro e;injection e with aH _;subst aH;have ar:0<xs.length:=by have:=(List.getElem?_eq_some_iff.1 bP).1;omega
   have:=bQ 0 _ (eE ar);rw[aA.cells.1] at this;injection this with this;exact aS _ this
  rw[b7 _ _ _ _ dT];exact bQ j y bP
theorem b2.Ai {W:af} {k:Nat} {T:TypeId} {a b x y v:aw} {xs:List Nat} (h:b2 W v xs) (aA:aI W k T a b) (aS:∀n,a≠.int .u32 n) (hx:∀n,x≠.int .u32 n):b2 ((W.setCell ⟨k,0,J⟩ x).setCell ⟨k,1,J⟩ y) v xs:=
 (h.clear aA aS).clear (aA.XG x) hx
def cy (neg:Bool) (V:Nat):Int:=if neg then -(V:Int) else V
theorem Aj (n:Int):cy (au (n<0)) n.natAbs=n:=by
 unfold cy;by_cases h:n<0
 ·rw[bE h,ba rfl];omega
 ·rw[bx h];simp;omega
def F' (w:af) (n:Int) (e:Ending) (w':af):Prop:=∃v neg V,e=.returned (.agg #[v,.bool neg])∧b2 w' v (o.wd V)∧cy neg V=n∧ah w.heap.size w w'
theorem chain {w cq aP:af} {B:Nat} (aa:ah B w cq) (ae:ah cq.heap.size cq aP) (az:B≤cq.heap.size):ah B w aP:=aa.trans (ae.mono az)
theorem KJ (e6 fz:aw) (bp bt:Bool) (a b:Nat) (w:af) (hx:b2 w e6 (o.wd a)) (aW:b2 w fz (o.wd b)) (yc:(o.wd a).length≤2500) (rD:(o.wd b).length≤2500) :
 aq ak 58 #[.agg #[e6,.bool bp],.agg #[fz,.bool bt]] w (F' w (cy bp a+cy bt b)):=by
 have aiW:aj (∀W,ah w.heap.size w W→aq ak 76 #[e6,fz] W (x6 W (a+b))):=I (fun W ad=>by
  have:=Xo e6 fz _ _ W (hx.below ad) (aW.below ad) (by omega) (by omega) (o.fa a) (o.fa b);rwa[o.eA,o.eA] at this)
 have Rl:aj (∀W,ah w.heap.size w W→aq ak 127 #[e6,fz] W (fun e w'=>e=.returned (.int .i64 (o.hV a b))∧ah W.heap.size W w')):=I (fun W ad=>by
  have:=F3 e6 fz _ _ W (hx.below ad) (aW.below ad) (by omega) (by omega) (o.fa a) (o.fa b);rwa[o.eA,o.eA] at this)
 have aiX:aj (∀W,ah w.heap.size w W→b≤a→aq ak 128 #[e6,fz] W (x6 W (a-b))):=I (fun W ad h=>by
  have:=Xr e6 fz _ _ W (hx.below ad) (aW.below ad) (by omega) (o.Xu h) (o.fa a) (o.fa b) (by rw[o.eA,o.eA];exact h);rwa[o.eA,o.eA] at this)
 have aiY:aj (∀W,ah w.heap.size w W→a≤b→aq ak 128 #[fz,e6] W (x6 W (b-a))):=I (fun W ad h=>by
  have:=Xr fz e6 _ _ W (aW.below ad) (hx.below ad) (by omega) (o.Xu h) (o.fa b) (o.fa a) (by rw[o.eA,o.eA];exact h);rwa[o.eA,o.eA] at this)
 obtain⟨cx,ct,rfl⟩:=hx.form;obtain⟨eB,eC,rfl⟩:=aW.form;generalize (o.wd a).length=n at *;generalize (o.wd b).length=m at *;clear hx aW yc rD;obtain⟨aZ,bl⟩:∃aZ,((w.alloc (.cells #[.slice cx n ct,.bool bp] 85)).alloc (.cells #[.slice eB m eC,.bool bt] 85)).alloc (.cells #[.slice J 0 0,.bool ab] 85)=aZ:=⟨_,rfl⟩;have cY:aj (aI aZ w.heap.size 85 (.slice cx n ct) (.bool bp)):=I (by rw[←bl];exact ((aI.new _ _ _ _).alloc _).alloc _);have dt:aj (aI aZ (w.heap.size+1) 85 (.slice eB m eC) (.bool bt)):=I (by
  rw[←bl];have:=(aI.new (w.alloc (.cells #[.slice cx n ct,.bool bp] 85)) 85 (.slice eB m eC) (.bool bt)).alloc (.cells #[.slice J 0 0,.bool ab] 85);simpa using this)
 have kY:aj (aI aZ (w.heap.size+2) 85 (.slice J 0 0) (.bool ab)):=I (by
  rw[←bl];have:=aI.new ((w.alloc (.cells #[.slice cx n ct,.bool bp] 85)).alloc (.cells #[.slice eB m eC,.bool bt] 85)) 85 (.slice J 0 0) (.bool ab);simpa using this)
 have bu:aj (ah w.heap.size w aZ):=I (by rw[←bl];exact (((aK _ _).alloc (aC _) _).alloc (by simp) _).alloc (by simp;omega) _);have dL:w.heap.size+3≤aZ.heap.size:=by rw[←bl];simp
 have aiZ:=I bl;obtain⟨cn,bY,fA,gW⟩:=cY.out.cells;obtain⟨b0,bD,cX,dU⟩:=dt.out.cells;by_cases a1:bp=bt
 ·subst a1;go_enter func58,ntmps58;go_wp2;go_region_held3 (fun W=>W.cell? ⟨w.heap.size,0,J⟩=U (.slice cx n ct)∧W.cell? ⟨w.heap.size,1,J⟩=U (.bool bp)∧W.cell? ⟨w.heap.size+1,0,J⟩=U (.slice eB m eC)) (first | exact⟨cn,bY,b0⟩ | exact⟨CK,CL,CM⟩ | exact⟨(nc.both (by omega)).cells.1,(nc.both (by omega)).cells.2.1,(od.both (by omega)).cells.1⟩ | (refine⟨?_,?_,?_⟩<;>assumption)) ((go_at_call 76;refine (aiW.out _ (by exact bu.out.drew)).mono ?_;rintro e aQ ⟨v4,rfl,nb,e0⟩;have bb:ah aZ.heap.size aZ aQ:=(aK _ aZ).drew.trans e0;clear e0;have j2:ah w.heap.size w aQ:=chain bu.out bb (by omega);obtain⟨qC,qD,rfl⟩:=nb.form;have nc:=cY.out.below bb;have od:=dt.out.below bb;have lD:=kY.out.below bb;obtain⟨CK,CL,_,_⟩:=nc.cells;obtain⟨CM,Rm,_,_⟩:=od.cells;obtain⟨cl,bH,f0,f1⟩:=lD.cells));all_goals
   have ht:=lD.set (.slice qC (o.wd (a+b)).length qD) (.bool bp);have jh:=I (nb.Ai (x:=.slice qC (o.wd (a+b)).length qD) (y:=.bool bp) lD (by simp) (by simp));have hW:=I (fG j2 (show w.heap.size≤w.heap.size+2 by omega) (.slice qC (o.wd (a+b)).length qD) (.bool bp));obtain⟨aM,aG,_,_⟩:=ht.cells;clear ht;go_wp2;refine bI (v:=.agg #[.slice qC (o.wd (a+b)).length qD,.bool bp]) (by simp[results,OF,go_sem,aM,aG]) rfl ⟨_,bp,a+b,rfl,jh.out,by unfold cy;split<;>omega,hW.out⟩
 ·have dT:(bp==bt)=ab:=by rw[cH];exact a1
  go_enter func58,ntmps58;go_wp2_with fail;refine (Rl.out _ (by exact bu.out)).mono ?_;rintro e cf ⟨rfl,bf⟩;have eN:=I (chain bu.out bf (by omega));have pa:w.heap.size+3≤cf.heap.size:=cp dL bf.size;have nc:=I (cY.out.below bf);have od:=I (dt.out.below bf);have lD:=I (kY.out.below bf);clear cn bY fA gW b0 bD cX dU bf bl aiZ bu cY dt kY dL;obtain⟨cn,bY,fA,gW⟩:=nc.out.cells;obtain⟨b0,bD,cX,dU⟩:=od.out.cells;rcases eh a b with bV | fR
  ·have b6:o.hV a b = -1:=by unfold o.hV;rw[ba bV]
   have sp:aj (cy bt (b-a)=cy bp a+cy bt b):=I (by
    unfold cy;cases bp<;>cases bt<;>simp at a1 ⊢ <;> omega)
   rw[b6];obtain⟨cw,Ak⟩:∃cw,(((cf.setCell ⟨w.heap.size,0,J⟩ (.slice eB m eC)).setCell ⟨w.heap.size,1,J⟩ (.bool bt)).setCell ⟨w.heap.size+1,0,J⟩ (.slice cx n ct)).setCell ⟨w.heap.size+1,1,J⟩ (.bool bp)=cw:=⟨_,rfl⟩;have yd:aj (aI cw w.heap.size 85 (.slice eB m eC) (.bool bt)):=I (by rw[←Ak];exact (nc.out.set _ _).both (by omega));have uZ:aj (aI cw (w.heap.size+1) 85 (.slice cx n ct) (.bool bp)):=I (by rw[←Ak];exact (od.out.both (by omega)).set _ _);have ai0:aj (aI cw (w.heap.size+2) 85 (.slice J 0 0) (.bool ab)):=I (by rw[←Ak];exact (lD.out.both (by omega)).both (by omega));have gA:aj (ah w.heap.size w cw):=I (by rw[←Ak];exact fG (fG eN.out (aC _) _ _) (by omega) _ _);have rE:w.heap.size+3≤cw.heap.size:=by rw[←Ak];simpa[World.setCell] using pa
   go_wp2_with fail;try rw[Ak]
   clear cn bY fA gW b0 bD cX dU Ak;obtain⟨cn,bY,fA,gW⟩:=yd.out.cells;obtain⟨b0,bD,cX,dU⟩:=uZ.out.cells;clear pa eN nc od lD;go_region_held3 (fun W=>W.cell? ⟨w.heap.size,0,J⟩=U (.slice eB m eC)∧W.cell? ⟨w.heap.size,1,J⟩=U (.bool bt)∧W.cell? ⟨w.heap.size+1,0,J⟩=U (.slice cx n ct)) (first | exact⟨cn,bY,b0⟩ | exact⟨CK,CL,CM⟩ | exact⟨(nc.both (by omega)).cells.1,(nc.both (by omega)).cells.2.1,(od.both (by omega)).cells.1⟩ | (refine⟨?_,?_,?_⟩<;>assumption)) ((go_at_call 128;refine (aiY.out _ (by exact gA.out.drew) (qf bV)).mono ?_;rintro e aQ ⟨v4,rfl,nb,e0⟩;have bb:ah cw.heap.size cw aQ:=(aK _ cw).drew.trans e0;clear e0;have j2:ah w.heap.size w aQ:=chain gA.out bb (by omega);obtain⟨qC,qD,rfl⟩:=nb.form;have nc:=yd.out.below bb;have od:=uZ.out.below bb;have lD:=ai0.out.below bb;obtain⟨CK,CL,_,_⟩:=nc.cells;obtain⟨CM,Rm,_,_⟩:=od.cells;obtain⟨cl,bH,f0,f1⟩:=lD.cells));all_goals
    have ht:=lD.set (.slice qC (o.wd (b-a)).length qD) (.bool bt);have jh:=I (nb.Ai (x:=.slice qC (o.wd (b-a)).length qD) (y:=.bool bt) lD (by simp) (by simp));have hW:=I (fG j2 (show w.heap.size≤w.heap.size+2 by omega) (.slice qC (o.wd (b-a)).length qD) (.bool bt));obtain⟨aM,aG,_,_⟩:=ht.cells;clear ht;go_wp2;refine bI (v:=.agg #[.slice qC (o.wd (b-a)).length qD,.bool bt]) (by simp[results,OF,go_sem,aM,aG]) rfl ⟨_,bt,b-a,rfl,jh.out,sp.out,hW.out⟩
  ·have b6:¬ o.hV a b<0:=by unfold o.hV;rw[aU (by omega)];split<;>omega
   have sp:aj (cy bp (a-b)=cy bp a+cy bt b):=I (by
    unfold cy;cases bp<;>cases bt<;>simp at a1 ⊢ <;> omega)
   have awO:au (o.hV a b<0)=ab:=bx b6;have dc:=eN;have ai1:=lD;go_wp2;go_region_held3 (fun W=>W.cell? ⟨w.heap.size,0,J⟩=U (.slice cx n ct)∧W.cell? ⟨w.heap.size,1,J⟩=U (.bool bp)∧W.cell? ⟨w.heap.size+1,0,J⟩=U (.slice eB m eC)) (first | exact⟨cn,bY,b0⟩ | exact⟨CK,CL,CM⟩ | exact⟨(nc.both (by omega)).cells.1,(nc.both (by omega)).cells.2.1,(od.both (by omega)).cells.1⟩ | (refine⟨?_,?_,?_⟩<;>assumption)) ((go_at_call 128;refine (aiX.out _ (by exact dc.out.drew) fR).mono ?_;rintro e aQ ⟨v4,rfl,nb,e0⟩;have bb:ah cf.heap.size cf aQ:=(aK _ cf).drew.trans e0;clear e0;have j2:ah w.heap.size w aQ:=chain dc.out bb (by omega);obtain⟨qC,qD,rfl⟩:=nb.form;have nc:=nc.out.below bb;have od:=od.out.below bb;have lD:=ai1.out.below bb;obtain⟨CK,CL,_,_⟩:=nc.cells;obtain⟨CM,Rm,_,_⟩:=od.cells;obtain⟨cl,bH,f0,f1⟩:=lD.cells));all_goals
    have ht:=lD.set (.slice qC (o.wd (a-b)).length qD) (.bool bp);have jh:=I (nb.Ai (x:=.slice qC (o.wd (a-b)).length qD) (y:=.bool bp) lD (by simp) (by simp));have hW:=I (fG j2 (show w.heap.size≤w.heap.size+2 by omega) (.slice qC (o.wd (a-b)).length qD) (.bool bp));obtain⟨aM,aG,_,_⟩:=ht.cells;clear ht;go_wp2;refine bI (v:=.agg #[.slice qC (o.wd (a-b)).length qD,.bool bp]) (by simp[results,OF,go_sem,aM,aG]) rfl ⟨_,bp,a-b,rfl,jh.out,sp.out,hW.out⟩
theorem apX (a b:Bool) (s t:ByteArray) (w:af):(binOp .eql 46 (.agg #[.bool a,.string s]) (.agg #[.bool b,.string t])).run ak w=.ok (.bool (a==b&&s.toList==t.toList)) w:=by
 have dV:=nV;have b1:=pz;have n5:=px;have dS:=jH;have a2:=oT;have z2:=oP;have cP:prog.underlying 46=U (.struct (prog.fieldsOf 46)):=by kernel_rfl
 have hp:prog.stoodInHeld 46=ab:=by kernel_rfl
 rw[run_eql_struct,show (10000:Nat)=9999+1 from rfl,run_equalIn_agg w 9999 46 _ _ cP hp];simp only[Program.fieldsOf,underlying46];go_simp;by_cases aa:a=b<;>by_cases ae:s.toList=t.toList<;>simp[aa,ae]
theorem apY (a b:Bool) (s t:ByteArray) (w:af):(binOp .neq 46 (.agg #[.bool a,.string s]) (.agg #[.bool b,.string t])).run ak w=.ok (.bool (!(a==b&&s.toList==t.toList))) w:=by
 have h:=apX a b s t w;rw[run_eql_struct] at h;rw[run_neq_struct];generalize (Op.equalIn 10000 46 (.agg #[.bool a,.string s]) (.agg #[.bool b,.string t])).run ak w=r at h ⊢;cases r with
 | ok x w'=>simp only[NY,Result.ok.injEq,Value.bool.injEq] at h ⊢;rw[h.1,h.2];simp
 | _=>simp[Result.andThen] at h
theorem apZ:prog.eqGuardType prog.depth 46=ab:=by kernel_rfl
end Go.Proofs.YtkhphoonnkoipaaGreatDoor
