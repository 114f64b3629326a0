/- Lemmas. -/
import Derived.Test.YtkhphoonnkoipaaGreatDoorVaan
set_option linter.all false
set_option maxHeartbeats 16000000
set_option maxRecDepth 4000
open Go.Proofs.Tryz Go.RowKit Go.Lib
open Option renaming none→J
open Go.RowKit renaming Hid→aj
namespace Go.Proofs.YtkhphoonnkoipaaGreatDoor
theorem amy (vs pre us post:List Nat) (c7:Option Addr) (fj g cap m p N:Nat) (w:World) (hu:oA w g pre us post p (m+3) N) (aD:b2 w (.slice c7 (m+2) fj) vs) (aY:∀b,c7=some ⟨b,0,J⟩→b<g) (cO:vs.length=m+2) (ib:o.dI vs) (half:2147483648≤vs.getD (m+1) 0) (bV:o.num us<o.num vs*4294967296) (cW:N≤6000) :
 Calls prog 131 #[.slice (some ⟨g,0,J⟩) N cap,.slice c7 (m+2) fj,.int .i64 p] w fun e w'=>∃yE,e=.returned (.int .u32 (o.num us/o.num vs:Nat))∧oA w' g pre yE post p (m+3) N∧o.num yE=o.num us%o.num vs∧lk g w w'∧w'.heap.size=w.heap.size:=by
 have iM:=I (o.amk hu.aB cO hu.ws ib half bV);have amz:o.num us<4294967296^(m+3):=by have:=o.n9 hu.ws;rwa[hu.aB] at this
 have mF:=I hu;have kh:=hu.cW;obtain⟨b,rfl,iX,_⟩:=aD.at (k:=0) (by rw[cO];omega);have kD:=aY b rfl;have Dm:aj (∀W,lk g w W→∀k,k<m+2→W.cell? ⟨b,k,J⟩=some (.int .u32 (vs.getD k 0:Nat))):=I (fun W ad k aA=>by
  rw[ad.cell (p:=⟨b,k,J⟩) kD];obtain⟨b',e,_,an⟩:=aD.at (k:=k) (by rw[cO];exact aA);injection e with e;injection e with e;subst e;exact an)
 have LM:=o.ia hu.ws (m+2);have abk:=o.ia hu.ws (m+1);have abl:=o.ia hu.ws m;have amA:=o.ia ib (m+1);have amB:=o.ia ib m;have Ta:=hu.cell (i:=m+2) (by omega);have Tb:=hu.cell (i:=m+1) (by omega);have LN:=hu.cell (i:=m) (by omega);have LO:=Dm.out w (lk.refl _ _) (m+1) (by omega);have Tc:=Dm.out w (lk.refl _ _) m (by omega);obtain⟨dS,ti⟩:∃x,us.getD (m+2) 0=x:=⟨_,rfl⟩;obtain⟨dV,th⟩:∃x,us.getD (m+1) 0=x:=⟨_,rfl⟩;obtain⟨dO,AI⟩:∃x,us.getD m 0=x:=⟨_,rfl⟩;obtain⟨v1,fK⟩:∃x,vs.getD (m+1) 0=x:=⟨_,rfl⟩;obtain⟨v0,pO⟩:∃x,vs.getD m 0=x:=⟨_,rfl⟩;rw[ti] at iM LM Ta;rw[th] at iM abk Tb;rw[AI] at iM abl LN;rw[fK] at iM amA LO half;rw[pO] at iM amB Tc;have nJ:=I cO;have abm:=I ib;have abn:=I (And.intro ti (And.intro th AI));have abo:=I (And.intro fK pO);clear aD aY cO ib bV amz hu ti th AI fK pO;obtain⟨n,aB⟩:∃n,m+2=n:=⟨_,rfl⟩;obtain⟨dE,lT⟩:∃n,m+1=n:=⟨_,rfl⟩;rw[aB] at Ta ⊢;rw[lT] at Tb LO;obtain⟨cX,lQ⟩:∃q,p+n=q:=⟨_,rfl⟩;obtain⟨bD,sz⟩:∃q,p+dE=q:=⟨_,rfl⟩;obtain⟨b0,t'⟩:∃q,p+m=q:=⟨_,rfl⟩;rw[lQ] at Ta;rw[sz] at Tb;rw[t'] at LN;have i2:(p:Int)+(n:Int)=(cX:Int):=by omega
 have i1:(cX:Int)-1=(bD:Int):=by omega
 have i0:(cX:Int)-2=(b0:Int):=by omega
 have LP:(n:Int)-1=(dE:Int):=by omega
 have LQ:(n:Int)-2=(m:Int):=by omega
 have cF:cX<N:=by omega
 have cd:bD<N:=by omega
 have im:b0<N:=by omega
 have d1:dE<n:=by omega
 have d0:m<n:=by omega
 have b9:=I (And.intro aB (And.intro lT (And.intro lQ (And.intro sz t'))));clear aB lT lQ sz t' kh;have abp:=abi LM abk;obtain⟨top,LR⟩:∃t,dS*4294967296+dV=t:=⟨_,rfl⟩;rw[LR] at abp;have p1:top<18446744073709551616:=by omega
 obtain⟨g0,br⟩:∃x,top/v1=x:=⟨_,rfl⟩;obtain⟨cl,vg⟩:∃x,top%v1=x:=⟨_,rfl⟩;have LS:(top:Int)/(v1:Int)=(g0:Int):=by rw[←br];simp
 have Ha:(top:Int)%(v1:Int)=(cl:Int):=by rw[←vg];simp
 have LU:(top:Int).tdiv (v1:Int)=(g0:Int):=by rw[D' (by omega)];exact LS
 have kK:(top:Int).tmod (v1:Int)=(cl:Int):=by rw[Ea (by omega)];exact Ha
 have abq:g0≤8589934592:=by
  rw[←br];refine cp (ND half (by decide)) ?_;omega
 have m':cl<v1:=by rw[←vg];exact eW _ (by omega)
 have yl:aj (g0*v1+cl=top∧o.num us/o.num vs≤g0):=I ⟨by rw[←br,←vg,dx];exact ky top v1,by rw[←br,←LR];exact iM.out.start⟩;have ua:=I LR;clear br vg LR;go_enter func131,ntmps131;go_wp2;go_region;go_wp2;go_region;go_wp2;go_loopw [9,10] (fun Lj C9 wr=>∃hR r:Nat,Lj=.int .u64 hR∧C9=.int .u64 r∧hR≤8589934592∧r<4294967296∧aj (hR*v1+r=top∧o.num us/o.num vs≤hR)∧oA wr g pre us post p (m+3) N∧lk g w wr∧wr.heap.size=w.heap.size) (fun _ C9 _=>4294967296-(RowKit.intOf C9).toNat);case atStart=>exact⟨g0,cl,rfl,rfl,abq,by omega,yl,mF.out.drew.drew,((lk.refl _ _).drew).drew,rfl⟩
 case round=>
  obtain⟨hR,r,rfl,rfl,axB,qX,hinv,gV,yF,b5⟩:=hrel;have LV:=I gV;have eY:=I yF;have yG:=I b5;have lY:=b9.out;have LN:wr.cell? ⟨g,b0,J⟩=some (.int .u32 (dO:Nat)):=by
   have:=gV.cell (i:=m) (by omega);rw[abn.out.2.2,lY.2.2.2.2] at this;exact this
  have Tc:wr.cell? ⟨b,m,J⟩=some (.int .u32 (v0:Nat)):=by
   have:=Dm.out wr yF m (by omega);rwa[abo.out.2] at this
  have LO:wr.cell? ⟨b,dE,J⟩=some (.int .u32 (v1:Nat)):=by
   have:=Dm.out wr yF (m+1) (by omega);rwa[abo.out.1,lY.2.1] at this
  have abr:=abi qX abl;obtain⟨Dn,pZ⟩:∃x,r*4294967296+dO=x:=⟨_,rfl⟩;rw[pZ] at abr;have mU:aj (4294967296≤hR∨Dn<hR*v0→o.num us/o.num vs≤hR-1∧1≤hR):=I (fun h=>by
   refine⟨iM.out.down (by rw[ua.out];exact hinv.out.1) (by rw[pZ];exact h),?_⟩;rcases h with h | h
   ·omega
   ·rcases kd hR with e | e
    ·rw[e,vN] at h;omega
    ·exact e)
  have Dp:aj (hR<4294967296→hR*v0≤Dn→hR≤o.num us/o.num vs+1):=I (fun aa ae=>iM.out.S5 (by rw[ua.out];exact hinv.out.1) aa (by rw[pZ];exact ae));rcases eh hR 4294967296 with fR | fR;case' inr=>
   obtain⟨t,bn⟩:∃t,hR/4294967296=t+1:=⟨hR/4294967296-1,by omega⟩;have amC:(hR:Int)/4294967296=(t:Int)+1:=by omega
   have Td:decide ((0:Int)<(t:Int)+1)=true:=bE (by omega);clear bn;obtain⟨mT,gm⟩:=mU.out (.inl fR);have Te:IntKind.u64.wrap ((hR:Int)-1)=((hR-1:Nat):Int):=by rw[ha];omega
   obtain⟨G,p5⟩:∃G,hR-1=G:=⟨_,rfl⟩;obtain⟨ix,iW⟩:∃x,r+v1=x:=⟨_,rfl⟩;have Hb:IntKind.u64.wrap ((r:Int)+(v1:Int))=(ix:Int):=by rw[ha];omega
   rw[p5] at Te;have qY:aj (G*v1+ix=top∧o.num us/o.num vs≤G):=I (by
    rw[←p5];refine⟨?_,mT⟩;have aa:=hinv.out.1;obtain⟨y,aW⟩:∃y,hR=y+1:=⟨hR-1,by omega⟩;rw[aW] at aa ⊢;rw[nt];rw[ff,fW] at aa;omega)
   have Tf:G≤8589934592:=by omega
   have amD:r<ix:=by omega
   rcases eh ix 4294967296 with iK | iK;case inl=>
    have vW:(ix:Int)/4294967296=0:=by omega
    clear mT gm p5 iW pZ gV yF b5 lY hinv mU Dp;go_wp2_with fail;first | go_region | fail
    go_wp2;go_roundw;case rel=>exact⟨G,ix,rfl,rfl,Tf,iK,qY,LV.out.drew,eY.out.drew,yG.out⟩
    case measure=>simp[RowKit.intOf];omega
   have vW:(ix:Int)/4294967296=1:=by omega
   have Hc:aj (G<4294967296∧o.num us/o.num vs≤G∧G≤o.num us/o.num vs+1):=I (by
    have ad:=iM.out.abc (by rw[ua.out];exact qY.out.1) (by omega);exact⟨ad.1,qY.out.2,iM.out.S5 (by rw[ua.out];exact qY.out.1) ad.1 ad.2⟩)
   clear mT gm p5 iW pZ gV yF b5 lY hinv mU Dp;go_wp2_with fail;first | go_region | fail
  case' inl=>
   have bV:=fR;have amC:(hR:Int)/4294967296=0:=by omega
   have amE:hR*v0≤4294967295*4294967295:=kz (by omega) (by omega);obtain⟨al,Hd⟩:∃x,hR*v0=x:=⟨_,rfl⟩;have axC:(hR:Int)*(v0:Int)=(al:Int):=by rw[←Hd];simp
   rw[Hd] at amE;have axD:IntKind.u64.wrap (al:Int)=(al:Int):=by rw[ha];omega
   by_cases qB:Dn<al;case' neg=>
    have amF:decide ((Dn:Int)<(al:Int))=false:=bx (by omega);have axE:¬ Dn<al:=qB;have Hc:aj (hR<4294967296∧o.num us/o.num vs≤hR∧hR≤o.num us/o.num vs+1):=I ⟨bV,hinv.out.2,Dp.out bV (by rw[Hd];omega)⟩;obtain⟨G,p5⟩:∃G,G=hR:=⟨_,rfl⟩;subst p5;clear Hd pZ gV yF b5 lY hinv mU Dp;go_wp2_with fail;first | go_region | fail
   case' pos=>
    have amF:decide ((Dn:Int)<(al:Int))=true:=bE (by omega);obtain⟨mT,gm⟩:=mU.out (.inr (by rw[Hd];exact qB));have Te:IntKind.u64.wrap ((hR:Int)-1)=((hR-1:Nat):Int):=by rw[ha];omega
    obtain⟨G,p5⟩:∃G,hR-1=G:=⟨_,rfl⟩;obtain⟨ix,iW⟩:∃x,r+v1=x:=⟨_,rfl⟩;have Hb:IntKind.u64.wrap ((r:Int)+(v1:Int))=(ix:Int):=by rw[ha];omega
    rw[p5] at Te;have qY:aj (G*v1+ix=top∧o.num us/o.num vs≤G):=I (by
     rw[←p5];refine⟨?_,mT⟩;have aa:=hinv.out.1;obtain⟨y,aW⟩:∃y,hR=y+1:=⟨hR-1,by omega⟩;rw[aW] at aa ⊢;rw[nt];rw[ff,fW] at aa;omega)
    have Tf:G≤8589934592:=by omega
    have amD:r<ix:=by omega
    rcases eh ix 4294967296 with iK | iK;case inl=>
     have vW:(ix:Int)/4294967296=0:=by omega
     clear mT gm p5 iW pZ gV yF b5 lY hinv mU Dp;go_wp2_with fail;first | go_region | fail
     go_wp2;go_roundw;case rel=>exact⟨G,ix,rfl,rfl,Tf,iK,qY,LV.out.drew,eY.out.drew,yG.out⟩
     case measure=>simp[RowKit.intOf];omega
    have vW:(ix:Int)/4294967296=1:=by omega
    have Hc:aj (G<4294967296∧o.num us/o.num vs≤G∧G≤o.num us/o.num vs+1):=I (by
     have ad:=iM.out.abc (by rw[ua.out];exact qY.out.1) (by omega);exact⟨ad.1,qY.out.2,iM.out.S5 (by rw[ua.out];exact qY.out.1) ad.1 ad.2⟩)
    clear mT gm p5 iW pZ gV yF b5 lY hinv mU Dp;go_wp2_with fail;first | go_region | fail
  all_goals
   go_wp2_with fail;go_wp2_with fail;have amG:=I LV.out.drew;have amH:=I eY.out.drew;have amI:aj (wr.drew.heap.size=w.heap.size):=I yG.out;generalize wr.drew=axF at *;obtain⟨amJ,_,_⟩:=Hc.out;clear LV eY yG LN Tc LO abr i1 i0 LP LQ LS Ha LU kK abp abq m' yl p1;go_loopw [11,12,13,14,15,94] (fun Ll GV _ _ _ Tg wr=>∃(i c jx:Nat) (ys:List Nat),i≤n∧c<4294967296∧jx≤1∧Ll=.int .u64 c∧GV=.int .u32 jx∧Tg=.int .i64 i∧oA wr g pre ys post p (m+3) N∧aj (ys.drop i=us.drop i)∧aj (o.num (ys.take i)+G*o.num (vs.take i)=o.num (us.take i)+4294967296^i*(c+jx))∧lk g w wr∧wr.heap.size=w.heap.size) (fun _ _ _ _ _ Tg _=>n-(RowKit.intOf Tg).toNat);case atStart=>exact⟨0,0,0,us,il _,by decide,by decide,rfl,rfl,rfl,amG.out,I rfl,I (by simp[o.num]),amH.out,amI.out⟩
   case round=>
    obtain⟨i,c,jx,ys,aV,an,pb,rfl,rfl,rfl,gV,j4,p4,sP,AS⟩:=hrel;have amK:=I gV;have AT:=I sP;have AU:=I AS;have He:=b9.out;by_cases kH:i<n
    ·have u3:=Dm.out wr sP i (by omega);have ub:=gV.cell (i:=i) (by omega);have eT:ys.getD i 0=us.getD i 0:=by
      have aa:=eS (fun l=>l.getD 0 0) j4.out;simpa[e5] using aa
     have uc:=o.ia mF.out.ws i;have gH:=o.ia abm.out i;have lA:=gV.row.free (p+i);obtain⟨u,hu⟩:∃u,us.getD i 0=u:=⟨_,rfl⟩;obtain⟨x,hx⟩:∃x,vs.getD i 0=x:=⟨_,rfl⟩;rw[eT,hu] at ub;rw[hu] at uc;rw[hx] at u3 gH;obtain⟨dH,dY⟩:=o.Xk (a:=G) (y:=x) (z:=0) (c:=c) amJ gH (by decide) an;rw[jd] at dH dY;have amL:G*x≤4294967295*4294967295:=kz (by omega) (by omega);have vh:=I (show ∀lo c':Nat,(G*x+c)%4294967296=lo→(G*x+c)/4294967296=c'→G*vs.getD i 0+c=lo+4294967296*c' from fun lo c' aa ae=>by rw[hx];omega);obtain⟨Hf,Th⟩:∃y,G*x=y:=⟨_,rfl⟩;have axG:(G:Int)*(x:Int)=(Hf:Int):=by rw[←Th];simp
     rw[Th] at amL dH dY vh;obtain⟨sm,nj⟩:∃y,Hf+c=y:=⟨_,rfl⟩;rw[nj] at dH dY vh;have axH:IntKind.u64.wrap (x:Int)=(x:Int):=by rw[ha];omega
     have axI:IntKind.u64.wrap (Hf:Int)=(Hf:Int):=by rw[ha];omega
     have axJ:IntKind.u64.wrap ((Hf:Int)+(c:Int))=(sm:Int):=by rw[ha];omega
     obtain⟨lo,jg⟩:∃y,sm%4294967296=y:=⟨_,rfl⟩;obtain⟨c',iS⟩:∃y,sm/4294967296=y:=⟨_,rfl⟩;have abt:=I (vh.out lo c' jg iS);rw[iS] at dY;have axK:(sm:Int)%4294967296=(lo:Int):=by omega
     have KD:(sm:Int)/4294967296=(c':Int):=by omega
     have abu:lo<4294967296:=by omega
     obtain⟨d,aL⟩:∃d,(u+8589934592-lo-jx)%4294967296=d:=⟨_,rfl⟩;obtain⟨b',hs⟩:∃b',(if u<lo+jx then 1 else 0)=b':=⟨_,rfl⟩;have lI:=o.Q3 uc abu pb aL.symm;rw[hs] at lI;have hL:d<4294967296:=by omega
     have amM:b'≤1:=by rw[←hs];split<;>omega
     have vi:=I (fun W=>Rc u lo jx d b' W uc abu pb aL hs);have wU:=I (o.abf (us:=us) (vs:=vs) (ys:=ys) (i:=i) (c:=c) (b:=jx) (d:=d) (lo:=lo) (c':=c') (b':=b') (g:=G) (by rw[gV.aB];omega) p4.out (by rw[hu];exact lI) abt.out);have vj:=I (gV.set (i:=i) (d:=d) (by omega) hL);have bL:=I (sP.setCell (p:=⟨g,p+i,J⟩) rfl (.int .u32 (d:Nat)));have Ag:aj ((ys.set i d).drop (i+1)=us.drop (i+1)):=I (by
      rw[BF (by omega)];have aa:=eS (List.drop 1) j4.out;rwa[sf,sf] at aa)
     have amN:p+i<N:=by omega
     have amO:(p:Int)+(i:Int)=((p+i:Nat):Int):=by omega
     obtain⟨pi,abv⟩:∃q,p+i=q:=⟨_,rfl⟩;rw[abv] at ub lA vj bL amN amO;clear gV j4 p4 sP AS Th nj jg iS aL hs lI hu hx eT abv He vh abt;go_wp2_with fail;refine (vi.out _).mono ?_;rintro e w' ⟨rfl,rfl⟩;go_wp2;go_roundw;case rel=>exact⟨i+1,c',b',ys.set i d,by omega,dY,amM,rfl,rfl,by go_num,vj.out,Ag,wU.out |> I,bL.out,by simpa[World.setCell] using AU.out⟩
     case measure=>simp[RowKit.intOf];omega
    ·have amP:i=n:=by omega
     subst amP;have eT:ys.getD i 0=us.getD i 0:=by
      have aa:=eS (fun l=>l.getD 0 0) j4.out;simpa[e5] using aa
     have ub:=gV.cell (i:=m+2) (by omega);have lA:=gV.row.free cX;have LW:=abn.out.1;rw[He.1] at ub LW;rw[eT,LW,He.2.2.1] at ub;have KD:(c:Int)%4294967296=(c:Int):=by omega
     obtain⟨d,aL⟩:∃d,(dS+8589934592-c-jx)%4294967296=d:=⟨_,rfl⟩;obtain⟨cF,bg⟩:∃b',(if dS<c+jx then 1 else 0)=b':=⟨_,rfl⟩;have lI:=o.Q3 LM an pb aL.symm;rw[bg] at lI;have hL:d<4294967296:=by omega
     have amQ:cF≤1:=by rw[←bg];split<;>omega
     have vi:=I (fun W=>Rc dS c jx d cF W LM an pb aL bg);have pO:vs.getD i 0=0:=by rw[e5,zf (by rw[nJ.out];omega)];rfl
     have rV:=o.abf (us:=us) (vs:=vs) (ys:=ys) (i:=i) (c:=c) (b:=jx) (d:=d) (lo:=c) (c':=0) (b':=cF) (g:=G) (by rw[gV.aB];omega) p4.out (by rw[LW];exact lI) (by rw[pO];simp);rw[fp (by rw[mh,gV.aB];omega),fp (by rw[nJ.out];omega),fp (by rw[mF.out.aB];omega),hc] at rV;have uM:=gV.set (i:=m+2) (d:=d) (by omega) hL;rw[He.1,He.2.2.1] at uM;have abw:=iM.out.b.2.2;have Av:o.num (ys.set i d)<4294967296^(i+1):=by
      have:=o.n9 uM.ws;rwa[uM.aB,show m+3=i+1 by omega] at this
     have yH:o.num us<4294967296^(i+1):=by
      have:=o.n9 mF.out.ws;rwa[mF.out.aB,show m+3=i+1 by omega] at this
     have iO:=I (o.amg abw Av yH amQ rV Hc.out.2.1 Hc.out.2.2 rfl);have vj:=I uM;have bL:=I (sP.setCell (p:=⟨g,cX,J⟩) rfl (.int .u32 (d:Nat)));have amR:=I (gQ (E7 (o.num us) (o.num vs)) yH);obtain⟨ud,abx⟩:∃z,ys.set i d=z:=⟨_,rfl⟩;rw[abx] at vj iO;have axL:(G:Int)%4294967296=(G:Int):=by omega
     clear gV j4 p4 sP AS aL bg lI eT LW rV uM abw Av yH abx pO;rcases (show cF=0∨cF=1 by omega)with rfl | rfl
     ·have bZ:=I (iO.out.1 rfl);clear iO;go_wp2_with fail;refine (vi.out _).mono ?_;rintro e w' ⟨rfl,rfl⟩;go_wp2;go_ret;exact⟨ud,by rw[bZ.out.1];rfl,vj.out,bZ.out.2,bL.out,by simpa[World.setCell] using AU.out⟩
     ·have bZ:=I (iO.out.2 rfl);clear iO;obtain⟨Q,ma⟩:∃Q,o.num us/o.num vs=Q:=⟨_,rfl⟩;have b3:=I ma;have aby:G=Q+1:=by have:=bZ.out.1;rwa[ma] at this
      have axM:IntKind.u64.wrap ((G:Int)-1)=(Q:Int):=by rw[ha];omega
      have axN:(Q:Int)%4294967296=(Q:Int):=by omega
      have axO:=I aby;clear ma aby;obtain⟨bh,dn⟩:∃bh,wr.setCell ⟨g,cX,J⟩ (.int .u32 (d:Nat))=bh:=⟨_,rfl⟩;rw[dn] at vj bL;have e3:aj (bh.heap.size=w.heap.size):=I (by rw[←dn];simpa[World.setCell] using AU.out);go_wp2_with fail;refine (vi.out _).mono ?_;rintro e w' ⟨rfl,rfl⟩;go_wp2_with fail;clear ub lA amK AT AU vi;go_loopw [16,17,18,150] (fun amS _ _ Ti wr=>∃(j k:Nat) (zs:List Nat),j≤i∧k≤1∧amS=.int .u32 k∧Ti=.int .i64 j∧oA wr g pre zs post p (m+3) N∧aj (zs.drop j=ud.drop j)∧aj (o.num (zs.take j)+4294967296^j*k=o.num (ud.take j)+o.num (vs.take j))∧lk g w wr∧wr.heap.size=w.heap.size) (fun _ _ _ Ti _=>i-(RowKit.intOf Ti).toNat);case atStart=>exact⟨0,0,ud,il _,by decide,rfl,rfl,vj.out,I rfl,I (by simp[o.num]),bL.out,e3.out⟩
      case round=>
       obtain⟨j,k,zs,bP,aA,rfl,rfl,gV,j4,p4,sP,AS⟩:=hrel;have AU:=I AS;have Dq:=b9.out;by_cases axP:j<i
       ·have u3:=Dm.out wr sP j (by omega);have ub:=gV.cell (i:=j) (by omega);have eT:zs.getD j 0=ud.getD j 0:=by
         have aa:=eS (fun l=>l.getD 0 0) j4.out;simpa[e5] using aa
        have uc:=o.ia vj.out.ws j;have gH:=o.ia abm.out j;have lA:=gV.row.free (p+j);obtain⟨u,hu⟩:∃u,ud.getD j 0=u:=⟨_,rfl⟩;obtain⟨x,hx⟩:∃x,vs.getD j 0=x:=⟨_,rfl⟩;rw[eT,hu] at ub;rw[hu] at uc;rw[hx] at u3 gH;obtain⟨d3,tA⟩:∃d,(u+x+k)%4294967296=d:=⟨_,rfl⟩;obtain⟨k',yI⟩:∃q,(u+x+k)/4294967296=q:=⟨_,rfl⟩;have lW:=I (fun W=>Xn u x k d3 k' W uc gH aA tA yI);have Tj:d3<4294967296:=by omega
        have Tk:k'≤1:=by omega
        have wU:=I (o.abg (us:=ud) (vs:=vs) (ys:=zs) (i:=j) (k:=k) (d:=d3) (k':=k') (by rw[gV.aB];omega) p4.out (by rw[hu,hx];omega));have yu:=I (gV.set (i:=j) (d:=d3) (by omega) Tj);have bu:=I (sP.setCell (p:=⟨g,p+j,J⟩) rfl (.int .u32 (d3:Nat)));have Ag:aj ((zs.set j d3).drop (j+1)=ud.drop (j+1)):=I (by
         rw[BF (by omega)];have aa:=eS (List.drop 1) j4.out;rwa[sf,sf] at aa)
        have amT:p+j<N:=by omega
        have amU:(p:Int)+(j:Int)=((p+j:Nat):Int):=by omega
        obtain⟨axQ,abz⟩:∃q,p+j=q:=⟨_,rfl⟩;rw[abz] at ub lA yu bu amT amU;clear gV j4 p4 sP AS tA yI hu hx eT abz Dq;go_wp2_with fail;refine (lW.out _).mono ?_;rintro e w' ⟨rfl,rfl⟩;go_wp2;go_roundw;case rel=>exact⟨j+1,k',zs.set j d3,by omega,Tk,rfl,by go_num,yu.out,Ag,I wU.out,bu.out,by simpa[World.setCell] using AU.out⟩
        case measure=>simp[RowKit.intOf];omega
       ·have aaU:j=i:=by omega
        subst aaU;have eT:zs.getD j 0=ud.getD j 0:=by
         have aa:=eS (fun l=>l.getD 0 0) j4.out;simpa[e5] using aa
        have ub:=gV.cell (i:=m+2) (by omega);have lA:=gV.row.free cX;have uc:=o.ia vj.out.ws j;obtain⟨z,aX⟩:∃u,ud.getD j 0=u:=⟨_,rfl⟩;rw[Dq.1,eT,aX,Dq.2.2.1] at ub;rw[aX] at uc;obtain⟨d3,tA⟩:∃d,(z+k)%4294967296=d:=⟨_,rfl⟩;obtain⟨k',yI⟩:∃q,(z+k)/4294967296=q:=⟨_,rfl⟩;have Tj:d3<4294967296:=by omega
        have Tk:k'≤1:=by omega
        have ame:IntKind.u32.wrap ((z:Int)+(k:Int))=(d3:Int):=by rw[EE];omega
        have pO:vs.getD j 0=0:=by rw[e5,zf (by rw[nJ.out];omega)];rfl
        have rV:=o.abg (us:=ud) (vs:=vs) (ys:=zs) (i:=j) (k:=k) (d:=d3) (k':=k') (by rw[gV.aB];omega) p4.out (by rw[aX,pO];omega);rw[fp (by rw[mh,gV.aB];omega),fp (by rw[vj.out.aB];omega),fp (by rw[nJ.out];omega)] at rV;have Hg:=gV.set (i:=m+2) (d:=d3) (by omega) Tj;rw[Dq.1,Dq.2.2.1] at Hg;have Av:o.num (zs.set j d3)<4294967296^(j+1):=by
         have:=o.n9 Hg.ws;rwa[Hg.aB,show m+3=j+1 by omega] at this
        have amV:=I (o.amh amR.out Av Tk rV bZ.out.2);have yu:=I Hg;have bu:=I (sP.setCell (p:=⟨g,cX,J⟩) rfl (.int .u32 (d3:Nat)));clear gV j4 p4 sP AS tA yI aX eT Dq rV Hg Av pO;go_wp2;go_ret;exact⟨zs.set j d3,by rw[b3.out];rfl,yu.out,amV.out,bu.out,by simpa[World.setCell] using AU.out⟩
end Go.Proofs.YtkhphoonnkoipaaGreatDoor
