/- Lemmas. -/
import Derived.Test.YtkhphoonnkoipaaGreatDoorVaah
import Derived.Deep.RegionHeld3
set_option linter.all false
set_option maxHeartbeats 2000000
set_option maxRecDepth 4000
open Go.Proofs.Tryz Go.RowKit Go.Lib
open Option renaming none→J,some→U
open Bool renaming false→ab
open Go renaming World→af,Value→aw,Calls→aq,Ending→jA
open Go.RowKit renaming Below→ah
open Go.Proofs.Tryz renaming prog→ak
namespace Go.Proofs.YtkhphoonnkoipaaGreatDoor
namespace o
def le:List UInt8→Nat
 | []=>0
 | c::l=>c.toNat+256*le l
theorem CC:∀(l:List UInt8) (c:UInt8),le (l++[c])=le l+256^l.length*c.toNat
 | [],c=>by simp[le]
 | a::l,c=>by rw[rf,le,CC l c,le,ch,ei,fP,←cE,dx 256 (256^l.length)];omega
theorem ru:∀l:List UInt8,le l<256^l.length
 | []=>by simp[le]
 | a::l=>by rw[le,ch,ei];have:=ru l;have:=a.toNat_lt;omega
def word (l:List UInt8) (j:Nat):Nat:=le ((l.drop (4*j)).take 4)
def words (n:Nat) (l:List UInt8):List Nat:=(List.range n).map (word l)
theorem wh (n:Nat) (l:List UInt8):(words n l).length=n:=by simp[words]
theorem word_lt (l:List UInt8) (j:Nat):word l j<4294967296:=by
 have h:=ru ((l.drop (4*j)).take 4);have ao:((l.drop (4*j)).take 4).length≤4:=List.length_take_le _ _;have:256^((l.drop (4*j)).take 4).length≤256^4:=dB (by decide) ao;unfold word;exact cv h (cp this (by decide))
theorem aia {l:List UInt8} {i:Nat} (h:i<l.length) (j:Nat):word (l.take (i+1)) j=if j=i/4 then word (l.take i) j+256^(i%4)*l[i].toNat else word (l.take i) j:=by
 unfold word;rw[kc h];by_cases bP:j=i/4
 ·subst bP;rw[ba rfl,Nk (by simp;omega)];have ao:((l.take i).drop (4*(i/4))).length=i%4:=by simp;omega
  generalize (l.take i).drop (4*(i/4))=X at ao ⊢;rw[fp (show (X++[l[i]]).length≤4 by simp;omega),fp (show X.length≤4 by omega),CC,ao]
 ·rw[aU bP];rcases Nat.lt_or_gt_of_ne bP with bP | bP
  ·rw[Nk (by simp;omega),Nl (by simp;omega)]
  ·rw[zd (by simp;omega),zd (by simp;omega)]
theorem aib {l:List UInt8} {i:Nat} (h:i≤l.length):word (l.take i) (i/4)<256^(i%4):=by
 have:=ru ((((l.take i).drop (4*(i/4)))).take 4);have ao:((((l.take i).drop (4*(i/4)))).take 4).length=i%4:=by simp;omega
 rw[ao] at this;exact this
end o
theorem aic {a b:Nat} (k:Nat) (aS:a<2^k) (ad:b<256) (aA:k≤24):bits .or .u32 (a:Int) (IntKind.u32.wrap ((b:Int)*2^k))=((a+2^k*b:Nat):Int):=by
 have hp:2^k≤2^24:=dB (by decide) aA;have uR:2^k*b<4294967296:=by
  have:2^k*b≤2^24*255:=kz hp (by omega);exact gQ this (by decide)
 have hw:∀n:Nat,n<4294967296→IntKind.u32.wrap (n:Int)=n:=fun n aB=>by rw[EE];omega
 have aH:(b:Int)*2^k=((2^k*b:Nat):Int):=by rw[dx];simp
 rw[aH,hw _ uR];have wi:(2:Nat)^IntKind.u32.bits=4294967296:=rfl;simp only[bits,oK,vL,ns,wi];have gU:a ||| 2^k*b=a+2^k*b:=by
  have:=oJ (i:=k) (b:=a) aS b;rw[si,←this,jv]
 have bV:a+2^k*b<4294967296:=by
  have:2^k*b+2^k≤2^24*256:=by rw[←Nat.mul_succ];exact kz hp (by omega)
  have aJ:(2:Nat)^24*256=4294967296:=by decide
  omega
 rw[eF (by omega),eF uR,gU,hw _ bV]
theorem x2 (l:List UInt8):h9 (ax l) 0 l:=fun k h ae=>by simp only[hc];rfl
theorem sr:(prog.info? 96).map (fun i=>(i.zero,i.size,i.bytes))=U (U (.int .u32 0),1,4):=by kernel_rfl
def hg (xs:List Nat):Array aw:=(xs.map fun x=>Value.int .u32 (x:Nat)).toArray
theorem Kn {w:af} {base g n:Nat} {e:TypeId} {xs:List aw} (h:w.ownsRow base e 1 (.slice (U ⟨g,0,J⟩) n n) n xs):w.heap[g]? = U (.cells xs.toArray e (0,0)):=by
 rcases h.2 with ⟨aa,_⟩ | ⟨pD,cap,cur,aa,_,aJ,_,_,ga,iL⟩
 ·cases aa
 ·injection aa with aH aT b8;injection aH with aH;injection aH with aH;subst aH;rw[aJ];have an:cur=xs.toArray:=by
   rw[fI,fp (by rw[uz,ga,←b8];omega)] at iL;rw[←iL]
  rw[an]
theorem Ko (n:Nat):(madeCells #[Value.int .u32 0] n).toList.toArray=hg (o.words n []):=by
 have h:o.words n []=List.replicate n 0:=by
  apply s7
  ·simp[o.words]
  ·intro i aa ae;simp[o.words,o.word,o.le]
 rw[h];unfold hg;congr 1;apply s7
 ·simp[madeCells]
 ·intro i aa ae;simp[madeCells,JB]
def Xd (w:af) (neg:Bool) (l:List UInt8) (e:jA) (w':af):Prop:=
 ∃v,e=.returned (.agg #[v,.bool neg])∧b2 w' v (o.words ((l.length+3)/4) l)∧ah w.heap.size w w'
theorem Kp (neg:Bool) (l:List UInt8) (w:af) (ao:l.length≤4096) :
 aq ak 60 #[cO neg l] w (Xd w neg l):=by
 unfold cO;obtain⟨i0,aV,eo,eP,eL⟩:=oU sr;have b5:(ax l).size=l.length:=rfl;have iM:=I (x2 l);obtain⟨N,cW⟩:∃N,l.length=N:=⟨_,rfl⟩;rw[cW] at b5 ao;have bU:=I cW;clear cW;generalize ax l=s at *;obtain⟨n,aB⟩:∃n,(N+3)/4=n:=⟨_,rfl⟩;have lT:((N:Int)+3)/4=(n:Int):=by omega
 have qt:n≤1024:=by omega
 have aid:N≤4*n:=by omega
 have nI:=I aB;clear aB;go_enter func60,ntmps60;go_wp2_with (at_make;refine s8 _ rfl _ _ 83 rfl (w.heap.size+2) 96 i0 (.int .u32 0) 1 qd aV eo eP .i64 .i64 _ _ n rfl rfl ?c9 ?c0 ?c1 ?c2 ?c3 ?_);case c9=>exact lT
 case c0=>exact lT
 case c1=>rw[eL];omega
 case c2=>unfold maxLen;omega
 case c3=>simp
 intro cq h7 gm;obtain⟨gS,iU⟩:∃gS,(w.alloc (.cells #[.bool neg,.string s] 46)).alloc (.cells #[.slice J 0 0,.bool ab] 85)=gS:=⟨_,rfl⟩;have a6:gS.heap.size=w.heap.size+2:=by rw[←iU];simp
 have fy:gS.heap[w.heap.size]? = U (.cells #[.bool neg,.string s] 46):=by rw[←iU,EC _ _ _ (by simp)];exact fX _ _
 have iv:gS.heap[w.heap.size+1]? = U (.cells #[.slice J 0 0,.bool ab] 85):=by
  rw[←iU,show w.heap.size+1=(w.alloc (.cells #[.bool neg,.string s] 46)).heap.size by simp];exact fX _ _
 have bl:ah w.heap.size w gS:=by rw[←iU];exact ((aK _ _).alloc (aC _) _).alloc (by simp) _
 rw[iU] at gm;obtain⟨g,eT⟩:∃g,w.heap.size+2=g:=⟨_,rfl⟩;rw[eT] at h7 a6 ⊢;have cj:cq.heap[g]? = U (.cells (hg (o.words n (l.take 0))) 96):=by
  have:=Kn h7;rw[Ko] at this;exact this
 have cQ:=I (show ah g gS cq from (aK _ _).grown gm (by omega) (fun k aA=>by cases aA));have v8:=I fy;have mV:=I bl;have aie:=I iv;have fF:=I cj;have br:w.heap.size+2≤g:=by omega
 have ly:=I eT;clear h7 gm fy bl iv a6 iU aV eo eP eL cj eT;have c1:cq.cell? ⟨w.heap.size,1,J⟩=U (.string s):=by
  rw[cQ.out.cell (p:=⟨w.heap.size,1,J⟩) (by show w.heap.size<g;omega)];simp[World.cell?,v8.out]
 go_wp2;go_loopw [14] (fun i wr=>∃k:Nat,k≤N∧i=.int .i64 k∧wr.heap[g]? = U (.cells (hg (o.words n (l.take k))) 96)∧ah g gS wr∧g<wr.heap.size) (fun i _=>N-(RowKit.intOf i).toNat);case atStart=>exact⟨0,il _,rfl,fF.out,cQ.out,(Array.getElem?_eq_some_iff.1 fF.out).1⟩
 case round=>
  obtain⟨k,aA,rfl,cj,ad,mW⟩:=hrel;have fF:=I cj;have ay:=I ad;have c1:wr.cell? ⟨w.heap.size,1,J⟩=U (.string s):=by
   rw[ad.cell (p:=⟨w.heap.size,1,J⟩) (by show w.heap.size<g;omega)];simp[World.cell?,v8.out]
  clear cj ad;by_cases bV:k<N
  ·have eM:k<l.length:=by rw[bU.out];exact bV
   have q:k<s.size:=by omega
   have jP:s[k]'q=l[k]:=iM.out.get eM q (by omega);obtain⟨c,an⟩:∃c,l[k]=c:=⟨_,rfl⟩;rw[an] at jP;obtain⟨x,hx⟩:∃x,o.word (l.take k) (k/4)=x:=⟨_,rfl⟩;have ss:k/4<n:=by omega
   have awI:wr.cell? ⟨g,k/4,J⟩=U (.int .u32 (x:Nat)):=by
    simp[World.cell?,fF.out,hg,o.words,ss,hx]
   have awJ:wr.frozen? ⟨g,k/4,J⟩=ab:=by simp[World.frozen?,fF.out]
   have Fu:=o.aib (l:=l) (i:=k) (by omega);rw[hx] at Fu;have Ce:=c.toNat_lt;obtain⟨hr,x3⟩:∃hr,x+2^(8*(k%4))*c.toNat=hr:=⟨_,rfl⟩;have qz:=I (show bits .or .u32 (x:Int) ((c.toNat:Int)*2^(8*(k%4))%4294967296)=((hr:Nat):Int) by
    have:=aic (a:=x) (b:=c.toNat) (8*(k%4)) (by rw[mi];exact Fu) (by omega) (by omega);rw[EE] at this;rw[this,x3])
   have mX:=I (show hg (o.words n (l.take (k+1)))=(hg (o.words n (l.take k))).setIfInBounds (k/4) (.int .u32 (hr:Nat)) by
    unfold hg;apply Array.toList_inj.1;apply s7
    ·simp[o.words]
    ·intro i aa ae;simp only[Bw,I4,xq,o.words,zj];rw[o.aia eM];by_cases e:k/4=i
     ·subst e;rw[ba rfl,ba rfl,hx,an,←x3,mi]
     ·rw[aU (fun h=>e h.symm),aU e])
   clear x3 hx an Fu;go_wp2;go_region;rw[qz.out];have n8:(wr.setCell ⟨g,k/4,J⟩ (.int .u32 (hr:Nat))).drew.heap[g]? = U (.cells (hg (o.words n (l.take (k+1)))) 96):=by
    rw[mX.out];show (wr.setCell ⟨g,k/4,J⟩ (.int .u32 (hr:Nat))).heap[g]? = _;simp only[World.setCell,lp,ba,fF.out];rfl
   have pN:=I n8;have bL:=I (show ah g gS (wr.setCell ⟨g,k/4,J⟩ (.int .u32 (hr:Nat))).drew from (ay.out.setCell (p:=⟨g,k/4,J⟩) (aC g) _).drew);have eL:g<(wr.setCell ⟨g,k/4,J⟩ (.int .u32 (hr:Nat))).drew.heap.size:=by rw[show (wr.setCell ⟨g,k/4,J⟩ (.int .u32 (hr:Nat))).drew.heap.size=wr.heap.size by simp[World.setCell]];exact mW
   clear n8;generalize (wr.setCell ⟨g,k/4,J⟩ (.int .u32 (hr:Nat))).drew=aP at pN bL eL ⊢;go_wp2;go_roundw;case rel=>exact⟨k+1,by omega,by go_num,pN.out,bL.out,eL⟩
   case measure=>simp[RowKit.intOf];omega
  ·obtain rfl:k=N:=by omega
   have bS:wr.heap[w.heap.size+1]? = U (.cells #[.slice J 0 0,.bool ab] 85):=by rw[ay.out.block _ (by omega)];exact aie.out
   have hI:wr.heap[w.heap.size]? = U (.cells #[.bool neg,.string s] 46):=by rw[ay.out.block _ (by omega)];exact v8.out
   obtain⟨B,o7⟩:∃B,w.heap.size+1=B:=⟨_,rfl⟩;rw[o7] at bS ⊢;have c0:wr.cell? ⟨w.heap.size,0,J⟩=U (.bool neg):=by simp[World.cell?,hI]
   have cl:wr.cell? ⟨B,0,J⟩=U (.slice J 0 0):=by simp[World.cell?,bS]
   have bH:wr.cell? ⟨B,1,J⟩=U (.bool ab):=by simp[World.cell?,bS]
   have f0:wr.frozen? ⟨B,0,J⟩=ab:=by simp[World.frozen?,bS]
   have f1:wr.frozen? ⟨B,1,J⟩=ab:=by simp[World.frozen?,bS]
   have eY:=I (show ah w.heap.size w wr from mV.out.trans (ay.out.mono (by omega)));have tz:=I o7;clear bS hI bV o7;go_wp2_with fail;obtain⟨aM,aG,gw⟩:=mo wr B (.slice (U ⟨g,0,J⟩) n n) (.bool neg) cl bH;have iV:=eY.out.trans (gw.mono (by have:=tz.out;omega));have QW:B<g:=by have:=tz.out;omega
   refine bI (v:=.agg #[.slice (U ⟨g,0,J⟩) n n,.bool neg]) (by simp[results,results60,go_sem,aM,aG]) rfl ⟨_,rfl,?_,iV⟩;rw[bU.out,nI.out];refine .inr ⟨g,n,by rw[o.wh],by rw[o.wh];exact aC _,by simp[World.setCell];exact mW,fun j y aW=>?_⟩;have dE:(⟨B,1,J⟩:Addr)≠⟨g,j,J⟩:=by intro e;injection e with e;omega
   have kj:(⟨B,0,J⟩:Addr)≠⟨g,j,J⟩:=by intro e;injection e with e;omega
   rw[b7 _ _ _ _ dE,b7 _ _ _ _ kj];have cj:=fF.out;rw[fp (by rw[bU.out];exact aC _)] at cj;simp only[World.cell?,cj,hg];simp[aW]
namespace o
def ec (n V:Nat):List Nat:=(List.range n).map fun j=>V/4294967296^j%4294967296
theorem wj (n V:Nat):(ec n V).length=n:=by simp[ec]
theorem z7 {n V x:Nat} (h:x ∈ ec n V):x<4294967296:=by
 obtain⟨j,_,rfl⟩:=List.mem_map.1 h;exact eW _ (by decide)
theorem aif (B V n:Nat):((List.range (n+1)).map fun j=>V/B^j%B)=V%B::((List.range n).map fun j=>V/B/B^j%B):=by
 rw[V5,tb,BR,hn,uD,List.cons.injEq];refine⟨rfl,?_⟩;apply zh;intro j _;simp only[Function.comp];rw[ei,dx,hE]
theorem aih (n V:Nat):ec (n+1) V=V%4294967296::ec n (V/4294967296):=aif 4294967296 V n
theorem FX (n:Nat):∀V:Nat,V<4294967296^n→num (ec n V)=V:=by
 induction n with
 | zero=>
  intro V h;rw[hn] at h;have:V=0:=by omega
  subst this;rfl
 | succ n dw=>
   intro V h;rw[aih,num,dw (V/4294967296) (by
    rw[ei,dx] at h;exact vH h)]
   omega
theorem x4:∀(xs:List Nat),(∀x ∈ xs,x<4294967296)→num xs<4294967296^xs.length
 | [],_=>by simp[num]
 | x::xs,h=>by
   rw[num,ch,ei];have aa:=x4 xs (fun y aW=>h y (by simp[aW]));have ae:=h x (by simp);omega
theorem aii {V s m p:Nat} (hp:p<32) (cA:V/4294967296^m<2^p) (a1:s<18446744073709551616) (aL:s%2^p=0) (j:Nat) :
 (V+s*4294967296^m)/4294967296^j%4294967296=if j=m then V/4294967296^m+s%4294967296 else if j=m+1 then s/4294967296 else V/4294967296^j%4294967296:=by
 have az:∀k,0<4294967296^k:=fun k=>dK (by decide);have Kq:2^p*2^(32-p)=4294967296:=by rw[←cm,show p+(32-p)=32 by omega]
 have kV:V/4294967296^m+s%4294967296<4294967296:=by
  obtain⟨q,aE⟩:=r8 aL;have aa:s%4294967296=2^p*(q%2^(32-p)):=by rw[aE,←Kq,NA]
  have ae:q%2^(32-p)<2^(32-p):=eW _ (dK (by decide));have aJ:2^p*(q%2^(32-p))+2^p≤2^p*2^(32-p):=by rw[←Nat.mul_succ];exact gp _ ae
  rw[aa];omega
 have gV:(V+s*4294967296^m)/4294967296^m=V/4294967296^m+s:=Ef _ _ (az m);rcases zk j m with bP | bP | bP
 ·rw[aU (by omega),aU (by omega)];have e:4294967296^m=4294967296^j*(4294967296*4294967296^(m-j-1)):=by
   rw[←cE,←ei,←cm,show j.succ+(m-j-1)=m by omega]
  rw[e,show s*(4294967296^j*(4294967296*4294967296^(m-j-1)))=(4294967296*(s*4294967296^(m-j-1)))*4294967296^j by
   rw[dx (4294967296*(s*4294967296^(m-j-1))),←cE s,dx s,cE,xn s],Ef _ _ (az j),Eb]
 ·subst bP;rw[ba rfl,gV];have:(V/4294967296^j+s)%4294967296=(V/4294967296^j+s%4294967296)%4294967296:=by rw[Nat.add_mod_mod]
  rw[this,eF kV]
 ·rw[aU (by omega)];have hdiv:(V+s*4294967296^m)/4294967296^(m+1)=s/4294967296:=by
   rw[ei,←hE,gV];have e:V/4294967296^m+s=(V/4294967296^m+s%4294967296)+(s/4294967296)*4294967296:=by
    have:=Nat.mod_add_div s 4294967296;omega
   rw[e,Ef _ _ (by decide),nu kV,hc]
  by_cases xT:j=m+1
  ·subst xT;rw[ba rfl,hdiv,eF (by omega)]
  ·rw[aU xT];have e:4294967296^j=4294967296^(m+1)*4294967296^(j-m-1):=by rw[←cm,show m+1+(j-m-1)=j by omega]
   have jO:4294967296≤4294967296^(j-m-1):=by
    have:=dB (n:=4294967296) (by decide) (show 1≤j-m-1 by omega);simpa using this
   rw[e,←hE,←hE,hdiv,ei,←hE V];rw[nu (cv (show s/4294967296<4294967296 by omega) jO)];have pO:V/4294967296^m/4294967296=0:=by
    apply nu;have:2^p≤2^31:=dB (by decide) (by omega);have Kr:(2:Nat)^31=2147483648:=by decide
    omega
   rw[pO,Nat.zero_div]
end o
theorem aij {a t p:Nat} (hp:p<32) (aS:a<2^p) (bn:t<4294967296) (aL:t%2^p=0):bits .or .u32 (a:Int) (t:Int)=((a+t:Nat):Int):=by
 obtain⟨q,aE⟩:=r8 aL;have wi:(2:Nat)^IntKind.u32.bits=4294967296:=rfl;have fE:2^p≤2^31:=dB (by decide) (by omega);have Kr:(2:Nat)^31=2147483648:=by decide
 have gU:a ||| t=a+t:=by
  have:=oJ (i:=p) (b:=a) aS q;rw[aE,si,←this,jv]
 have bV:a ||| t<2^32:=zm (by omega) (by omega)
 have hw:∀n:Nat,n<4294967296→IntKind.u32.wrap (n:Int)=n:=fun n aB=>by rw[EE];omega
 simp only[bits,oK,vL,ns,wi];have aik:a<4294967296:=by omega
 rw[eF aik,eF bn,gU,hw _ (by rw[←gU];simpa using bV)]
namespace o
theorem ail {B V x k whole part:Nat} (az:B=4294967296) (cA:V<B^k) (hx:x<B) (hp:part<32) :
 V*2^(32*whole+part)/B^(whole+k)<2^part∧(V+B^k*x)*2^(32*whole+part)=V*2^(32*whole+part)+x*2^part*B^(whole+k)∧x*2^part<18446744073709551616∧x*2^part%2^part=0:=by
 have e:2^(32*whole+part)=B^whole*2^part:=by
  rw[cm,mi,az]
 have fE:2^part≤2^31:=dB (by decide) (by omega);refine⟨?_,?_,?_,I1 _ _⟩
 ·rw[e,cm];apply vH;have ad:0<B^whole*2^part:=lM (dK (by omega)) (dK (by decide));calc V*(B^whole*2^part)<B^k*(B^whole*2^part):=(BD ad).2 cA
   _=B^whole*B^k*2^part:=by rw[←cE,dx (B^k)]
 ·rw[e,ff,cm];congr 1;generalize B^k=p;generalize B^whole=q;generalize 2^part=r;rw[dx p x,cE,cE,xn p q r,xn r q p,dx r p]
 ·have:x*2^part≤4294967295*2^31:=kz (by omega) fE;exact gQ this (by decide)
theorem x5 (l:List Nat) (x:Nat):num (l++[x])=num l+4294967296^l.length*x:=by rw[xW];simp[num]
end o
def QX (w:af) (n V:Nat) (e:jA) (w':af):Prop:=
 ∃v,e=.returned v∧b2 w' v (o.gh (o.ec n V))∧ah w.heap.size w w'
theorem QY (v:aw) (xs:List Nat) (cz:Nat) (w:af) (h:b2 w v xs) (ao:xs.length≤2000) (hx:∀x ∈ xs,x<4294967296) (a1:cz≤40000) :
 aq ak 74 #[v,.int .u64 cz] w (QX w (cz/32+xs.length+1) (o.num xs*2^cz)):=by
 obtain⟨i0,aV,eo,eP,eL⟩:=oU sr;have jh:=I h;have b9:=I hx;obtain⟨c7,fj,rfl⟩:∃a c,v=.slice a xs.length c:=by
  rcases h with ⟨aa,ae⟩ | ⟨b,cap,aa,_⟩
  ·exact⟨J,0,by rw[aa,ae];rfl⟩
  ·exact⟨_,_,aa⟩
 clear h hx;obtain⟨N,cW⟩:∃N,xs.length=N:=⟨_,rfl⟩;rw[cW] at ao jh ⊢;have bU:=I cW;clear cW;obtain⟨eg,wk⟩:∃eg,cz/32=eg:=⟨_,rfl⟩;obtain⟨h8,wg⟩:∃h8,cz%32=h8:=⟨_,rfl⟩;have d1:(cz:Int)/32=(eg:Int):=by omega
 have d2:(cz:Int)%32=(h8:Int):=by omega
 have FY:h8<32:=by omega
 have awK:eg≤1250:=by omega
 have wm:=I (show cz=32*eg+h8 by omega);rw[wk];clear wk wg;obtain⟨n,aB⟩:∃n,eg+N+1=n:=⟨_,rfl⟩;rw[aB];have nI:=I aB;have qt:n≤4000:=by omega
 go_enter func74,ntmps74;go_wp2_with (at_make;refine s8 _ rfl _ _ 83 rfl w.heap.size 96 i0 (.int .u32 0) 1 qd aV eo eP .i64 .i64 _ _ n rfl rfl ?c9 ?c0 ?c1 ?c2 ?c3 ?_);case c9=>omega
 case c0=>omega
 case c1=>rw[eL];omega
 case c2=>unfold maxLen;omega
 case c3=>simp
 intro cq h7 gm;obtain⟨g,eT⟩:∃g,w.heap.size=g:=⟨_,rfl⟩;rw[eT] at h7 ⊢;have cj:cq.heap[g]? = U (.cells (hg (o.ec n (o.num (xs.take 0)*2^cz))) 96):=by
  have:=Kn h7;rw[Ko] at this;rw[this];have e:o.words n []=o.ec n (o.num (xs.take 0)*2^cz):=by
   unfold o.words o.ec;apply zh;intro j _;simp[o.word,o.le,o.num]
  rw[e]
 have cQ:=I (show ah g w cq from (aK _ _).grown gm (by omega) (fun k aA=>by cases aA));have fF:=I cj;have ly:=I eT;clear h7 gm aV eo eP eL cj eT aB;go_wp2;go_loopw [24] (fun i wr=>∃k:Nat,k≤N∧i=.int .i64 k∧wr.heap[g]? = U (.cells (hg (o.ec n (o.num (xs.take k)*2^cz))) 96)∧ah g w wr∧g<wr.heap.size) (fun i _=>N-(RowKit.intOf i).toNat);case atStart=>exact⟨0,il _,rfl,fF.out,cQ.out,(Array.getElem?_eq_some_iff.1 fF.out).1⟩
 case round=>
  obtain⟨k,aA,rfl,cj,ad,mW⟩:=hrel;have fF:=I cj;have ay:=I ad;clear cj ad;by_cases bV:k<N
  ·have eM:k<xs.length:=by rw[bU.out];exact bV
   obtain⟨b,v',gz⟩:∃b,c7=U ⟨b,0,J⟩∧wr.cell? ⟨b,k,J⟩=U (.int .u32 (xs[k]:Nat)):=by
    rcases jh.out with ⟨aa,ae⟩ | ⟨b,cap,aa,ae,aJ,bQ⟩
    ·rw[ae] at eM;simp at eM
    ·injection aa with aH _ _;refine⟨b,aH,?_⟩;rw[ay.out.cell (p:=⟨b,k,J⟩) (by have:=ly.out;show b<_;omega)];exact bQ k _ (eE eM)
   subst v';have Xe:=b9.out xs[k] (jc _);have Xf:o.num (xs.take k)<4294967296^k:=by
    have:=o.x4 (xs.take k) (fun y aW=>b9.out y (qb aW));rwa[gN,h2 (by omega)] at this
   have jj:o.num (xs.take (k+1))=o.num (xs.take k)+4294967296^k*xs[k]:=by
    rw[kc eM,o.x5,gN,h2 (by omega)]
   obtain⟨x,hx⟩:∃x,xs[k]=x:=⟨_,rfl⟩;rw[hx] at gz Xe jj;obtain⟨s1,s2,jk,h'⟩:=o.ail (whole:=eg) (part:=h8) rfl Xf Xe FY;rw[←wm.out] at s1 s2;rw[←jj] at s2;obtain⟨V,cA⟩:∃V,o.num (xs.take k)*2^cz=V:=⟨_,rfl⟩;rw[cA] at s1 s2 fF;obtain⟨s,QZ⟩:∃s,x*2^h8=s:=⟨_,rfl⟩;rw[QZ] at s2 jk h';obtain⟨a,aS⟩:∃a,V/4294967296^(eg+k)=a:=⟨_,rfl⟩;have ej:(x:Int)*2^h8=(s:Int):=by rw[←QZ];simp
   have jl:eg+k<n:=by have:=nI.out;omega
   have hd:eg+k+1<n:=by have:=nI.out;omega
   have Ks:a<4294967296:=by
    have fE:2^h8≤2^31:=dB (by decide) (by omega);have Kr:(2:Nat)^31=2147483648:=by decide
    omega
   have Xg:wr.cell? ⟨g,eg+k,J⟩=U (.int .u32 (a:Nat)):=by
    simp[World.cell?,fF.out,hg,o.ec,jl,aS];omega
   have awL:wr.frozen? ⟨g,eg+k,J⟩=ab:=by simp[World.frozen?,fF.out]
   have Xh:=I (fun j=>o.aii FY s1 jk h' j);have qz:=I (aij FY (by rw[aS] at s1;exact s1) (show s%4294967296<4294967296 by omega) (by
    have aa:2^h8*2^(32-h8)=4294967296:=by rw[←cm,show h8+(32-h8)=32 by omega]
    obtain⟨q,aE⟩:=r8 h';rw[aE,←aa,NA,N7]))
   have jm:=I s2;obtain⟨lz,su⟩:∃lz,a+s%4294967296=lz:=⟨_,rfl⟩;obtain⟨t,bn⟩:∃t,s/4294967296=t:=⟨_,rfl⟩;have gU:bits .or .u32 (a:Int) ((s:Int)%4294967296)=(lz:Int):=by have:=qz.out;rw[su] at this;rw[←this];simp
   have awM:(s:Int)/4294967296=(t:Int):=by omega
   have mX:=I (show hg (o.ec n (o.num (xs.take (k+1))*2^cz))=((hg (o.ec n V)).setIfInBounds (eg+k) (.int .u32 (lz:Nat))).setIfInBounds (eg+k+1) (.int .u32 (t:Nat)) by
    rw[jm.out];unfold hg;apply Array.toList_inj.1;apply s7
    ·simp[o.ec]
    ·intro i aa ae;simp only[Bw,I4,xq,o.ec,zj];rw[Xh.out];by_cases e:i=eg+k
     ·subst e;rw[ba rfl,aU (by omega),ba rfl,aS,su]
     ·rw[aU e];by_cases aT:i=eg+k+1
      ·subst aT;rw[ba rfl,ba rfl,bn]
      ·rw[aU aT,aU (fun h=>aT h.symm),aU (fun h=>e h.symm)])
   obtain⟨y,Xi⟩:∃y:Nat,wr.cell? ⟨g,eg+k+1,J⟩=U (.int .u32 (y:Nat)):=⟨V/4294967296^(eg+k+1)%4294967296,by simp[World.cell?,fF.out,hg,o.ec,hd]⟩;have gO:wr.frozen? ⟨g,eg+k+1,J⟩=ab:=by simp[World.frozen?,fF.out]
   clear s1 s2 h' QZ jj Xf hx cA aS su bn qz Xh jm;go_wp2_with fail;have n8:((wr.setCell ⟨g,eg+k,J⟩ (.int .u32 (lz:Nat))).setCell ⟨g,eg+k+1,J⟩ (.int .u32 (t:Nat))).heap[g]? = U (.cells (hg (o.ec n (o.num (xs.take (k+1))*2^cz))) 96):=by
    rw[mX.out];simp only[World.setCell,lp,ba,fF.out];rfl
   have dP:ah g w ((wr.setCell ⟨g,eg+k,J⟩ (.int .u32 (lz:Nat))).setCell ⟨g,eg+k+1,J⟩ (.int .u32 (t:Nat))):=(ay.out.setCell (p:=⟨g,eg+k,J⟩) (aC g) _).setCell (p:=⟨g,eg+k+1,J⟩) (aC g) _;have eL:g<((wr.setCell ⟨g,eg+k,J⟩ (.int .u32 (lz:Nat))).setCell ⟨g,eg+k+1,J⟩ (.int .u32 (t:Nat))).heap.size:=by simp[World.setCell];exact mW
   go_roundw;case rel=>exact⟨k+1,by omega,by go_num,n8,dP,eL⟩
   case measure=>simp[RowKit.intOf];omega
  ·obtain rfl:k=N:=by omega
   rw[fp (by rw[bU.out];exact aC _)] at fF;have eX:b2 wr (.slice (U ⟨g,0,J⟩) n n) (o.ec n (o.num xs*2^cz)):=by
    refine .inr ⟨g,n,by rw[o.wj],by rw[o.wj];exact aC _,mW,fun j y aW=>?_⟩;simp only[World.cell?,fF.out,hg];simp[aW]
   have bc:=I (qv _ _ wr eX (by rw[o.wj];omega));have eY:=I (show ah w.heap.size w wr from by rw[ly.out];exact ay.out);clear eX bV;go_wp2_with fail;refine bc.out.mono ?_;rintro e w' ⟨dv,rfl,uS,rfl⟩;have ki:=I uS;obtain⟨a,b,c,rfl⟩:∃a b c,dv=.slice a b c:=by
    rcases uS with ⟨aa,_⟩ | ⟨_,_,aa,_⟩
    ·exact⟨_,_,_,aa⟩
    ·exact⟨_,_,_,aa⟩
   clear uS;go_wp2;go_ret;exact⟨_,rfl,ki.out,eY.out⟩
def o.shl (l:List UInt8) (k:Nat):List Nat:=o.gh (o.ec (k/32+(l.length+3)/4+1) (o.num (o.words ((l.length+3)/4) l)*2^k))
def F2 (w:af) (neg:Bool) (xs:List Nat) (e:jA) (w':af):Prop:=
 e=.returned (.tuple #[cO (neg && !(o.bytesOf xs).isEmpty) (o.bytesOf xs),.int .i64 0])∧ah w.heap.size w w'
theorem na {w:af} {v:aw} {xs:List Nat} (h:b2 w v xs):∃a b c,v=.slice a b c:=by
 rcases h with ⟨aa,_⟩ | ⟨_,_,aa,_⟩
 ·exact⟨_,_,_,aa⟩
 ·exact⟨_,_,_,aa⟩
theorem x9 {xs:List Nat} {x:Nat} (h:x ∈ o.gh xs):x ∈ xs:=by
 have ae:o.gh xs <+: xs:=by
  unfold o.gh;have:=xj (fun x:Nat=>x==0) (l:=xs.reverse);rw[←NF];simpa using this
 exact ae.mem h
theorem Ae (xs:List Nat):(o.gh xs).length≤xs.length:=by
 have:(xs.reverse.dropWhile (· == 0)).length≤xs.reverse.length:=(xj _).length_le;unfold o.gh;simp at this ⊢;omega
structure uX (w W:af) (neg:Bool) (s:ByteArray):Prop where
 a:W.heap[w.heap.size]? = U (.cells #[.bool neg,.string s] 46)
 b:W.heap[w.heap.size+1]? = U (.cells #[.bool ab,.string ⟨#[]⟩] 46)
 low:ah w.heap.size w W
 size:w.heap.size+2≤W.heap.size
theorem uX.new (w:af) (neg:Bool) (s:ByteArray):uX w ((w.alloc (.cells #[.bool neg,.string s] 46)).alloc (.cells #[.bool ab,.string ⟨#[]⟩] 46)) neg s:=by
 refine⟨?_,?_,((aK _ _).alloc (aC _) _).alloc (by simp) _,by simp⟩
 ·rw[EC _ _ _ (by simp)];exact fX _ _
 ·have:=fX (w.alloc (.cells #[.bool neg,.string s] 46)) (.cells #[.bool ab,.string ⟨#[]⟩] 46);simpa using this
theorem uX.below {w W bW:af} {neg:Bool} {s:ByteArray} (h:uX w W neg s) (az:ah W.heap.size W bW):uX w bW neg s:=by
 have a1:=h.size;exact⟨by rw[az.block _ (by omega)];exact h.a,by rw[az.block _ (by omega)];exact h.b,h.low.trans (az.mono (by omega)),cp a1 az.size⟩
theorem uX.cells {w W:af} {neg:Bool} {s:ByteArray} (h:uX w W neg s):W.cell? ⟨w.heap.size,0,J⟩=U (.bool neg)∧W.cell? ⟨w.heap.size,1,J⟩=U (.string s)∧W.cell? ⟨w.heap.size+1,0,J⟩=U (.bool ab)∧W.cell? ⟨w.heap.size+1,1,J⟩=U (.string ⟨#[]⟩)∧W.frozen? ⟨w.heap.size+1,0,J⟩=ab∧W.frozen? ⟨w.heap.size+1,1,J⟩=ab:=by
 refine⟨?_,?_,?_,?_,?_,?_⟩
 ·simp[World.cell?,h.a]
 ·simp[World.cell?,h.a]
 ·simp[World.cell?,h.b]
 ·simp[World.cell?,h.b]
 ·simp[World.frozen?,h.b]
 ·simp[World.frozen?,h.b]
theorem Rf (neg:Bool) (l:List UInt8) (k:Nat) (w:af) (ao:l.length≤4096) (an:o.uO neg l=0) (aA:k≤32768) (a1:(o.bytesOf (o.shl l k)).length≤4096) :
 aq ak 41 #[cO neg l,.int .i64 k] w (F2 w neg (o.shl l k)):=by
 have bJ:=I (fun w=>Cw neg l w (by omega));rw[an] at bJ;have bF:=I (fun w=>Kp neg l w ao);have kG:∀x ∈ o.words ((l.length+3)/4) l,x<4294967296:=fun x hx=>by
  obtain⟨j,_,rfl⟩:=List.mem_map.1 hx;exact o.word_lt l j
 have cD:=I (fun v w (h:b2 w v (o.words ((l.length+3)/4) l))=>QY v _ k w h (by rw[o.wh];omega) kG (by omega));rw[o.wh] at cD;have bc:=I (fun v w (h:b2 w v (o.shl l k))=>Kh v (o.shl l k) neg w h (by
  unfold o.shl;refine cp (Ae _) ?_;rw[o.wj];omega) (fun x hx=>o.z7 (x9 hx)) a1)
 have nJ:Hid (∀v w,b2 w v (o.words ((l.length+3)/4) l)→aq ak 74 #[v,.int .u64 k] w fun e w'=>∃dv,e=.returned dv∧b2 w' dv (o.shl l k)∧ah w.heap.size w w'):=I (fun v w h=>cD.out v w h);clear cD an kG a1;unfold cO at *;generalize ax l=s at *;go_enter func41,Pt;go_wp2_with fail;refine (bJ.out _).mono ?_;rintro e cq ⟨rfl,gT⟩;have tE:=I ((uX.new w neg s).below gT);obtain⟨g0,g1,_,_,_,_⟩:=tE.out.cells;clear gT;go_wp2_with fail;refine (bF.out _).mono ?_;rintro e aP ⟨v,rfl,eX,dP⟩;have x':=I (tE.out.below dP);have jh:=I eX;obtain⟨c7,o9,fj,rfl⟩:∃a b c,v=.slice a b c:=by
  rcases eX with ⟨aa,_⟩ | ⟨_,_,aa,_⟩
  ·exact⟨_,_,_,aa⟩
  ·exact⟨_,_,_,aa⟩
 clear dP eX tE;clear g0 g1;have gv:decide ((k:Int) < -32768)=ab:=bx (by omega);have gq:decide (32768<(k:Int))=ab:=bx (by omega);go_wp2_with fail;obtain⟨C,hC⟩:∃C,aP.heap.size=C:=⟨_,rfl⟩;obtain⟨aZ,bl⟩:∃aZ,aP.alloc (.cells #[.slice c7 o9 fj,.bool neg] 85)=aZ:=⟨_,rfl⟩;have hf:ah aP.heap.size aP aZ:=by rw[←bl];exact (aK _ _).alloc (aC _) _
 have wo:=I (x'.out.below hf);have ya:=I (jh.out.below hf);have aB:aZ.heap[C]? = U (.cells #[.slice c7 o9 fj,.bool neg] 85):=by rw[←bl,←hC];exact fX _ _
 have kj:aZ.cell? ⟨C,0,J⟩=U (.slice c7 o9 fj):=by simp[World.cell?,aB]
 have dE:aZ.cell? ⟨C,1,J⟩=U (.bool neg):=by simp[World.cell?,aB]
 have CF:C<aZ.heap.size:=(Array.getElem?_eq_some_iff.1 aB).1;rw[hC,bl];clear hf aB bl hC jh x';obtain⟨B,o7⟩:∃B,w.heap.size+1=B:=⟨_,rfl⟩;rw[o7];have tz:=I o7;clear o7;have Rg:IntKind.u64.wrap (k:Int)=(k:Int):=pA (by omega);go_region_with (first | (go_at_call 74;refine (nJ.out _ _ (by exact ya.out)).mono ?_;rintro e aQ ⟨v4,rfl,nb,Xt⟩;have j2:ah aZ.heap.size aZ aQ:=(aK _ aZ).drew.trans Xt;clear Xt;obtain⟨cZ,cT,gR,rfl⟩:=na nb;have m1:aQ.cell? ⟨C,1,J⟩=U (.bool neg):=(by rw[j2.cell (p:=⟨C,1,J⟩) CF];exact dE)) | (go_at_call 57;refine (bc.out _ _ nb).mono ?_;rintro e cf ⟨rfl,xX⟩;have Af:=I ((wo.out.below j2).below xX);obtain⟨_,_,cl,bH,f0,f1⟩:=Af.out.cells;rw[tz.out] at cl bH f0 f1;unfold cO));all_goals
  obtain⟨aM,aG,gw⟩:=mo cf B (.bool (neg && !(o.bytesOf (o.shl l k)).isEmpty)) (.string (ax (o.bytesOf (o.shl l k)))) cl bH;have iV:=Af.out.low.trans (gw.mono (by have:=tz.out;omega));clear cl bH f0 f1;go_wp2;refine bI (v:=.tuple #[.agg #[.bool (neg && !(o.bytesOf (o.shl l k)).isEmpty),.string (ax (o.bytesOf (o.shl l k)))],.int .i64 0]) (by simp[results,EK,go_sem,aM,aG]) rfl ⟨rfl,iV⟩
namespace o
def dI (xs:List Nat):Prop:=∀x ∈ xs,x<4294967296
theorem dI.take {xs:List Nat} (h:dI xs) (k:Nat):dI (xs.take k):=fun x hx=>h x (qb hx)
theorem dI.drop {xs:List Nat} (h:dI xs) (k:Nat):dI (xs.drop k):=fun x hx=>h x (List.mem_of_mem_drop hx)
theorem dI.set {xs:List Nat} (h:dI xs) (k:Nat) {v:Nat} (aD:v<4294967296):dI (xs.set k v):=fun x hx=>by
 rcases List.mem_or_eq_of_mem_set hx with aa | aa
 ·exact h x aa
 ·rw[aa];exact aD
theorem z8 (n:Nat):dI (List.replicate n 0):=fun x hx=>by rw[(List.mem_replicate.1 hx).2];decide
theorem FZ (n:Nat):num (List.replicate n 0)=0:=by
 induction n with
 | zero=>rfl
 | succ n dw=>rw[List.replicate_succ,num,dw]
theorem n9 {xs:List Nat} (h:dI xs):num xs<4294967296^xs.length:=x4 xs h
theorem CD:∀(xs:List Nat) (k v:Nat),k<xs.length→num (xs.set k v)+4294967296^k*xs.getD k 0=num xs+4294967296^k*v
 | [],k,v,h=>by simp at h
 | x::xs,0,v,_=>by simp[num];omega
 | x::xs,k+1,v,h=>by
   have dw:=CD xs k v (by simpa using h);rw[List.set_cons_succ,num,num,List.getD_cons_succ,ei];have aH:4294967296^k*4294967296*xs.getD k 0=4294967296*(4294967296^k*xs.getD k 0):=by ac_rfl
   have aT:4294967296^k*4294967296*v=4294967296*(4294967296^k*v):=by ac_rfl
   rw[aH,aT];omega
theorem mY (xs:List Nat) (k:Nat):num (xs.take (k+1))=num (xs.take k)+4294967296^k*xs.getD k 0:=by
 by_cases h:k<xs.length
 ·rw[kc h,x5,gN,h2 (by omega),e5,eE h];rfl
 ·rw[fp (by omega),fp (by omega),e5,zf (by omega)];simp
theorem ia {xs:List Nat} (h:dI xs) (k:Nat):xs.getD k 0<4294967296:=by
 rw[e5];by_cases aA:k<xs.length
 ·rw[eE aA];exact h _ (jc aA)
 ·rw[zf (by omega)];decide
def n' (xs:List Nat):Prop:=xs=[]∨∃l c,xs=l++[c]∧c≠0
theorem aim (xs:List Nat):n' (gh xs):=by
 have key:∀l:List Nat,n' (l.dropWhile (· == 0)).reverse:=by
  intro l;induction l with
  | nil=>exact .inl rfl
  | cons a l dw=>
    by_cases h:a=0
    ·subst h;simpa using dw
    ·have:(a::l).dropWhile (· == 0)=a::l:=by simp[h]
     rw[this];exact .inr ⟨l.reverse,a,by simp,h⟩
 exact key xs.reverse
theorem ain {xs:List Nat} (h:dI xs):dI (gh xs):=by
 intro x hx;unfold gh at hx;rw[N'] at hx;exact h x (by have:=(xj _).mem hx;simpa using this)
theorem Xj:∀{a b:List Nat},dI a→dI b→n' a→n' b→num a=num b→a=b:=by
 have pos:∀{a:List Nat},n' a→a≠[]→0<num a:=by
  intro a h ar;rcases h with h | ⟨l,c,rfl,an⟩
  ·exact absurd h ar
  ·rw[x5];have:=lM (dK (n:=l.length) (show 0<4294967296 by decide)) (Nat.pos_iff_ne_zero.2 an);omega
 have z':∀{x:Nat} {a:List Nat},n' (x::a)→n' a:=by
  intro x a h;rcases h with h | ⟨l,c,h,an⟩
  ·cases h
  ·cases l with
   | nil=>simp at h;exact .inl h.2
   | cons y l=>simp at h;exact .inr ⟨l,c,h.2,an⟩
 intro a;induction a with
 | nil=>
   intro b _ _ _ ad e;by_cases h:b=[]
   ·exact h.symm
   ·have:=pos ad h;rw[←e] at this;simp[num] at this
 | cons x a dw=>
   intro b aS ad Q0 Kt e;cases b with
   | nil=>have:=pos Q0 (by simp);rw[e] at this;simp[num] at this
   | cons y b=>
     have hx:=aS x (by simp);have aW:=ad y (by simp);simp only[num] at e;have aH:x=y:=by omega
     have aT:num a=num b:=by omega
     rw[aH,dw (fun z aX=>aS z (by simp[aX])) (fun z aX=>ad z (by simp[aX])) (z' Q0) (z' Kt) aT]
theorem Ku (V:Nat):∃xs,dI xs∧n' xs∧num xs=V:=by
 induction V using Nat.strongRecOn with
 | _ V dw=>
   by_cases ar:V=0
   ·exact⟨[],fun x hx=>by simp at hx,.inl rfl,ar.symm⟩
   ·obtain⟨xs,aa,ae,aJ⟩:=dw (V/4294967296) (by omega);refine⟨V%4294967296::xs,?_,?_,?_⟩
    ·intro x hx;rcases List.mem_cons.1 hx with hx | hx
     ·rw[hx];exact eW _ (by decide)
     ·exact aa x hx
    ·rcases ae with ae | ⟨l,c,ae,an⟩
     ·subst ae;simp[num] at aJ;exact .inr ⟨[],V%4294967296,by simp,by omega⟩
     ·exact .inr ⟨V%4294967296::l,c,by rw[ae];rfl,an⟩
    ·rw[num,aJ];omega
noncomputable def wd (V:Nat):List Nat:=Classical.choose (Ku V)
theorem fa (V:Nat):dI (wd V):=(IN (Ku V)).1
theorem uT (V:Nat):n' (wd V):=(IN (Ku V)).2.1
theorem eA (V:Nat):num (wd V)=V:=(IN (Ku V)).2.2
theorem tC {xs:List Nat} {V:Nat} (h:dI xs) (e:num xs=V):gh xs=wd V:=Xj (ain h) (fa V) (aim xs) (uT V) (by rw[Ct,e,eA])
theorem Kv {xs:List Nat} {V:Nat} (h:dI xs) (t:n' xs) (e:num xs=V):xs=wd V:=Xj h (fa V) t (uT V) (by rw[e,eA])
end o
end Go.Proofs.YtkhphoonnkoipaaGreatDoor
namespace Go.Proofs.YtkhphoonnkoipaaGreatDoor.o
theorem Q1 (P s:Nat):P*(s%4294967296)+P*4294967296*(s/4294967296)=P*s:=by
 rw[cE,←fP];congr 1;omega
theorem aio {xs ys zs:List Nat} {k c:Nat} (aA:k<zs.length) (ar:zs.getD k 0=0) (h:num zs+4294967296^k*c=num (xs.take k)+num (ys.take k)) :
 num (zs.set k ((xs.getD k 0+ys.getD k 0+c)%4294967296))+4294967296^(k+1)*((xs.getD k 0+ys.getD k 0+c)/4294967296)=num (xs.take (k+1))+num (ys.take (k+1)):=by
 have aa:=CD zs k ((xs.getD k 0+ys.getD k 0+c)%4294967296) aA;rw[ar,oQ,jd] at aa;have ae:=Q1 (4294967296^k) (xs.getD k 0+ys.getD k 0+c);rw[mY,mY,aa,ei];rw[fP,fP] at ae;omega
theorem aip {xs ys zs:List Nat} {k b d b':Nat} (aA:k<zs.length) (ar:zs.getD k 0=0) (h:num zs+num (ys.take k)=num (xs.take k)+4294967296^k*b) (aL:xs.getD k 0+4294967296*b'=d+ys.getD k 0+b) :
 num (zs.set k d)+num (ys.take (k+1))=num (xs.take (k+1))+4294967296^(k+1)*b':=by
 have aa:=CD zs k d aA;rw[ar,oQ,jd] at aa;have ae:=eS (4294967296^k * ·) aL;simp only[fP] at ae;rw[mY,mY,aa,ei,cE];omega
theorem aiq {ys zs:List Nat} {i k a c V:Nat} (aA:i+k<zs.length) (h:num zs+4294967296^(i+k)*c=V+4294967296^i*(a*num (ys.take k))) :
 num (zs.set (i+k) ((a*ys.getD k 0+zs.getD (i+k) 0+c)%4294967296))+4294967296^(i+(k+1))*((a*ys.getD k 0+zs.getD (i+k) 0+c)/4294967296)=V+4294967296^i*(a*num (ys.take (k+1))):=by
 have aa:=CD zs (i+k) ((a*ys.getD k 0+zs.getD (i+k) 0+c)%4294967296) aA;have ae:=Q1 (4294967296^(i+k)) (a*ys.getD k 0+zs.getD (i+k) 0+c);rw[fP,fP] at ae;rw[mY,←nW i k 1,ei];have e:4294967296^i*(a*(num (ys.take k)+4294967296^k*ys.getD k 0))=4294967296^i*(a*num (ys.take k))+4294967296^(i+k)*(a*ys.getD k 0):=by
  rw[cm,fP,fP];congr 1;ac_rfl
 rw[e];omega
theorem Xk {a y z c:Nat} (aS:a<4294967296) (aW:y<4294967296) (aX:z<4294967296) (an:c<4294967296):a*y+z+c<18446744073709551616∧(a*y+z+c)/4294967296<4294967296:=by
 have aa:a*y≤4294967295*4294967295:=kz (by omega) (by omega);have ae:4294967295*4294967295=18446744065119617025:=rfl;omega
theorem Aa (xs:List Nat) (k:Nat) (h:k<xs.length):num (xs.drop k)=xs.getD k 0+4294967296*num (xs.drop (k+1)):=by
 rw[xh h,num,e5,eE h];rfl
theorem air {q r x y Q X:Nat} (h:X=Q*y+r):(x+4294967296*X)=((r*4294967296+x)/y+4294967296*Q)*y+(r*4294967296+x)%y∧q=q:=by
 refine⟨?_,rfl⟩;have e:=ky (r*4294967296+x) y;rw[h,ff,fP];have aT:4294967296*(Q*y)=4294967296*Q*y:=by rw[cE]
 rw[dx y] at e;omega
theorem Q2 {a b:List Nat} (aS:dI a) (Kt:n' b) (h:a.length<b.length):num a<num b:=by
 rcases Kt with rfl | ⟨l,c,rfl,an⟩
 ·simp at h
 ·have aa:=n9 aS;rw[x5];rw[ey,pr] at h;have ae:4294967296^a.length≤4294967296^l.length:=dB (by decide) (by omega);have aJ:4294967296^l.length*1≤4294967296^l.length*c:=gp _ (by omega);omega
theorem Xl {a b:List Nat} (aS:dI a) {k:Nat} (ao:a.length=b.length) (aA:k<a.length) (he:a.drop (k+1)=b.drop (k+1)) (h:a.getD k 0<b.getD k 0):num a<num b:=by
 have key:∀xs:List Nat,k≤xs.length→num xs=num (xs.take k)+4294967296^k*num (xs.drop k):=by
  intro xs hx;have:=xW (xs.take k) (xs.drop k);rw[xi,gN,h2 hx] at this;exact this
 rw[key a (by omega),key b (by omega),Aa a k aA,Aa b k (by omega),he];have aa:=n9 (aS.take k);rw[gN,h2 (by omega)] at aa;have ae:4294967296^k*(a.getD k 0+1)≤4294967296^k*b.getD k 0:=gp _ h;rw[fP,fI] at ae;rw[fP,fP];omega
end Go.Proofs.YtkhphoonnkoipaaGreatDoor.o
namespace Go.Proofs.YtkhphoonnkoipaaGreatDoor
def fc (w:af) (g:Nat) (zs:List Nat):Prop:=w.heap[g]? = U (.cells (hg zs) 96 (0,0))
theorem fc.cell {w:af} {g:Nat} {zs:List Nat} (h:fc w g zs) {k:Nat} (aA:k<zs.length):w.cell? ⟨g,k,J⟩=U (.int .u32 (zs.getD k 0:Nat)):=by
 unfold World.cell?;rw[show w.heap[g]? = _ from h];simp[hg,e5,eE aA]
theorem fc.free {w:af} {g:Nat} {zs:List Nat} (h:fc w g zs) (k:Nat):w.frozen? ⟨g,k,J⟩=ab:=by
 unfold World.frozen?;rw[show w.heap[g]? = _ from h];simp
theorem fc.lt {w:af} {g:Nat} {zs:List Nat} (h:fc w g zs):g<w.heap.size:=(Array.getElem?_eq_some_iff.1 h).1
theorem fc.set {w:af} {g:Nat} {zs:List Nat} (h:fc w g zs) (k v:Nat):fc (w.setCell ⟨g,k,J⟩ (.int .u32 (v:Nat))) g (zs.set k v):=by
 unfold fc;simp only[World.setCell,lp,ba,show w.heap[g]? = U (.cells (hg zs) 96 (0,0)) from h];have e:(hg zs).setIfInBounds k (.int .u32 (v:Nat))=hg (zs.set k v):=by
  unfold hg;apply Array.toList_inj.1;rw[Bw];simp[Ps]
 rw[←e];rfl
theorem fc.other {w:af} {g b k:Nat} {zs:List Nat} {v:aw} (h:fc w g zs) (dT:b≠g):fc (w.setCell ⟨b,k,J⟩ v) g zs:=by
 unfold fc;simp only[World.setCell,lp,aU dT];exact h
theorem fc.rd {w:af} {g cap:Nat} {zs:List Nat} (h:fc w g zs) (an:zs.length≤cap):b2 w (.slice (U ⟨g,0,J⟩) zs.length cap) zs:=
 .inr ⟨g,cap,rfl,an,h.lt,fun j x hx=>by
  obtain⟨bP,e⟩:=List.getElem?_eq_some_iff.1 hx;rw[h.cell bP,e5,hx];rfl⟩
theorem b2.len {w:af} {v:aw} {xs:List Nat} (h:b2 w v xs):∃a c,v=.slice a xs.length c:=by
 rcases h with ⟨aa,ae⟩ | ⟨b,cap,aa,_⟩
 ·exact⟨J,0,by rw[aa,ae];rfl⟩
 ·exact⟨_,_,aa⟩
theorem b2.at {w:af} {a:Option Addr} {n c:Nat} {xs:List Nat} (h:b2 w (.slice a n c) xs) {k:Nat} (aA:k<xs.length):∃b,a=U ⟨b,0,J⟩∧b<w.heap.size∧w.cell? ⟨b,k,J⟩=U (.int .u32 (xs.getD k 0:Nat)):=by
 rcases h with ⟨aa,ae⟩ | ⟨b,cap,aa,ae,aJ,bQ⟩
 ·rw[ae] at aA;simp at aA
 ·injection aa with aH _ _;refine⟨b,aH,aJ,?_⟩;have:=bQ k _ (eE aA);rw[this,e5,eE aA];rfl
theorem Xn (x y c d c':Nat) (w:af) (hx:x<4294967296) (aW:y<4294967296) (an:c≤1) (aL:(x+y+c)%4294967296=d) (iS:(x+y+c)/4294967296=c') :
 aq ak 136 #[.int .u32 x,.int .u32 y,.int .u32 c] w fun e w'=>e=.returned (.tuple #[.int .u32 d,.int .u32 c'])∧w=w':=by
 go_enter func136,ntmps136;go_wp2;go_ret2;refine⟨?_,rfl⟩;have aH:((x:Int)+(y:Int)+(c:Int))%4294967296=(d:Int):=by omega
 have aT:((x:Int)+(y:Int)+(c:Int))/4294967296=(c':Int):=by omega
 rw[aH,aT];rfl
def x6 (w:af) (V:Nat) (e:jA) (w':af):Prop:=∃v,e=.returned v∧b2 w' v (o.wd V)∧ah w.heap.size w w'
theorem b2.form {w:af} {v:aw} {xs:List Nat} (h:b2 w v xs):∃a c,v=.slice a xs.length c:=h.len
theorem x7 {w cq:af} {g n:Nat} (b6:cq.ownsRow w.heap.size 96 1 (.slice (U ⟨g,0,J⟩) n n) n (madeCells #[Value.int .u32 0] n).toList):fc cq g (List.replicate n 0):=by
 have h:=Kn b6;rw[Ko] at h;have e:o.words n []=List.replicate n 0:=by
  apply s7
  ·simp[o.words]
  ·intro i aa ae;simp[o.words,o.word,o.le]
 rw[e] at h;exact h
theorem Xo (e6 fz:aw) (xs ys:List Nat) (w:af) (hx:b2 w e6 xs) (aW:b2 w fz ys) (rv:xs.length≤3000) (ry:ys.length≤3000) (hJ:o.dI xs) (rz:o.dI ys) :
 aq ak 76 #[e6,fz] w (x6 w (o.num xs+o.num ys)):=by
 obtain⟨i0,aV,eo,eP,eL⟩:=oU sr;obtain⟨cx,ct,rfl⟩:=hx.form;obtain⟨eB,eC,rfl⟩:=aW.form;rcases eh xs.length ys.length with hle | hle;case' inl=>
  obtain⟨iw,rfl⟩:∃l,l=xs:=⟨_,rfl⟩;obtain⟨fk,rfl⟩:∃l,l=ys:=⟨_,rfl⟩;obtain⟨Q4,rfl⟩:∃l,l=cx:=⟨_,rfl⟩;obtain⟨Kx,rfl⟩:∃l,l=eB:=⟨_,rfl⟩;obtain⟨Q5,rfl⟩:∃l,l=ct:=⟨_,rfl⟩;obtain⟨Ky,rfl⟩:∃l,l=eC:=⟨_,rfl⟩;have b9:=I aW;have hi:=I hx;have sv:=I rz;have uU:=I hJ;have Q6:=ry;have Q7:=rv;clear hx aW hJ rz rv ry;obtain⟨V,cA⟩:∃V,o.num fk+o.num iw=V:=⟨_,rfl⟩;rw[jv,cA];obtain⟨n,aB⟩:∃n,fk.length=n:=⟨_,rfl⟩;obtain⟨m,hm⟩:∃m,iw.length=m:=⟨_,rfl⟩;rw[aB] at Q6 b9;rw[hm] at Q7 hi;rw[aB,hm] at hle;rw[aB,hm];have nZ:m≤n:=by omega
 case' inr=>
  obtain⟨fk,rfl⟩:∃l,l=xs:=⟨_,rfl⟩;obtain⟨iw,rfl⟩:∃l,l=ys:=⟨_,rfl⟩;obtain⟨Kx,rfl⟩:∃l,l=cx:=⟨_,rfl⟩;obtain⟨Q4,rfl⟩:∃l,l=eB:=⟨_,rfl⟩;obtain⟨Ky,rfl⟩:∃l,l=ct:=⟨_,rfl⟩;obtain⟨Q5,rfl⟩:∃l,l=eC:=⟨_,rfl⟩;have b9:=I hx;have hi:=I aW;have sv:=I hJ;have uU:=I rz;have Q6:=rv;have Q7:=ry;clear hx aW hJ rz rv ry;obtain⟨V,cA⟩:∃V,o.num fk+o.num iw=V:=⟨_,rfl⟩;rw[cA];obtain⟨n,aB⟩:∃n,fk.length=n:=⟨_,rfl⟩;obtain⟨m,hm⟩:∃m,iw.length=m:=⟨_,rfl⟩;rw[aB] at Q6 b9;rw[hm] at Q7 hi;rw[aB,hm] at hle;rw[aB,hm];have nZ:m≤n:=by omega
 all_goals
  have bU:=I aB;have di:=I hm;have cM:=I cA;clear aB hm cA;go_enter func76,ntmps76;go_wp2_with (at_make;refine s8 _ rfl _ _ 83 rfl w.heap.size 96 i0 (.int .u32 0) 1 qd aV eo eP .i64 .i64 _ _ (n+1) rfl rfl (by omega) (by omega) (by rw[eL];omega) (by unfold maxLen;omega) (by simp) ?_);intro cq h7 gm;obtain⟨g,eT⟩:∃g,w.heap.size=g:=⟨_,rfl⟩;have cj:=x7 h7;rw[eT] at cj ⊢;have cQ:=I (show ah g w cq from (aK _ _).grown gm (by omega) (fun k aA=>by cases aA));have fF:=I cj;have ly:=I eT;clear h7 gm aV eo eP eL cj eT;go_wp2;go_loopw [6,22] (fun c i wr=>∃(k df:Nat) (zs:List Nat),k≤n∧df≤1∧c=.int .u32 df∧i=.int .i64 k∧fc wr g zs∧zs.length=n+1∧o.dI zs∧(∀j,k≤j→zs.getD j 0=0)∧Hid (o.num zs+4294967296^k*df=o.num (fk.take k)+o.num (iw.take k))∧ah g w wr) (fun _ i _=>n-(RowKit.intOf i).toNat);case atStart=>exact⟨0,0,List.replicate (n+1) 0,il _,by omega,rfl,rfl,fF.out,by simp,o.z8 _,fun j _=>by simp[e5,Nt];split<;>rfl,I (by rw[o.FZ];simp[o.num]),cQ.out⟩
  case round=>
   obtain⟨k,df,zs,aA,mj,rfl,rfl,cj,eH,f',eo,jj,ad⟩:=hrel;have ay:=I ad;have lV:=I eH;have mZ:=I f';have mq:=I eo;have pN:=I cj;by_cases bV:k<n
   ·have hU:k<zs.length:=by rw[eH];omega
    have gz:=cj.cell hU;have lA:=cj.free k;obtain⟨pP,Ab,Ac,fO⟩:=b9.out.at (k:=k) (by rw[bU.out];exact bV);have Ad:wr.cell? ⟨pP,k,J⟩=U (.int .u32 (fk.getD k 0:Nat)):=by
     rw[ay.out.cell (p:=⟨pP,k,J⟩) (by have:=ly.out;show pP<_;omega)];exact fO
    subst Ab;clear cj eH f' eo ad fO Ac;have gH:=o.ia sv.out k;have kk:=I (fun (ar:zs.getD k 0=0)=>o.aio (xs:=fk) (ys:=iw) (zs:=zs) (k:=k) (c:=df) hU ar jj.out);obtain⟨x,hx⟩:∃x,fk.getD k 0=x:=⟨_,rfl⟩;rw[hx] at Ad gH kk;obtain⟨y,aW⟩:∃y,iw.getD k 0=y:=⟨_,rfl⟩;have o4:y<4294967296:=by rw[←aW];exact o.ia uU.out k
    rw[aW] at kk;obtain⟨d,aL⟩:∃d,(x+y+df)%4294967296=d:=⟨_,rfl⟩;obtain⟨c',iS⟩:∃c',(x+y+df)/4294967296=c':=⟨_,rfl⟩;rw[aL,iS] at kk;have lW:=I (fun W=>Xn x y df d c' W gH o4 mj aL iS);have hL:d<4294967296:=by omega
    have lX:c'≤1:=by omega
    have rA:=pN.out.set k d;have hs:=ay.out.setCell (p:=⟨g,k,J⟩) (aC g) (.int .u32 (d:Nat));have uV:=I rA;have bu:=I hs;have lY:=I hx;have F0:=I aW;have aiv:=I hU;clear rA hs hx aW hU jj aL iS gH;by_cases hm:k<m;case' pos=>
     obtain⟨sw,F1,CE,gP⟩:=hi.out.at (k:=k) (by rw[di.out];exact hm);have Q8:wr.cell? ⟨sw,k,J⟩=U (.int .u32 (y:Nat)):=by
      rw[ay.out.cell (p:=⟨sw,k,J⟩) (by have:=ly.out;show sw<_;omega),←F0.out];exact gP
     subst F1;clear gP CE;go_wp2_with fail
    case' neg=>
     have qi:y=0:=by rw[←F0.out,e5,zf (by rw[di.out];omega)];rfl
     subst qi;go_wp2_with fail
    all_goals
     refine (lW.out _).mono ?_;rintro e w' ⟨rfl,rfl⟩;go_wp2;go_roundw;case rel=>
      refine⟨k+1,c',zs.set k d,by omega,lX,rfl,by go_num,uV.out,by rw[mh];exact lV.out,mZ.out.set k hL,fun j bP=>?_,I (kk.out (mq.out k (aC _))),bu.out⟩;rw[e5,NB (by omega),←e5];exact mq.out j (by omega)
     case measure=>simp[RowKit.intOf];omega
   ·obtain rfl:k=n:=by omega
    have hU:k<zs.length:=by rw[eH];omega
    have gz:=cj.cell hU;have lA:=cj.free k;have rA:=cj.set k df;have hs:=ad.setCell (p:=⟨g,k,J⟩) (aC g) (.int .u32 (df:Nat));have Xp:o.dI (zs.set k df):=f'.set k (by omega);have Kz:(zs.set k df).length=k+1:=by rw[mh];exact eH
    have kF:o.num (zs.set k df)=V:=by
     have aa:=o.CD zs k df hU;rw[eo k (aC _),oQ,jd] at aa;rw[aa,jj.out,fp (by rw[bU.out];exact aC _),fp (by rw[di.out];exact nZ)];exact cM.out
    have eX:=rA.rd (cap:=k+1) (by rw[Kz];exact aC _);rw[Kz] at eX;have bc:=I (qv _ _ _ eX (by rw[Kz];omega));have et:=I (o.tC Xp kF);have bu:=I hs;clear cj rA ad hs f' Xp jj eX kF eo bV Kz;go_wp2_with fail;refine bc.out.mono ?_;rintro e w' ⟨dv,rfl,aF,rfl⟩;rw[et.out] at aF;have bG:=I aF;obtain⟨a,c,rfl⟩:=aF.form;clear aF;go_wp2;go_ret;exact⟨_,rfl,bG.out,by rw[ly.out];exact bu.out⟩
theorem aqF (t:ByteArray) (w:af) (q:0<t.size) (a1:t.size≤100000) (aL:48≤(t[0]'q).toNat∧(t[0]'q).toNat≤57) :
 aq ak 295 #[.string t,.string ⟨#[105,110,102,105,110,105,116,121]⟩] w fun e w'=>e=.returned (.int .i64 0)∧w=w':=by
 obtain⟨c,an⟩:∃c,t[0]'q=c:=⟨_,rfl⟩;rw[an] at aL;obtain⟨aa,ae⟩:=aL;have cd:((c.toNat:Int) != ((((⟨#[105,110,102,105,110,105,116,121]⟩:ByteArray)[0]'(by decide)).toNat:Nat):Int))=true:=by rw[kR];show (c.toNat:Int)≠105;omega
 obtain⟨N,cW⟩:∃N,t.size=N:=⟨_,rfl⟩;have lT:0<N:=by omega
 have qt:N≤100000:=by omega
 obtain⟨k,aA⟩:∃k:Int,min 8 (N:Int)=k:=⟨_,rfl⟩;have fx:0<k:=by omega
 go_enter func295,ntmps295;go_wp2_with fail;refine BN 1 ?_;rw[BX];go_wp2;go_ret;exact⟨rfl,rfl⟩
theorem aqG (s:ByteArray) (w:af) (q:0<s.size) (a1:s.size≤100000) (aL:48≤(s[0]'q).toNat∧(s[0]'q).toNat≤57) :
 aq ak 277 #[.string s] w fun e w'=>e=.returned (.tuple #[.float .f64 0,.int .i64 0,.bool ab])∧w=w':=by
 obtain⟨c,an⟩:∃c,s[0]'q=c:=⟨_,rfl⟩;rw[an] at aL;obtain⟨aa,ae⟩:=aL;have cd:((c.toNat:Int)==43)=ab:=by rw[cH];omega
 have cF:((c.toNat:Int)==45)=ab:=by rw[cH];omega
 have fw:((c.toNat:Int)==105)=ab:=by rw[cH];omega
 have lP:((c.toNat:Int)==73)=ab:=by rw[cH];omega
 have aqH:((c.toNat:Int)==110)=ab:=by rw[cH];omega
 have ay1:((c.toNat:Int)==78)=ab:=by rw[cH];omega
 obtain⟨N,cW⟩:∃N,s.size=N:=⟨_,rfl⟩;have kh:((N:Int)==0)=ab:=by rw[cH];omega
 have lT:0<N:=by omega
 go_enter func277,ntmps277;go_wp2;go_ret3;exact⟨rfl,rfl⟩
theorem aqI (s:ByteArray) (w:af) (b0:0<s.size) (q:1<s.size) (a1:s.size≤100000) (ar:s[0]'b0=45) (aL:48≤(s[1]'q).toNat∧(s[1]'q).toNat≤57) :
 aq ak 277 #[.string s] w fun e w'=>e=.returned (.tuple #[.float .f64 0,.int .i64 0,.bool ab])∧w=w':=by
 have bJ:=I (fun (w:af)=>aqF (s.extract 1 s.size) w (by rw[IL];omega) (by rw[IL];omega) (by rw[ByteArray.getElem_extract];exact aL));obtain⟨N,cW⟩:∃N,s.size=N:=⟨_,rfl⟩;have kh:((N:Int)==0)=ab:=by rw[cH];omega
 have lT:1<N:=by omega
 have qt:N≤100000:=by omega
 rw[cW] at bJ;clear aL q;go_enter func277,ntmps277;go_wp2_with fail;refine (bJ.out _).mono ?_;rintro e w' ⟨rfl,rfl⟩;go_wp2;go_ret3;exact⟨rfl,rfl⟩
def uq (s:ByteArray):Prop:=∀w,aq ak 277 #[.string s] w fun e w'=>e=.returned (.tuple #[.float .f64 0,.int .i64 0,.bool ab])∧w=w'
def vx (s:ByteArray) (m:Nat) (e:Int) (neg cr:Bool) (n:Nat):Prop:=∀w,aq ak 278 #[.string s] w fun bm w'=>bm=.returned (.tuple #[.int .u64 m,.int .i64 e,.bool neg,.bool cr,.bool ab,.int .i64 n,.bool true])∧w'=w
theorem aqJ:(prog.info? 188).map (fun i=>i.comparable)=U true:=by kernel_rfl
theorem aqK (w:af) (a b:Int):(binOp .eql 153 (.iface 188 (.int .i64 a)) (.iface 188 (.int .i64 b))).run ak w=.ok (.bool (a==b)) w:=by
 have aV:=zi;have aB:=NL;have ar:=aqJ;cases UL:prog.info? 188 with
 | none=>rw[UL] at ar;cases ar
 | some i=>
   rw[UL] at ar;have aqL:i.comparable=true:=by simpa using ar
   have key:∀d,(Op.equalIn (d+2) 153 (.iface 188 (.int .i64 a)) (.iface 188 (.int .i64 b))).run ak w=.ok (a==b) w:=by
    intro d;simp[Op.equalIn,EH aV,EH aB,typeInfo,UL,aqL]
   simp only[binOp];simp[Op.equal,Op.maxDepth,key 9998]
theorem aqM (fn s:ByteArray) (w:af) (a1:s.size≤100000) (he:Env w) :
 aq ak 181 #[.string fn,.string s,.int .i64 0,.int .i64 64,.iface 188 (.int .i64 1)] w fun e w'=>∃a,e=.returned (.iface 189 (.pointer (U a)))∧ah w.heap.size w w':=by
 obtain⟨fZ,fK,ml⟩:=he.err;have bG:=I (strconv_rangeError fn s fZ w (by omega) fK ml);have aa:=aqK;clear fK ml;go_enter Pb,ntmps181;go_wp2_with fail;refine bG.out.mono ?_;rintro e cq ⟨N,rfl,_,_,az⟩;go_wp2;go_ret;exact⟨_,rfl,az⟩
theorem aqN (l:List UInt8) (w:af) (ao:l.length≤1000000) (bd:o.formed l=ab) :
 aq ak 114 #[.string (ax l)] w fun e w'=>e=.returned (.tuple #[.int .u64 0,.int .i64 100])∧ah w.heap.size w w':=by
 have bZ:=I (W9 l w ao);rw[bd] at bZ;generalize ax l=s at *;go_enter PI,O0;go_wp2_with fail;refine bZ.out.mono ?_;rintro e cq ⟨rfl,az⟩;go_wp2;go_ret2;exact⟨rfl,az⟩
end Go.Proofs.YtkhphoonnkoipaaGreatDoor
