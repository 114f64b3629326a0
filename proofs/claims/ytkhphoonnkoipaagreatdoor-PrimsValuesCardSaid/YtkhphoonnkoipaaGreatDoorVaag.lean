/- Lemmas. -/
import Derived.Test.YtkhphoonnkoipaaGreatDoorVaad
import Derived.Test.YtkhphoonnkoipaaGreatDoorVaaf
set_option linter.all false
set_option maxHeartbeats 8000000
set_option maxRecDepth 100000
open Go.Proofs.Tryz Go.RowKit Go.Lib
open Option renaming none→J,some→U
open Bool renaming true→ai,false→ab
open Go renaming World→af,Value→aw,Calls→aq
open Go.RowKit renaming Below→ah
open Go.Proofs.Tryz renaming prog→ak
namespace Go.Proofs.YtkhphoonnkoipaaGreatDoor
def cV (l:List UInt8):List aw:=l.map fun b=>Value.int .u8 b.toNat
theorem nE (a b:List UInt8):cV (a++b)=cV a++cV b:=by simp[cV]
theorem Wz (a:List UInt8):(cV a).length=a.length:=by simp[cV]
theorem Qb:(prog.info? 5).map (fun i=>(i.zero,i.size,i.bytes))=U (U (.int .u8 0),1,1):=by kernel_rfl
theorem jz {news:List Int}:∀u ∈ news.map (Value.int .u8),u.oneCell'=ai:=by
 intro u hu;obtain⟨x,_,rfl⟩:=List.mem_map.1 hu;rfl
theorem iI {ops:Array Oper} {rest:List Oper} {a7:Oper} {a:Act} {Q:Exit→Act→af→Prop} {w:af} (eT:a7.guard=J) (s x:Operand)
 (b6:a7.op=.call { callee:=.builtin .append,args:=#[s,x],argTypes:=#[109,109] }) (base:Nat) (v:aw) (n:Nat) (xs:List aw) (a1:a.eval s=v) (dq:cB w base 5 1 v n xs)
 (news:List aw) (hx:a.eval x=.slice (U ⟨w.heap.size,0,J⟩) news.length news.length) (aa:∀u ∈ news,u.oneCell'=ai) (hlen:n+news.length≤1000000) (tn:base≤w.heap.size)
 (h:∀dv w',cB w' base 5 1 dv (n+news.length) (xs++news)→Grow w v w' dv→wpList ak ops Q rest (a.put a7.dst dv) w'):wpList ak ops Q (a7::rest) a (w.alloc (.cells news.toArray 5)):=by
 obtain⟨i0,aV,eo,eP,eL⟩:=oU Qb;refine J4 eT s x 109 b6 base 5 i0 (.int .u8 0) 1 1 mL aV eo eP eL rfl v n xs a1 (dq.alloc _) ⟨w.heap.size,0,J⟩ news.length news.length news hx (by simp) ?_ aa (by unfold maxLen;omega) (by omega) (by simp;omega) ?_
 ·intro j u bP;rw[B2,hc,ze];simpa using bP
 ·intro dv w' sn Fw;exact h dv w' sn ((Grow.alloc w v _).trans Fw)
namespace o
def jN (x:Int):List UInt8:=
 (if x<0 then 45 else 43)::(if x.natAbs<10 then [48,UInt8.ofNat (48+x.natAbs)] else if x.natAbs<100 then [UInt8.ofNat (48+x.natAbs/10),UInt8.ofNat (48+x.natAbs%10)] else [UInt8.ofNat (48+x.natAbs/100),UInt8.ofNat (48+x.natAbs/10%10),UInt8.ofNat (48+x.natAbs%10)])
def lR (neg:Bool) (ds:List UInt8) (x:Int):List UInt8:=
 (if neg then [45] else [])++ds.take 1++(if ds.length≤1 then [] else 46::ds.drop 1)++[101]++jN x
theorem Ci (neg:Bool) (d0:UInt8) (r:List UInt8) (x:Int) (h:0<r.length):lR neg (d0::r) x=(if neg then [45] else [])++[d0]++46::r++[101]++jN x:=by
 cases r with
 | nil=>simp at h
 | cons a t=>simp[lR]
theorem Cj (neg:Bool) (d0:UInt8) (r:List UInt8) (x:Int) (h:r.length=0):lR neg (d0::r) x=(if neg then [45] else [])++[d0]++[101]++jN x:=by
 cases r with
 | nil=>simp[lR]
 | cons a t=>simp at h
end o
theorem Grow.J5 {w w':af} {v dv:aw} {b:Nat} (h:Grow w v w' dv) (ad:b<w.heap.size) (aD:v.ownBlock≠U b):w'.heap[b]? = w.heap[b]?∧dv.ownBlock≠U b∧b<w'.heap.size:=by
 refine⟨h.1.block b ad (fun e=>aD e.symm),?_,cv ad h.1.size⟩;rcases h.2 with e | e
 ·rw[e];exact aD
 ·intro aA;have:=e b aA;omega
theorem so (x:Int) (c:UInt8) (n:Nat) (aB:n≤999) (hx:(x<0∧x = -n∧c=45)∨(0≤x∧x=n∧c=43)) :
 (n<10→cV (o.jN x)=[.int .u8 c.toNat,.int .u8 48,.int .u8 ((n:Int)+48)])∧(¬ n<10→n<100→cV (o.jN x)=[.int .u8 c.toNat,.int .u8 ((n:Int)/10+48),.int .u8 ((n:Int)%10+48)])∧
 (¬ n<10→¬ n<100→cV (o.jN x)=[.int .u8 c.toNat,.int .u8 ((n:Int)/100+48),.int .u8 ((n:Int)/10%10+48),.int .u8 ((n:Int)%10+48)]):=by
 have fi:x.natAbs=n:=by omega
 have an:(if x<0 then (45:UInt8) else 43)=c:=by
  rcases hx with ⟨h,_,rfl⟩ | ⟨h,_,rfl⟩
  ·rw[ba h]
  ·rw[aU (by omega)]
 have key:∀m:Nat,m<256→(UInt8.ofNat m).toNat=m:=fun m hm=>by simp;omega
 unfold o.jN;rw[fi,an];refine⟨fun h=>?_,fun h ae=>?_,fun h ae=>?_⟩
 ·rw[ba h];simp only[cV,tb,EX,key (48+n) (by omega)];simp;omega
 ·rw[aU h,ba ae];simp only[cV,tb,EX,key (48+n/10) (by omega),key (48+n%10) (by omega)];simp;omega
 ·rw[aU h,aU ae];simp only[cV,tb,EX,key (48+n/100) (by omega),key (48+n/10%10) (by omega),key (48+n%10) (by omega)];simp;omega
theorem cB.close {w:af} {base n:Nat} {v:aw} {xs:List aw} {l:List UInt8} (h:cB w base 5 1 v n xs) (hx:xs=cV l):cB w base 5 1 v l.length (cV l):=by
 subst hx;have:=h.1;rw[Wz] at this;rw[this,fI];exact h
def Ck (base:Nat) (v:aw) (w:af) (l:List UInt8) (e:Ending) (w':af):Prop:=
 ∃dv,e=.returned dv∧cB w' base 5 1 dv l.length (cV l)∧Grow w v w' dv
theorem agR (neg:Bool) (base b:Nat) (v:aw) (d0:UInt8) (r:List UInt8) (a8:Int) (w:af) (dq:cB w base 5 1 v 0 []) (ad:base≤w.heap.size) (ao:0<r.length) (xP:r.length≤20) (kS:-400≤a8∧a8≤400)
 (an:∀j (h:j<(d0::r).length),w.cell? ⟨b,j,J⟩=U (nD (d0::r)[j])) (xR:v.ownBlock≠U b) (qq:b<w.heap.size) :
 aq ak 226 #[v,.bool neg,.slice (U ⟨b,0,J⟩) 32 32,.int .i64 a8,.int .i64 (r.length+1),.int .i64 r.length,.int .u8 101,.bool ai] w (Ck base v w (o.lR neg (d0::r) (a8-1))):=by
 obtain⟨a0,c0,rfl⟩:=dq.form;have bJ:=I an;have Cl:=I xR;have bF:=I dq;clear an xR dq;have fr:=d0.toNat_lt;cases neg;case' false=>
  have Qc:True:=trivial;have xS:=I (Grow.refl w (.slice a0 0 c0));have zN:w.cell? ⟨b,0,J⟩=U (.int .u8 (d0.toNat:Int)):=bJ.out 0 (by simp);go_enter Jo,Jf;go_wp2_with (at_builtin;refine iI rfl (.tmp 87) (.tmp 89) rfl base _ _ _ rfl bF.out [.int .u8 (d0.toNat)] rfl (jz (news:=[d0.toNat])) (by simp only[ch,du];omega) (by omega) ?_)
 case' true=>
  have Qd:True:=trivial;have zN:w.cell? ⟨b,0,J⟩=U (.int .u8 (d0.toNat:Int)):=bJ.out 0 (by simp);go_enter Jo,Jf;go_wp2_with (at_builtin;refine iI rfl (.tmp 79) (.tmp 80) rfl base _ _ _ rfl bF.out [.int .u8 (45)] rfl (jz (news:=[45])) (by simp only[ch,du];omega) (by omega) ?_);intro v1 cq zO zP;have Qe:=I zO;have xS:=I zP;have agS:=zP.1.size;obtain⟨agT,agU,rfl⟩:=zO.form;clear zO zP;obtain⟨fx,fK,dH⟩:=xS.out.J5 qq Cl.out;have zN:cq.cell? ⟨b,0,J⟩=U (.int .u8 (d0.toNat:Int)):=by rw[uy (w:=w) fx];exact bJ.out 0 (by simp)
  have Qf:=I fx;have Cm:=I fK;clear fx fK;go_wp2_with (at_builtin;refine iI rfl (.tmp 87) (.tmp 89) rfl base _ _ _ rfl Qe.out [.int .u8 (d0.toNat)] rfl (jz (news:=[d0.toNat])) (by simp only[ch,du];omega) (by omega) ?_)
 all_goals
  intro v2 aP zQ zR;have Fx:=I zQ;have J6:=I zR;have agV:=zR.1.size;obtain⟨Qg,Qh,rfl⟩:=zQ.form;clear zQ zR;obtain⟨fh,ml,dY⟩:=(xS.out.trans J6.out).J5 qq Cl.out;have agW:=I fh;have Fy:=I ml;clear fh ml;go_wp2_with (at_builtin;refine iI rfl (.tmp 93) (.tmp 94) rfl base _ _ _ rfl Fx.out [.int .u8 (46)] rfl (jz (news:=[46])) (by simp only[ch,du];omega) (by omega) ?_);intro v3 cc Qi Qj;have agX:=I Qi;have WA:=I Qj;have awv:=Qj.1.size;obtain⟨aww,awx,rfl⟩:=Qi.form;clear Qi Qj;obtain⟨qm,WB,dL⟩:=WA.out.J5 dY Fy.out;have bU:=I (show ∀(j:Nat) (u:aw),(cV r)[j]? = U u→cc.cell? ((⟨b,1,J⟩:Addr).add j)=U u from by
   intro j u bP;have xT:j<r.length:=by
    have:=(List.getElem?_eq_some_iff.1 bP).1;rwa[Wz] at this
   rw[B2,uy (w:=w) (show cc.heap[b]? = w.heap[b]? by rw[qm];exact agW.out),jv,bJ.out (j+1) (by simp;omega)];have:(cV r)[j]? = U (nD r[j]):=by simp[cV,xT]
   rw[this] at bP;simpa using bP)
  clear qm WB;have WC:min ((r.length:Int)+1) ((r.length:Int)+1)=(r.length:Int)+1:=by omega
  obtain⟨i0,aV,eo,eP,eL⟩:=oU Qb;clear zN;go_wp2_with (at_builtin;refine J4 rfl (.tmp 103) (.tmp 107) 109 rfl base 5 i0 (.int .u8 0) 1 1 mL aV eo eP eL rfl _ _ _ rfl agX.out ⟨b,1,J⟩ r.length 31 (cV r) rfl ?_ bU.out ?_ ?_ ?_ ?_ ?_)
  ·simp[cV]
  ·exact fun u hu=>by obtain⟨x,_,rfl⟩:=List.mem_map.1 hu;rfl
  ·unfold maxLen;omega
  ·omega
  ·omega
  intro v4 aQ Qk Ql;have J7:=I Qk;have agY:=I Ql;have awy:=Ql.1.size;obtain⟨J8,J9,rfl⟩:=Qk.form;clear Qk Ql aV eo eP eL bU;go_wp2_with fail;refine BN 1 ?_;rw[BX];have n1:=I (((xS.out.trans J6.out).trans WA.out).trans agY.out);first
  | (have _t:=Qc;obtain⟨pE,Cn,pF⟩:∃pE,Hid (cB aQ base 5 1 (.slice J8 (2+r.length) J9) (2+r.length) pE)∧Hid (pE=cV ((if ab=ai then [45] else [])++[d0]++46::r)):=⟨_,J7,I (by simp[cV])⟩;clear J7;obtain⟨N,cW⟩:∃N,2+r.length=N:=⟨_,rfl⟩)
  | (have _t:=Qd;obtain⟨pE,Cn,pF⟩:∃pE,Hid (cB aQ base 5 1 (.slice J8 (3+r.length) J9) (3+r.length) pE)∧Hid (pE=cV ((if ai=ai then [45] else [])++[d0]++46::r)):=⟨_,J7,I (by simp[cV])⟩;clear J7;obtain⟨N,cW⟩:∃N,3+r.length=N:=⟨_,rfl⟩)
  rw[cW] at Cn n1 ⊢;have agZ:N≤30:=by omega
  clear cW;go_wp2_with (at_builtin;refine iI rfl (.tmp 120) (.tmp 122) rfl base _ _ _ rfl Cn.out [.int .u8 (101)] rfl (jz (news:=[101])) (by simp only[ch,du];omega) (by omega) ?_);intro v5 cf zS zT;have Fz:=I zS;have rn:=I zT;have ag0:=zT.1.size;obtain⟨ag1,ag2,rfl⟩:=zS.form;clear zS zT;by_cases hx:a8-1<0
  ·go_wp2_with (at_builtin;refine iI rfl (.tmp 132) (.tmp 134) rfl base _ _ _ rfl Fz.out [.int .u8 (45)] rfl (jz (news:=[45])) (by simp only[ch,du];omega) (by omega) ?_);intro v6 cw pG pH;have pI:=I pG;have pJ:=I pH;have Qm:=pH.1.size;obtain⟨Qn,Qo,rfl⟩:=pG.form;clear pG pH;obtain⟨n,aB⟩:∃n:Nat,-(a8-1)=n:=⟨(1-a8).toNat,by omega⟩;rw[aB];have qt:n≤999:=by omega
   by_cases h5:n<10
   ·go_wp2_with (at_builtin;refine iI rfl (.tmp 155) (.tmp 159) rfl base _ _ _ rfl pI.out [.int .u8 (48),.int .u8 ((n:Int)+48)] rfl (jz (news:=[48,(n:Int)+48])) (by simp only[ch,du];omega) (by omega) ?_);intro gI fb fL fM;have kT:=I fL;have kU:=I fM;have tq:=fM.1.size;obtain⟨tr,ts,rfl⟩:=fL.form;clear fL fM;go_wp2;go_ret;refine⟨_,rfl,kT.out.close ?_,((n1.out.trans rn.out).trans pJ.out).trans kU.out⟩;rw[pF.out];rw[o.Ci _ _ _ _ ao];simp only[nE];rw[(so (a8-1) 45 n (by omega) (.inl ⟨hx,by omega,rfl⟩)).1 h5];simp[cV]
   ·by_cases tt:n<100
    ·go_wp2_with (at_builtin;refine iI rfl (.tmp 164) (.tmp 173) rfl base _ _ _ rfl pI.out [.int .u8 ((n:Int)/10+48),.int .u8 ((n:Int)%10+48)] rfl (jz (news:=[(n:Int)/10+48,(n:Int)%10+48])) (by simp only[ch,du];omega) (by omega) ?_);intro gI fb fL fM;have kT:=I fL;have kU:=I fM;have tq:=fM.1.size;obtain⟨tr,ts,rfl⟩:=fL.form;clear fL fM;go_wp2;go_ret;refine⟨_,rfl,kT.out.close ?_,((n1.out.trans rn.out).trans pJ.out).trans kU.out⟩;rw[pF.out];rw[o.Ci _ _ _ _ ao];simp only[nE];rw[(so (a8-1) 45 n (by omega) (.inl ⟨hx,by omega,rfl⟩)).2.1 h5 tt];simp[cV]
    ·go_wp2_with (at_builtin;refine iI rfl (.tmp 136) (.tmp 150) rfl base _ _ _ rfl pI.out [.int .u8 ((n:Int)/100+48),.int .u8 ((n:Int)/10%10+48),.int .u8 ((n:Int)%10+48)] rfl (jz (news:=[(n:Int)/100+48,(n:Int)/10%10+48,(n:Int)%10+48])) (by simp only[ch,du];omega) (by omega) ?_);intro gI fb fL fM;have kT:=I fL;have kU:=I fM;have tq:=fM.1.size;obtain⟨tr,ts,rfl⟩:=fL.form;clear fL fM;go_wp2;go_ret;refine⟨_,rfl,kT.out.close ?_,((n1.out.trans rn.out).trans pJ.out).trans kU.out⟩;rw[pF.out];rw[o.Ci _ _ _ _ ao];simp only[nE];rw[(so (a8-1) 45 n (by omega) (.inl ⟨hx,by omega,rfl⟩)).2.2 h5 tt];simp[cV]
  ·go_wp2_with (at_builtin;refine iI rfl (.tmp 132) (.tmp 134) rfl base _ _ _ rfl Fz.out [.int .u8 (43)] rfl (jz (news:=[43])) (by simp only[ch,du];omega) (by omega) ?_);intro v6 cw pG pH;have pI:=I pG;have pJ:=I pH;have Qm:=pH.1.size;obtain⟨Qn,Qo,rfl⟩:=pG.form;clear pG pH;obtain⟨n,aB⟩:∃n:Nat,a8-1=n:=⟨(a8-1).toNat,by omega⟩;rw[aB];have qt:n≤999:=by omega
   by_cases h5:n<10
   ·go_wp2_with (at_builtin;refine iI rfl (.tmp 155) (.tmp 159) rfl base _ _ _ rfl pI.out [.int .u8 (48),.int .u8 ((n:Int)+48)] rfl (jz (news:=[48,(n:Int)+48])) (by simp only[ch,du];omega) (by omega) ?_);intro gI fb fL fM;have kT:=I fL;have kU:=I fM;have tq:=fM.1.size;obtain⟨tr,ts,rfl⟩:=fL.form;clear fL fM;go_wp2;go_ret;refine⟨_,rfl,kT.out.close ?_,((n1.out.trans rn.out).trans pJ.out).trans kU.out⟩;rw[pF.out];rw[o.Ci _ _ _ _ ao];simp only[nE];rw[(so (a8-1) 43 n (by omega) (.inr ⟨by omega,by omega,rfl⟩)).1 h5];simp[cV]
   ·by_cases tt:n<100
    ·go_wp2_with (at_builtin;refine iI rfl (.tmp 164) (.tmp 173) rfl base _ _ _ rfl pI.out [.int .u8 ((n:Int)/10+48),.int .u8 ((n:Int)%10+48)] rfl (jz (news:=[(n:Int)/10+48,(n:Int)%10+48])) (by simp only[ch,du];omega) (by omega) ?_);intro gI fb fL fM;have kT:=I fL;have kU:=I fM;have tq:=fM.1.size;obtain⟨tr,ts,rfl⟩:=fL.form;clear fL fM;go_wp2;go_ret;refine⟨_,rfl,kT.out.close ?_,((n1.out.trans rn.out).trans pJ.out).trans kU.out⟩;rw[pF.out];rw[o.Ci _ _ _ _ ao];simp only[nE];rw[(so (a8-1) 43 n (by omega) (.inr ⟨by omega,by omega,rfl⟩)).2.1 h5 tt];simp[cV]
    ·go_wp2_with (at_builtin;refine iI rfl (.tmp 136) (.tmp 150) rfl base _ _ _ rfl pI.out [.int .u8 ((n:Int)/100+48),.int .u8 ((n:Int)/10%10+48),.int .u8 ((n:Int)%10+48)] rfl (jz (news:=[(n:Int)/100+48,(n:Int)/10%10+48,(n:Int)%10+48])) (by simp only[ch,du];omega) (by omega) ?_);intro gI fb fL fM;have kT:=I fL;have kU:=I fM;have tq:=fM.1.size;obtain⟨tr,ts,rfl⟩:=fL.form;clear fL fM;go_wp2;go_ret;refine⟨_,rfl,kT.out.close ?_,((n1.out.trans rn.out).trans pJ.out).trans kU.out⟩;rw[pF.out];rw[o.Ci _ _ _ _ ao];simp only[nE];rw[(so (a8-1) 43 n (by omega) (.inr ⟨by omega,by omega,rfl⟩)).2.2 h5 tt];simp[cV]
theorem ag3 (neg:Bool) (base b:Nat) (v:aw) (d0:UInt8) (r:List UInt8) (a8:Int) (w:af) (dq:cB w base 5 1 v 0 []) (ad:base≤w.heap.size) (ao:r.length=0) (_hl2:r.length≤20) (kS:-400≤a8∧a8≤400)
 (an:∀j (h:j<(d0::r).length),w.cell? ⟨b,j,J⟩=U (nD (d0::r)[j])) (xR:v.ownBlock≠U b) (qq:b<w.heap.size) :
 aq ak 226 #[v,.bool neg,.slice (U ⟨b,0,J⟩) 32 32,.int .i64 a8,.int .i64 (r.length+1),.int .i64 r.length,.int .u8 101,.bool ai] w (Ck base v w (o.lR neg (d0::r) (a8-1))):=by
 obtain⟨a0,c0,rfl⟩:=dq.form;have bJ:=I an;have Cl:=I xR;have bF:=I dq;clear an xR dq;have fr:=d0.toNat_lt;cases neg;case' false=>
  have Qc:True:=trivial;have xS:=I (Grow.refl w (.slice a0 0 c0));have zN:w.cell? ⟨b,0,J⟩=U (.int .u8 (d0.toNat:Int)):=bJ.out 0 (by simp);go_enter Jo,Jf;go_wp2_with (at_builtin;refine iI rfl (.tmp 87) (.tmp 89) rfl base _ _ _ rfl bF.out [.int .u8 (d0.toNat)] rfl (jz (news:=[d0.toNat])) (by simp only[ch,du];omega) (by omega) ?_)
 case' true=>
  have Qd:True:=trivial;have zN:w.cell? ⟨b,0,J⟩=U (.int .u8 (d0.toNat:Int)):=bJ.out 0 (by simp);go_enter Jo,Jf;go_wp2_with (at_builtin;refine iI rfl (.tmp 79) (.tmp 80) rfl base _ _ _ rfl bF.out [.int .u8 (45)] rfl (jz (news:=[45])) (by simp only[ch,du];omega) (by omega) ?_);intro v1 cq zO zP;have Qe:=I zO;have xS:=I zP;have agS:=zP.1.size;obtain⟨agT,agU,rfl⟩:=zO.form;clear zO zP;obtain⟨fx,fK,dH⟩:=xS.out.J5 qq Cl.out;have zN:cq.cell? ⟨b,0,J⟩=U (.int .u8 (d0.toNat:Int)):=by rw[uy (w:=w) fx];exact bJ.out 0 (by simp)
  have Qf:=I fx;have Cm:=I fK;clear fx fK;go_wp2_with (at_builtin;refine iI rfl (.tmp 87) (.tmp 89) rfl base _ _ _ rfl Qe.out [.int .u8 (d0.toNat)] rfl (jz (news:=[d0.toNat])) (by simp only[ch,du];omega) (by omega) ?_)
 all_goals
  intro v2 aP zQ zR;have Fx:=I zQ;have J6:=I zR;have agV:=zR.1.size;obtain⟨Qg,Qh,rfl⟩:=zQ.form;clear zQ zR;clear zN;have n1:=I (xS.out.trans J6.out);first
  | (have _t:=Qc;obtain⟨pE,Cn,pF⟩:∃pE,Hid (cB aP base 5 1 (.slice Qg (1) Qh) (1) pE)∧Hid (pE=cV ((if ab=ai then [45] else [])++[d0])):=⟨_,Fx,I (by simp[cV])⟩)
  | (have _t:=Qd;obtain⟨pE,Cn,pF⟩:∃pE,Hid (cB aP base 5 1 (.slice Qg (2) Qh) (2) pE)∧Hid (pE=cV ((if ai=ai then [45] else [])++[d0])):=⟨_,Fx,I (by simp[cV])⟩)
  clear Fx;go_wp2_with (at_builtin;refine iI rfl (.tmp 120) (.tmp 122) rfl base _ _ _ rfl Cn.out [.int .u8 (101)] rfl (jz (news:=[101])) (by simp only[ch,du];omega) (by omega) ?_);intro v5 cf zS zT;have Fz:=I zS;have rn:=I zT;have ag0:=zT.1.size;obtain⟨ag1,ag2,rfl⟩:=zS.form;clear zS zT;by_cases hx:a8-1<0
  ·go_wp2_with (at_builtin;refine iI rfl (.tmp 132) (.tmp 134) rfl base _ _ _ rfl Fz.out [.int .u8 (45)] rfl (jz (news:=[45])) (by simp only[ch,du];omega) (by omega) ?_);intro v6 cw pG pH;have pI:=I pG;have pJ:=I pH;have Qm:=pH.1.size;obtain⟨Qn,Qo,rfl⟩:=pG.form;clear pG pH;obtain⟨n,aB⟩:∃n:Nat,-(a8-1)=n:=⟨(1-a8).toNat,by omega⟩;rw[aB];have qt:n≤999:=by omega
   by_cases h5:n<10
   ·go_wp2_with (at_builtin;refine iI rfl (.tmp 155) (.tmp 159) rfl base _ _ _ rfl pI.out [.int .u8 (48),.int .u8 ((n:Int)+48)] rfl (jz (news:=[48,(n:Int)+48])) (by simp only[ch,du];omega) (by omega) ?_);intro gI fb fL fM;have kT:=I fL;have kU:=I fM;have tq:=fM.1.size;obtain⟨tr,ts,rfl⟩:=fL.form;clear fL fM;go_wp2;go_ret;refine⟨_,rfl,kT.out.close ?_,((n1.out.trans rn.out).trans pJ.out).trans kU.out⟩;rw[pF.out];rw[o.Cj _ _ _ _ ao];simp only[nE];rw[(so (a8-1) 45 n (by omega) (.inl ⟨hx,by omega,rfl⟩)).1 h5];simp[cV]
   ·by_cases tt:n<100
    ·go_wp2_with (at_builtin;refine iI rfl (.tmp 164) (.tmp 173) rfl base _ _ _ rfl pI.out [.int .u8 ((n:Int)/10+48),.int .u8 ((n:Int)%10+48)] rfl (jz (news:=[(n:Int)/10+48,(n:Int)%10+48])) (by simp only[ch,du];omega) (by omega) ?_);intro gI fb fL fM;have kT:=I fL;have kU:=I fM;have tq:=fM.1.size;obtain⟨tr,ts,rfl⟩:=fL.form;clear fL fM;go_wp2;go_ret;refine⟨_,rfl,kT.out.close ?_,((n1.out.trans rn.out).trans pJ.out).trans kU.out⟩;rw[pF.out];rw[o.Cj _ _ _ _ ao];simp only[nE];rw[(so (a8-1) 45 n (by omega) (.inl ⟨hx,by omega,rfl⟩)).2.1 h5 tt];simp[cV]
    ·go_wp2_with (at_builtin;refine iI rfl (.tmp 136) (.tmp 150) rfl base _ _ _ rfl pI.out [.int .u8 ((n:Int)/100+48),.int .u8 ((n:Int)/10%10+48),.int .u8 ((n:Int)%10+48)] rfl (jz (news:=[(n:Int)/100+48,(n:Int)/10%10+48,(n:Int)%10+48])) (by simp only[ch,du];omega) (by omega) ?_);intro gI fb fL fM;have kT:=I fL;have kU:=I fM;have tq:=fM.1.size;obtain⟨tr,ts,rfl⟩:=fL.form;clear fL fM;go_wp2;go_ret;refine⟨_,rfl,kT.out.close ?_,((n1.out.trans rn.out).trans pJ.out).trans kU.out⟩;rw[pF.out];rw[o.Cj _ _ _ _ ao];simp only[nE];rw[(so (a8-1) 45 n (by omega) (.inl ⟨hx,by omega,rfl⟩)).2.2 h5 tt];simp[cV]
  ·go_wp2_with (at_builtin;refine iI rfl (.tmp 132) (.tmp 134) rfl base _ _ _ rfl Fz.out [.int .u8 (43)] rfl (jz (news:=[43])) (by simp only[ch,du];omega) (by omega) ?_);intro v6 cw pG pH;have pI:=I pG;have pJ:=I pH;have Qm:=pH.1.size;obtain⟨Qn,Qo,rfl⟩:=pG.form;clear pG pH;obtain⟨n,aB⟩:∃n:Nat,a8-1=n:=⟨(a8-1).toNat,by omega⟩;rw[aB];have qt:n≤999:=by omega
   by_cases h5:n<10
   ·go_wp2_with (at_builtin;refine iI rfl (.tmp 155) (.tmp 159) rfl base _ _ _ rfl pI.out [.int .u8 (48),.int .u8 ((n:Int)+48)] rfl (jz (news:=[48,(n:Int)+48])) (by simp only[ch,du];omega) (by omega) ?_);intro gI fb fL fM;have kT:=I fL;have kU:=I fM;have tq:=fM.1.size;obtain⟨tr,ts,rfl⟩:=fL.form;clear fL fM;go_wp2;go_ret;refine⟨_,rfl,kT.out.close ?_,((n1.out.trans rn.out).trans pJ.out).trans kU.out⟩;rw[pF.out];rw[o.Cj _ _ _ _ ao];simp only[nE];rw[(so (a8-1) 43 n (by omega) (.inr ⟨by omega,by omega,rfl⟩)).1 h5];simp[cV]
   ·by_cases tt:n<100
    ·go_wp2_with (at_builtin;refine iI rfl (.tmp 164) (.tmp 173) rfl base _ _ _ rfl pI.out [.int .u8 ((n:Int)/10+48),.int .u8 ((n:Int)%10+48)] rfl (jz (news:=[(n:Int)/10+48,(n:Int)%10+48])) (by simp only[ch,du];omega) (by omega) ?_);intro gI fb fL fM;have kT:=I fL;have kU:=I fM;have tq:=fM.1.size;obtain⟨tr,ts,rfl⟩:=fL.form;clear fL fM;go_wp2;go_ret;refine⟨_,rfl,kT.out.close ?_,((n1.out.trans rn.out).trans pJ.out).trans kU.out⟩;rw[pF.out];rw[o.Cj _ _ _ _ ao];simp only[nE];rw[(so (a8-1) 43 n (by omega) (.inr ⟨by omega,by omega,rfl⟩)).2.1 h5 tt];simp[cV]
    ·go_wp2_with (at_builtin;refine iI rfl (.tmp 136) (.tmp 150) rfl base _ _ _ rfl pI.out [.int .u8 ((n:Int)/100+48),.int .u8 ((n:Int)/10%10+48),.int .u8 ((n:Int)%10+48)] rfl (jz (news:=[(n:Int)/100+48,(n:Int)/10%10+48,(n:Int)%10+48])) (by simp only[ch,du];omega) (by omega) ?_);intro gI fb fL fM;have kT:=I fL;have kU:=I fM;have tq:=fM.1.size;obtain⟨tr,ts,rfl⟩:=fL.form;clear fL fM;go_wp2;go_ret;refine⟨_,rfl,kT.out.close ?_,((n1.out.trans rn.out).trans pJ.out).trans kU.out⟩;rw[pF.out];rw[o.Cj _ _ _ _ ao];simp only[nE];rw[(so (a8-1) 43 n (by omega) (.inr ⟨by omega,by omega,rfl⟩)).2.2 h5 tt];simp[cV]
theorem WD (neg:Bool) (base b:Nat) (v:aw) (d0:UInt8) (r:List UInt8) (a8:Int) (w:af) (dq:cB w base 5 1 v 0 []) (ad:base≤w.heap.size) (xP:r.length≤20) (kS:-400≤a8∧a8≤400)
 (an:∀j (h:j<(d0::r).length),w.cell? ⟨b,j,J⟩=U (nD (d0::r)[j])) (xR:v.ownBlock≠U b) (qq:b<w.heap.size) :
 aq ak 226 #[v,.bool neg,.slice (U ⟨b,0,J⟩) 32 32,.int .i64 a8,.int .i64 (r.length+1),.int .i64 r.length,.int .u8 101,.bool ai] w (Ck base v w (o.lR neg (d0::r) (a8-1))):=by
 rcases kd r.length with h | h
 ·exact ag3 neg base b v d0 r a8 w dq ad h xP kS an xR qq
 ·exact agR neg base b v d0 r a8 w dq ad h xP kS an xR qq
theorem WE (n:Nat) (w:af):(callFunc 223 #[.float .f64 n]).run ak w=.ok (.value (.int .u64 n)) w:=by
 rw[zg func223 (by kernel_rfl) (by kernel_rfl) (by kernel_rfl) (show Extern.find _=U Extern.MathFloatBits.float64bits by kernel_rfl)];rfl
theorem J' {a k:Nat} (aS:a<18446744073709551616) (aA:k≤63):bits .and .u64 (a:Int) ((2^k-1:Nat):Int)=((a%2^k:Nat):Int):=by
 have kA:(2:Nat)^IntKind.u64.bits=18446744073709551616:=rfl;have hp:2^k≤2^63:=dB (by decide) aA;have hm:a%2^k<2^k:=eW _ (dK (by decide));simp only[bits,oK,BK,ns,kA];rw[eF aS,eF (by omega),D7,pA (by omega)]
theorem WG {a k:Nat} (aS:a<9223372036854775808) (aA:k≤62):bits .and .i64 (a:Int) ((2^k-1:Nat):Int)=((a%2^k:Nat):Int):=by
 have kA:(2:Nat)^IntKind.i64.bits=18446744073709551616:=rfl;have hp:2^k≤2^62:=dB (by decide) aA;have hm:a%2^k<2^k:=eW _ (dK (by decide));simp only[bits,oK,BK,ns,kA];rw[eF (by omega),eF (by omega),D7,gF _ (by omega)]
theorem Qp (a:Nat) (aS:a<18446744073709551616):bits .and .i64 ((a:Int)/4503599627370496) 2047=((a/4503599627370496%2048:Nat):Int):=by
 have:=WG (a:=a/4503599627370496) (k:=11) (by omega) (by decide);rw[show ((2^11-1:Nat):Int)=2047 from rfl,show (2:Nat)^11=2048 from rfl] at this;rw[←this];simp
theorem Qq (a:Nat) (aS:a<18446744073709551616):bits .and .u64 (a:Int) 4503599627370495=((a%4503599627370496:Nat):Int):=by
 have:=J' (a:=a) (k:=52) aS (by decide);rw[show ((2^52-1:Nat):Int)=4503599627370495 from rfl,show (2:Nat)^52=4503599627370496 from rfl] at this;exact this
theorem ag4 (m:Nat) (hm:m<4503599627370496):bits .or .u64 (m:Int) 4503599627370496=((m+4503599627370496:Nat):Int):=by
 have:=Fh (a:=m) (b:=4503599627370496) (by omega) (by omega);rw[show ((4503599627370496:Nat):Int)=4503599627370496 from rfl] at this;rw[this];congr 1;have h:=oJ (i:=52) (b:=m) (by simpa using hm) 1;rw[si] at h;simpa[jv] using h.symm
namespace o
theorem ag5 {x aV lo s:Nat} (a1:s≤58) (hx:9223372036854775808≤x) (gg:x<18446744073709551616) (ny:9223372036854775808≤aV) (P0:aV<18446744073709551616):8≤oY x aV lo s:=by
 have hh:x*aV/18446744073709551616<18446744073709551616:=vH (D9 gg P0);have ao:9223372036854775808*9223372036854775808≤x*aV:=kz hx ny;have aY:4611686018427387904≤x*aV/18446744073709551616:=by
  rw[kP (by decide)];exact cp (by decide) ao
 have hp:2^s≤288230376151711744:=by
  have:=dB (show 0<2 by decide) a1;exact cp this (by decide)
 have Fk:0<2^s:=dK (by decide);have key:∀a:Nat,4611686018427387903≤a→8≤a/2^s:=by
  intro a aS;rw[kP Fk];omega
 unfold oY;generalize x*aV/18446744073709551616=h at hh aY ⊢;generalize x*aV%18446744073709551616=g;generalize x*lo/18446744073709551616=k;split
 ·refine cp (key _ ?_) I';split<;>omega
 ·exact cp (key _ (by omega)) I'
theorem Qr {m fg fq eG:Nat} {e p:Int} (cd:-348≤p) (cF:p≤347) (dH:1≤cz e p) (dY:cz e p≤58) (hm:9223372036854775808≤m) (hd:m<18446744073709551616) (vX:4611686018427387904≤fg) (nC:fg<18446744073709551616) (n0:fq<18446744073709551616) (sk:eG<2) :
 1≤(lN m fg fq eG e p).1∧(lN m fg fq eG e p).1<9223372036854775808∧-348≤(lN m fg fq eG e p).2∧(lN m fg fq eG e p).2≤349:=by
 have b1:=pB cd cF dH nC;have a2:=vS cd cF dY vX nC;have a3:=pB cd cF dH n0;have a4:=pB cd cF dH hd;have a5:8≤fJ m e p:=ag5 dY hm hd (Cc cd cF).1 (Cc cd cF).2.1;unfold lN;generalize fJ fg e p=un at *;generalize fJ fq e p=oZ at *;generalize fJ m e p=J0 at *;split
 ·refine⟨?_,?_,?_,?_⟩<;>simp only<;>omega
 ·split
  ·refine⟨?_,?_,?_,?_⟩<;>simp only<;>omega
  ·refine⟨?_,?_,?_,?_⟩<;>simp only<;>omega
def mm (a:Nat):Nat:=if a/4503599627370496%2048=0 then a%4503599627370496 else a%4503599627370496+4503599627370496
def tu (a:Nat):Int:=if a/4503599627370496%2048=0 then -1074 else (a/4503599627370496%2048:Nat)-1075
def lv (a:Nat):Nat:=64-Lib.bitLen (mm a)
def n2 (a:Nat):Nat×Int:=iF (mm a*2^lv a) (tu a-lv a)
theorem FA {x:Nat} (h:x<18446744073709551616) (ar:x≠0):1≤Lib.bitLen x∧2^(Lib.bitLen x-1)≤x∧x<2^Lib.bitLen x:=bitLenAux_bounds 64 x h ar
theorem Qs {x k:Nat} (h:x<18446744073709551616) (aa:2^k≤x) (ae:x<2^(k+1)):Lib.bitLen x=k+1:=by
 obtain⟨a,b,c⟩:=FA h (by have:=dK (a:=2) (n:=k) (by decide);omega);have i1:k<Lib.bitLen x:=(BA (a:=2) (by decide)).1 (by omega);have i2:Lib.bitLen x-1<k+1:=(BA (a:=2) (by decide)).1 (by omega);omega
theorem Qt {x:Nat} (h:x<18446744073709551616) (ar:x≠0):9223372036854775808≤x*2^(64-Lib.bitLen x)∧x*2^(64-Lib.bitLen x)<18446744073709551616:=by
 obtain⟨a,b,c⟩:=FA h ar;have hH:Lib.bitLen x≤64:=B3 x 64 (aC _) h;have aH:2^Lib.bitLen x*2^(64-Lib.bitLen x)=18446744073709551616:=by rw[←cm,show Lib.bitLen x+(64-Lib.bitLen x)=64 by omega]
 have aT:2^(Lib.bitLen x-1)*2^(64-Lib.bitLen x)=9223372036854775808:=by rw[←cm,show Lib.bitLen x-1+(64-Lib.bitLen x)=63 by omega]
 refine⟨?_,?_⟩
 ·rw[←aT];exact fD _ b
 ·rw[←aH];exact (BD (dK (by decide))).2 c
theorem Qu {a:Nat} (ar:a/4503599627370496%2048=0) (hm:a%4503599627370496≠0):mm a=a%4503599627370496∧tu a = -1074∧12≤lv a∧lv a≤63:=by
 have aH:mm a=a%4503599627370496:=by unfold mm;rw[ba ar]
 have aT:tu a = -1074:=by unfold tu;rw[ba ar]
 refine⟨aH,aT,?_⟩;unfold lv;rw[aH];obtain⟨cZ,cT,gR⟩:=FA (x:=a%4503599627370496) (by omega) hm;have:Lib.bitLen (a%4503599627370496)≤52:=B3 _ 52 (by decide) (by simp;omega);omega
theorem Qv {a:Nat} (ar:a/4503599627370496%2048≠0):mm a=a%4503599627370496+4503599627370496∧tu a=(a/4503599627370496%2048:Nat)-1075∧lv a=11:=by
 have aH:mm a=a%4503599627370496+4503599627370496:=by unfold mm;rw[aU ar]
 have aT:tu a=(a/4503599627370496%2048:Nat)-1075:=by unfold tu;rw[aU ar]
 refine⟨aH,aT,?_⟩;unfold lv;rw[aH,Qs (k:=52) (by omega) (by simp) (by simp;omega)]
theorem Qw {a:Nat} (bd:a/4503599627370496%2048<2047) (aX:mm a≠0):1≤(n2 a).1∧(n2 a).1<9223372036854775808∧-348≤(n2 a).2∧(n2 a).2≤349:=by
 by_cases ar:a/4503599627370496%2048=0
 ·have hm:a%4503599627370496≠0:=by unfold mm at aX;rwa[ba ar] at aX
  obtain⟨aH,aT,aG,bj⟩:=Qu ar hm;obtain⟨iT,pK⟩:=Qt (x:=a%4503599627370496) (by omega) hm;have ao:lv a=64-Lib.bitLen (a%4503599627370496):=by unfold lv;rw[aH]
  unfold n2;rw[aT,aH];rw[←ao] at iT pK;generalize lv a=k at *;obtain⟨fg,fq,eG,_,_,_,c1,c2,c3,_,c5,rp⟩:=Wv (a%4503599627370496*2^k) k (-1074-k) iT pK aG bj rfl (I1 _ _);rw[rp];exact Qr (by decide) (by decide) (by unfold cz;omega) (by unfold cz;omega) iT pK c2 c3 c5 c1
 ·obtain⟨aH,aT,b8⟩:=Qv ar;unfold n2;rw[aH,aT,b8,show (2:Nat)^11=2048 from rfl];have ad:a%4503599627370496<4503599627370496:=eW _ (by decide);generalize a%4503599627370496=M at *;generalize a/4503599627370496%2048=X at *;have rq:=P5 (e:=(X:Int)-1075-(11:Nat)) (by omega) (by omega);have WH:=Wu (e:=(X:Int)-1075-(11:Nat)) (by omega) (by omega);unfold iF;split
  ·exact Qr WH.1 WH.2.1 (by unfold cz;omega) (by unfold cz;omega) (by omega) (by omega) (by omega) (by omega) (by omega) (by omega)
  ·rw[ba (by omega)];exact Qr rq.1 rq.2.1 (by unfold cz;omega) (by unfold cz;omega) (by omega) (by omega) (by omega) (by omega) (by omega) (by omega)
end o
theorem WI (a:Nat) (w:af) (bd:a/4503599627370496%2048<2047) (aX:o.mm a≠0) (bn:qh w) (b5:11<w.heap.size) :
 aq ak 235 #[.int .u64 (o.mm a*2^o.lv a:Nat),.int .i64 (o.tu a-o.lv a)] w fun bm w'=>bm=.returned (.tuple #[.int .u64 (o.n2 a).1,.int .i64 (o.n2 a).2])∧ah w.heap.size w w':=by
 by_cases ar:a/4503599627370496%2048=0
 ·have hm:a%4503599627370496≠0:=by unfold o.mm at aX;rwa[ba ar] at aX
  obtain⟨aH,aT,aG,bj⟩:=o.Qu ar hm;obtain⟨iT,pK⟩:=o.Qt (x:=a%4503599627370496) (by omega) hm;have ao:o.lv a=64-Lib.bitLen (a%4503599627370496):=by unfold o.lv;rw[aH]
  unfold o.n2;rw[aH];rw[←ao] at iT pK;exact agH _ _ _ w iT pK aG bj (I (by rw[aT])) (I1 _ _) bn b5
 ·obtain⟨aH,aT,b8⟩:=o.Qv ar;unfold o.n2;rw[aH,aT,b8,show (2:Nat)^11=2048 from rfl];have ad:a%4503599627370496<4503599627370496:=eW _ (by decide);generalize a%4503599627370496=M at *;generalize a/4503599627370496%2048=X at *;by_cases dy:M=0
  ·by_cases fs:X=1
   ·exact agF _ _ w (by omega) (by omega) (by omega) (by omega) bn b5
   ·exact agE _ _ w (by omega) (by omega) (by omega) (by omega) bn b5
  ·exact agD _ _ w (by omega) (by omega) (by omega) (by omega) bn b5
namespace o
def tv (a:Nat):List UInt8:=sig (n2 a).1
def uJ (a:Nat):Int:=nDigits (n2 a).1+(n2 a).2
def qu (a:Nat):List UInt8:=lR (decide (9223372036854775808≤a)) (tv a) (uJ a-1)
end o
abbrev FB:Array aw:=#[.int .u8 0,.int .u8 0,.int .u8 0,.int .u8 0,.int .u8 0,.int .u8 0,.int .u8 0,.int .u8 0,.int .u8 0,.int .u8 0,.int .u8 0,.int .u8 0,.int .u8 0,.int .u8 0,.int .u8 0,.int .u8 0,.int .u8 0,.int .u8 0,.int .u8 0,.int .u8 0,.int .u8 0,.int .u8 0,.int .u8 0,.int .u8 0,.int .u8 0,.int .u8 0,.int .u8 0,.int .u8 0,.int .u8 0,.int .u8 0,.int .u8 0,.int .u8 0]
theorem ag6:FB=Array.replicate 32 (.int .u8 0):=rfl
structure zU (w W:af):Prop where
 env:Env W
 size:w.heap.size<W.heap.size
 holds:Go.Sort.Holds nD W w.heap.size 0 (Array.replicate 32 0)
 low:ah w.heap.size w W
theorem zU.mk' {w:af} {n:Nat} (he:Env w):zU w ((w.drewN n).alloc (.cells FB 208)):=by
 have az:ah w.heap.size w ((w.drewN n).alloc (.cells FB 208)):=(below_drewN (aK _ _) n).alloc (by simp) _;refine⟨he.below az,by simp,?_,az⟩;intro j bP;have zM:j<32:=by simpa using bP
 refine⟨?_,World.frozen?_alloc_new _ _ _ _⟩;rw[hc,show (w.heap.size:Nat)=(w.drewN n).heap.size from rfl,ze,ag6,O6 _ j bP];simp[zM]
theorem zU.below {w W bW:af} (h:zU w W) (az:ah W.heap.size W bW):zU w bW:=by
 refine⟨h.env.below az,cv h.size az.size,fun j bP=>?_,h.low.trans (az.mono (qf h.size))⟩;rw[az.cell (p:=⟨w.heap.size,0+j,J⟩) h.size,az.frozen (p:=⟨w.heap.size,0+j,J⟩) h.size];exact h.holds j bP
namespace o
theorem ag7 (u:Nat) (h:1≤u):∃c l,decDigits u=c::l∧c≠48:=by
 induction u using Nat.strongRecOn with
 | _ u dw=>
   rw[decDigits];by_cases h5:u<10
   ·rw[dif_pos h5];refine⟨_,_,rfl,fun e=>?_⟩;have:=eS UInt8.toNat e;simp at this;omega
   ·rw[dif_neg h5];obtain⟨c,l,e,an⟩:=dw (u/10) (by omega) (by omega);rw[e];exact⟨c,_,rfl,an⟩
theorem drop_nil {p:UInt8→Bool}:∀l:List UInt8,l.dropWhile p=[]→∀x ∈ l,p x=ai
 | [],_,x,h=>by simp at h
 | a::l,h,x,hx=>by
   by_cases aS:p a=ai
   ·rw[IS,ba aS] at h;rcases List.mem_cons.1 hx with rfl | hx
    ·exact aS
    ·exact drop_nil l h x hx
   ·rw[IS,aU aS] at h;simp at h
theorem WJ (l:List UInt8):rl l <+: l:=by
 unfold rl;have:=xj (fun x:UInt8=>x==48) (l:=l.reverse);rw[←NF];simpa using this
theorem Qx {d:Nat} (h:1≤d):∃d0 r,sig d=d0::r∧r.length<nDigits d∧d0≠48∧∀j (bP:j<(d0::r).length) (xT:j<(decDigits d).length),(d0::r)[j]=(decDigits d)[j]:=by
 obtain⟨c,l,e,an⟩:=ag7 d h;have hp:=WJ (decDigits d);have hlen:=hp.length_le;rw[EB] at hlen;cases a1:rl (decDigits d)with
 | nil=>
   unfold rl at a1;rw[List.reverse_eq_nil_iff] at a1;have:=drop_nil _ a1 c (by rw[e];simp);simp at this;exact absurd this an
 | cons d0 r=>
   rw[a1] at hp hlen;refine⟨d0,r,a1,by simp at hlen;omega,?_,fun j bP xT=>hp.getElem bP⟩;have:=hp.getElem (i:=0) (by simp);simp only[Nw,e] at this;rw[this];exact an
end o
theorem WK (a:Nat):((a:Int)/9223372036854775808 != 0)=decide (9223372036854775808≤a):=by
 rw[mg,kR,ij];omega
theorem Ka {d:Nat} (aa:1≤d) (ae:d<18446744073709551616):nDigits d≤20:=by
 obtain⟨a,b⟩:=numDigits_eq d aa ae;split at a<;>omega
theorem ag8 (base a:Nat) (v:aw) (w:af) (dq:cB w base 5 1 v 0 []) (ad:base≤w.heap.size) (aS:a<18446744073709551616) (ar:a/4503599627370496%2048=0) (hm:a%4503599627370496≠0) (he:Env w) :
 aq ak 199 #[v,.float .f64 a,.int .u8 101,.int .i64 (-1)] w (Ck base v w (o.qu a)):=by
 have aa:=WE;have hex:bits .and .i64 ((a:Int)/4503599627370496) 2047=0:=by rw[Qp a aS,ar];rfl
 obtain⟨mt,o1⟩:∃mt:Nat,a%4503599627370496=mt:=⟨_,rfl⟩;have Qy:bits .and .u64 (a:Int) 4503599627370495=(mt:Int):=by rw[Qq a aS,o1]
 have Qz:mt<4503599627370496:=by omega
 have awz:1≤mt:=by omega
 have iu:((mt:Int)==0)=ab:=by rw[cH];omega
 obtain⟨aH,aT,aG,bj⟩:=o.Qu ar hm;have mO:=I (show o.mm a=mt by rw[aH,o1]);have mP:=I aT;have aN:=I (fun (w:af) bn b5=>WI a w (by omega) (by rw[aH];exact hm) bn b5);have uK:=I (o.Qw (a:=a) (by omega) (by rw[aH];exact hm));have cD:=I (show o.lv a=64-Lib.bitLen mt by unfold o.lv;rw[aH,o1]);have bF:=I dq;have di:=I o1;clear ar hm o1 aH aT dq;obtain⟨a0,c0,rfl⟩:=bF.out.form;go_enter func199,ntmps199;go_wp2;go_quiet (fail);go_wp2_with fail;have tw:=I (zU.mk' (n:=nq) he);generalize jy:(w.drewN nq).alloc (Obj.cells FB 208)=ag at tw ⊢;clear jy aa hex Qy;refine (bits_Len64 _ _ (by omega) (by omega)).mono ?_;rintro e w' ⟨rfl,rfl⟩;rw[qc];obtain⟨L,hH⟩:∃L,Lib.bitLen mt=L:=⟨_,rfl⟩;rw[hH];have WL:L+o.lv a=64:=by have:=cD.out;omega
 have ag9:=I WL;have Co:L≤52:=by omega
 have Cp:1≤L:=by omega
 clear WL hH;go_wp2_with fail;have WM:64-L=o.lv a:=by have:=ag9.out;omega
 have FC:IntKind.u64.wrap ((mt:Int)*2^(64-L))=((o.mm a*2^o.lv a:Nat):Int):=by
  have ao:=(o.Qt (x:=mt) (by omega) (by omega)).2;rw[←cD.out] at ao;rw[WM,mO.out,←pA ao];simp
 have FD:(-1022-(64-(L:Int))-52)=o.tu a-(o.lv a:Int):=by rw[mP.out];omega
 rw[FC,FD];clear FC FD WM;refine (aN.out _ tw.out.env.vT (by have:=tw.out.env.size;omega)).mono ?_;rintro e aP ⟨rfl,dP⟩;have vZ:=I (tw.out.below dP);obtain⟨d,p,kS,gv,gq,eU,fE⟩:∃d p,Hid (o.n2 a=(d,p))∧1≤d∧d<9223372036854775808∧-348≤p∧p≤349:=⟨_,_,I rfl,uK.out⟩;rw[kS.out];clear dP aN uK tw;have aB:=Ka gv (show d<18446744073709551616 by omega);have FE:=nDigits_pos d;have FF:d<18446744073709551616:=by omega
 go_wp2;go_region_with (first | (go_at_call 229;refine (internal_strconv_numDigits d gv FF _ (by exact vZ.out.env.vU)).mono ?_;rintro e w' ⟨rfl,rfl⟩) | (go_at_call 228;refine (Ww w.heap.size d p _ (by exact vZ.out.holds) FF aB ⟨by omega,by omega⟩).mono ?_;rintro e cc ⟨rfl,o2,hf,o0⟩));all_goals
  obtain⟨d0,r,zV,mn,_,kg⟩:=o.Qx gv;rw[zV];have kV:ah w.heap.size w cc:=(vZ.out.low.drew).trans hf;have dL:w.heap.size<cc.heap.size:=by rw[o0];exact vZ.out.size
  have xU:=I (show ∀j (h:j<(d0::r).length),cc.cell? ⟨w.heap.size,j,J⟩=U (nD (d0::r)[j]) from fun j h=>by
   have bP:j<(decDigits d).length:=by rw[EB];simp at h;omega
   rw[o2 j bP,kg j h bP])
  have sp:=I zV;have nF:=I kV;clear o2 hf o0 zV kg kV;simp only[ch];have ql:max ((r.length:Int)+1-1) 0=(r.length:Int):=by omega
  go_wp2_with fail;refine (WD _ base w.heap.size _ d0 r _ cc (bF.out.below nF.out (fun k aA=>(bF.out.lt k aA).2)) (by omega) (by omega) ⟨by omega,by omega⟩ xU.out (fun aA=>absurd (bF.out.lt _ aA).2 (by omega)) dL).mono ?_;rintro e aQ ⟨dv,rfl,uL,v7⟩;have FG:=I uL;have QA:=I v7;obtain⟨J8,J9,rfl⟩:=uL.form;clear uL v7;go_wp2;go_ret;have dZ:o.qu a=o.lR ((a:Int)/9223372036854775808 != 0) (d0::r) (nDigits d+p-1):=by
   unfold o.qu o.tv o.uJ;rw[kS.out,WK];simp only;rw[sp.out]
  refine⟨_,rfl,by rw[dZ];exact FG.out,Grow.trans ⟨⟨nF.out.os,nF.out.tape,nF.out.output,nF.out.size,fun k aA _=>nF.out.block k aA⟩,.inl rfl⟩ QA.out⟩
theorem ag' (base a:Nat) (v:aw) (w:af) (dq:cB w base 5 1 v 0 []) (ad:base≤w.heap.size) (aS:a<18446744073709551616) (ar:a/4503599627370496%2048≠0) (bd:a/4503599627370496%2048<2047) (he:Env w) :
 aq ak 199 #[v,.float .f64 a,.int .u8 101,.int .i64 (-1)] w (Ck base v w (o.qu a)):=by
 have aa:=WE;obtain⟨ex,QB⟩:∃ex:Nat,a/4503599627370496%2048=ex:=⟨_,rfl⟩;have hex:bits .and .i64 ((a:Int)/4503599627370496) 2047=(ex:Int):=by rw[Qp a aS,QB]
 have gu:1≤ex:=by omega
 have gg:ex≤2046:=by omega
 have aha:((ex:Int)==0)=ab:=by rw[cH];omega
 have awA:((ex:Int)==2047)=ab:=by rw[cH];omega
 obtain⟨mt,o1⟩:∃mt:Nat,a%4503599627370496=mt:=⟨_,rfl⟩;have Qy:bits .and .u64 (a:Int) 4503599627370495=(mt:Int):=by rw[Qq a aS,o1]
 have Qz:mt<4503599627370496:=by omega
 obtain⟨M,Cq⟩:∃M:Nat,mt+4503599627370496=M:=⟨_,rfl⟩;have dy:bits .or .u64 (mt:Int) 4503599627370496=(M:Int):=by rw[ag4 mt Qz,Cq]
 have o3:4503599627370496≤M:=by omega
 have uM:M<9007199254740992:=by omega
 have Kb:((M:Int)==0)=ab:=by rw[cH];omega
 obtain⟨aH,aT,b8⟩:=o.Qv ar;have aX:o.mm a≠0:=by rw[aH];omega
 have mO:=I (show o.mm a=M by rw[aH,o1,Cq]);have mP:=I (show o.tu a=(ex:Int)-1075 by rw[aT,QB]);have Fj:=I b8;have aN:=I (fun (w:af) bn b5=>WI a w bd aX bn b5);have uK:=I (o.Qw (a:=a) bd aX);have ahb:=I (show Lib.bitLen M=53 from o.Qs (k:=52) (by omega) (by simp;omega) (by simp;omega));have bF:=I dq;clear ar o1 aH aT b8 aX dq Cq QB bd;obtain⟨a0,c0,rfl⟩:=bF.out.form;go_enter func199,ntmps199;go_wp2;go_quiet (fail);go_wp2_with fail;have tw:=I (zU.mk' (n:=nq) he);generalize jy:(w.drewN nq).alloc (Obj.cells FB 208)=ag at tw ⊢;clear jy aa hex Qy dy;refine (bits_Len64 _ _ (by omega) (by omega)).mono ?_;rintro e w' ⟨rfl,rfl⟩;rw[qc];rw[ahb.out];go_wp2_with fail;have FC:((M:Int)*2048)=((o.mm a*2^o.lv a:Nat):Int):=by rw[mO.out,Fj.out];simp
 have FD:((ex:Int) + -1023-11-52)=o.tu a-(o.lv a:Int):=by rw[mP.out,Fj.out];omega
 rw[FC,FD];clear FC FD;refine (aN.out _ tw.out.env.vT (by have:=tw.out.env.size;omega)).mono ?_;rintro e aP ⟨rfl,dP⟩;have vZ:=I (tw.out.below dP);obtain⟨d,p,kS,gv,gq,eU,fE⟩:∃d p,Hid (o.n2 a=(d,p))∧1≤d∧d<9223372036854775808∧-348≤p∧p≤349:=⟨_,_,I rfl,uK.out⟩;rw[kS.out];clear dP aN uK tw;have aB:=Ka gv (show d<18446744073709551616 by omega);have FE:=nDigits_pos d;have FF:d<18446744073709551616:=by omega
 go_wp2;go_region_with (first | (go_at_call 229;refine (internal_strconv_numDigits d gv FF _ (by exact vZ.out.env.vU)).mono ?_;rintro e w' ⟨rfl,rfl⟩) | (go_at_call 228;refine (Ww w.heap.size d p _ (by exact vZ.out.holds) FF aB ⟨by omega,by omega⟩).mono ?_;rintro e cc ⟨rfl,o2,hf,o0⟩));all_goals
  obtain⟨d0,r,zV,mn,_,kg⟩:=o.Qx gv;rw[zV];have kV:ah w.heap.size w cc:=(vZ.out.low.drew).trans hf;have dL:w.heap.size<cc.heap.size:=by rw[o0];exact vZ.out.size
  have xU:=I (show ∀j (h:j<(d0::r).length),cc.cell? ⟨w.heap.size,j,J⟩=U (nD (d0::r)[j]) from fun j h=>by
   have bP:j<(decDigits d).length:=by rw[EB];simp at h;omega
   rw[o2 j bP,kg j h bP])
  have sp:=I zV;have nF:=I kV;clear o2 hf o0 zV kg kV;simp only[ch];have ql:max ((r.length:Int)+1-1) 0=(r.length:Int):=by omega
  go_wp2_with fail;refine (WD _ base w.heap.size _ d0 r _ cc (bF.out.below nF.out (fun k aA=>(bF.out.lt k aA).2)) (by omega) (by omega) ⟨by omega,by omega⟩ xU.out (fun aA=>absurd (bF.out.lt _ aA).2 (by omega)) dL).mono ?_;rintro e aQ ⟨dv,rfl,uL,v7⟩;have FG:=I uL;have QA:=I v7;obtain⟨J8,J9,rfl⟩:=uL.form;clear uL v7;go_wp2;go_ret;have dZ:o.qu a=o.lR ((a:Int)/9223372036854775808 != 0) (d0::r) (nDigits d+p-1):=by
   unfold o.qu o.tv o.uJ;rw[kS.out,WK];simp only;rw[sp.out]
  refine⟨_,rfl,by rw[dZ];exact FG.out,Grow.trans ⟨⟨nF.out.os,nF.out.tape,nF.out.output,nF.out.size,fun k aA _=>nF.out.block k aA⟩,.inl rfl⟩ QA.out⟩
theorem ahc (base a:Nat) (v:aw) (w:af) (dq:cB w base 5 1 v 0 []) (ad:base≤w.heap.size) (aS:a<18446744073709551616) (bd:a/4503599627370496%2048<2047) (aX:a%9223372036854775808≠0) (he:Env w) :
 aq ak 199 #[v,.float .f64 a,.int .u8 101,.int .i64 (-1)] w (Ck base v w (o.qu a)):=by
 by_cases ar:a/4503599627370496%2048=0
 ·exact ag8 base a v w dq ad aS ar (by omega) he
 ·exact ag' base a v w dq ad aS ar bd he
abbrev QC:Array aw:=#[.int .u8 0,.int .u8 0,.int .u8 0,.int .u8 0,.int .u8 0,.int .u8 0,.int .u8 0,.int .u8 0,.int .u8 0,.int .u8 0,.int .u8 0,.int .u8 0,.int .u8 0,.int .u8 0,.int .u8 0,.int .u8 0,.int .u8 0,.int .u8 0,.int .u8 0,.int .u8 0,.int .u8 0,.int .u8 0,.int .u8 0,.int .u8 0]
theorem ahd (w:af):(Instr.makeSlice 109 (.int .i64 0) (.int .i64 24)).run ak w=.ok (.slice (U ⟨w.heap.size,0,J⟩) 0 24) (w.alloc (.cells QC 5)):=by kernel_rfl
theorem ahe (w:af):cB (w.alloc (.cells QC 5)) w.heap.size 5 1 (.slice (U ⟨w.heap.size,0,J⟩) 0 24) 0 []:=
 ⟨rfl,.inr ⟨w.heap.size,24,_,(0,0),rfl,aC _,fX _ _,.inl (aC _),by decide,by decide,rfl,rfl⟩⟩
namespace o
theorem Kc (c:UInt8):∀(x y:List UInt8),c ∉ x→Lib.index (x++c::y) [c]=(x.length:Int)
 | [],y,_=>by simp[Lib.index,List.isPrefixOf]
 | a::x,y,h=>by
   have aS:a≠c:=fun e=>h (by simp[e]);have hx:c ∉ x:=fun e=>h (BE _ e);rw[rf,Lib.index,Kc c x y hx,aU (by simp[List.isPrefixOf];exact fun e=>aS e.symm),aU (by rw[gy];omega)];simp
theorem WN (c:UInt8):∀(x:List UInt8),c ∉ x→Lib.index x [c] = -1
 | [],_=>by simp[Lib.index]
 | a::x,h=>by
   have aS:a≠c:=fun e=>h (by simp[e]);have hx:c ∉ x:=fun e=>h (BE _ e);rw[Lib.index,WN c x hx,aU (by simp[List.isPrefixOf];exact fun e=>aS e.symm),ba (by simp)]
theorem ahf (c:UInt8) (x y:List UInt8) (h:c ∉ x):Lib.cut (x++c::y) [c]=(x,y,ai):=by
 unfold Lib.cut;rw[Kc c x y h,ba (by omega)];simp
theorem ahg (c:UInt8) (x y:List UInt8) (h:c ∉ x):Lib.replace (x++c::y) [c] [] 1=x++y:=by
 unfold Lib.replace;rw[aU (by simp)];have an:Lib.count (x++c::y) [c]=1+Lib.countFrom [c] (x++c::y).length y:=by
  unfold Lib.count;rw[Lib.countFrom,Kc c x y h,aU (by rw[gy];omega)];simp
 have aB:Lib.replaceNum (x++c::y) [c] 1=1:=by
  unfold Lib.replaceNum;rw[an,aU (by omega)];rfl
 rw[aB,Lib.replaceK_hit [c] [] 0 _ x.length (Kc c x y h)];simp[Lib.replaceK]
theorem ahh (c:UInt8) (x:List UInt8) (h:c ∉ x):Lib.replace x [c] [] 1=x:=by
 unfold Lib.replace;rw[aU (by simp)];have an:Lib.count x [c]=0:=by
  unfold Lib.count;rw[Lib.countFrom,WN c x h,ba (by simp)]
 have aB:Lib.replaceNum x [c] 1=0:=by
  unfold Lib.replaceNum;rw[an,ba (by omega)]
 rw[aB];simp[Lib.replaceK]
theorem WO:∀n:Fin 1000,Lib.atoi (jN (n.val:Int))=U (n.val:Int)∧Lib.atoi (jN (-(n.val:Int)))=U (-(n.val:Int)):=by decide +kernel
theorem ahi {x:Int} (aa:-999≤x) (ae:x≤999):Lib.atoi (jN x)=U x:=by
 by_cases h:0≤x
 ·have:=(WO ⟨x.toNat,by omega⟩).1;simpa[show ((x.toNat:Nat):Int)=x by omega] using this
 ·have:=(WO ⟨(-x).toNat,by omega⟩).2;simpa[show (((-x).toNat:Nat):Int) = -x by omega] using this
theorem ahj (x:Int):(jN x).length≤4:=by
 unfold jN;split<;>split<;>(try split)<;>simp
theorem ahk (u:Nat):∀c ∈ decDigits u,48≤c.toNat∧c.toNat≤57:=by
 induction u using Nat.strongRecOn with
 | _ u dw=>
   rw[decDigits];by_cases h5:u<10
   ·rw[dif_pos h5];intro c an;simp at an;subst an;simp;omega
   ·rw[dif_neg h5];intro c an;rcases List.mem_append.1 an with an | an
    ·exact dw (u/10) (by omega) c an
    ·simp at an;subst an;simp;omega
theorem ahl {d:Nat} {c:UInt8} (h:c ∈ sig d):48≤c.toNat∧c.toNat≤57:=ahk d c ((WJ _).mem h)
def kE (ds:List UInt8):List UInt8:=ds.take 1++(if ds.length≤1 then [] else 46::ds.drop 1)
theorem ahm (neg:Bool) (ds:List UInt8) (x:Int):lR neg ds x=(if neg then [45] else [])++(kE ds++101::jN x):=by
 unfold lR kE;simp
theorem Kd {c k:UInt8} (h:48≤c.toNat∧c.toNat≤57) (aA:k.toNat<48∨57<k.toNat):c≠k:=by
 intro e;subst e;omega
theorem head_mem {ds:List UInt8} {k:UInt8} (h:∀c ∈ ds,48≤c.toNat∧c.toNat≤57) (aA:k.toNat<48∨57<k.toNat) (Cr:k≠46):k ∉ kE ds:=by
 intro hm;unfold kE at hm;rcases List.mem_append.1 hm with hm | hm
 ·exact Kd (h k (qb hm)) aA rfl
 ·split at hm
  ·simp at hm
  ·rcases List.mem_cons.1 hm with hm | hm
   ·exact Cr hm
   ·exact Kd (h k (List.mem_of_mem_drop hm)) aA rfl
theorem ahn {ds:List UInt8} (h:∀c ∈ ds,48≤c.toNat∧c.toNat≤57):Lib.replace (kE ds) [46] [] 1=ds:=by
 have aB:∀l:List UInt8,(∀c ∈ l,c ∈ ds)→(46:UInt8) ∉ l:=fun l ao hm=>Kd (h _ (ao _ hm)) (k:=46) (by decide) rfl;unfold kE;by_cases ao:ds.length≤1
 ·rw[ba ao,sd,fp ao];exact ahh 46 ds (aB ds (fun _ x=>x))
 ·rw[aU ao,ahg 46 _ _ (aB _ (fun c an=>qb an)),xi]
theorem aho (ds:List UInt8):(kE ds).length≤ds.length+1:=by
 unfold kE;split<;>simp<;>omega
def pL (d:List UInt8) (p:Nat):List UInt8:=if p=d.length then d++[46,48] else d.take p++[46]++d.drop p
def written (d:List UInt8) (p:Int):List UInt8:=
 if p < -4∨15<p then pL d 1++[101]++Lib.itoa p
 else if p+1≤0 then [48,46]++Lib.repeatL [48] (-(p+1)).toNat++d
 else if (d.length:Int)<p+1 then pL (d++Lib.repeatL [48] (p+1-d.length).toNat) (p+1).toNat
 else pL d (p+1).toNat
def FH (a:Nat):List UInt8:=(if 9223372036854775808≤a then [45] else [])++written (tv a) (uJ a-1)
theorem WQ {a:Nat} (bd:a/4503599627370496%2048<2047) (aX:a%9223372036854775808≠0):(∀c ∈ tv a,48≤c.toNat∧c.toNat≤57)∧1≤(tv a).length∧(tv a).length≤20∧-369≤uJ a∧uJ a≤369:=by
 have hm:mm a≠0:=by unfold mm;split<;>omega
 obtain⟨aa,ae,aJ,bQ⟩:=Qw bd hm;have aB:=Ka aa (show (n2 a).1<18446744073709551616 by omega);have hp:=nDigits_pos (n2 a).1;obtain⟨d0,r,e,aF,_,_⟩:=Qx aa;refine⟨fun c an=>ahl an,?_,?_,?_,?_⟩
 ·unfold tv;rw[e];simp
 ·unfold tv;rw[e];simp;omega
 ·unfold uJ;omega
 ·unfold uJ;omega
end o
theorem ahp (a:Nat) (w:af) (aS:a<18446744073709551616) (bd:a/4503599627370496%2048<2047) (aX:a%9223372036854775808≠0) (he:Env w) :
 aq ak 177 #[.float .f64 a,.int .u8 101,.int .i64 (-1),.int .i64 64] w fun e w'=>e=.returned (.string ⟨(o.qu a).toArray⟩)∧ah w.heap.size w w':=by
 have xH:∀w:af,(Instr.makeSlice 109 (.int .i64 0) (.int .i64 (max 3 24))).run ak w=.ok (.slice (U ⟨w.heap.size,0,J⟩) 0 24) (w.alloc (.cells QC 5)):=ahd;have bZ:=I (ahc w.heap.size a _ _ (ahe w) (by simp) aS bd aX (he.below ((aK _ _).alloc (aC _) _)));go_enter func177,ntmps177;go_wp2_with fail;refine bZ.out.mono ?_;rintro e cq ⟨dv,rfl,b6,aY⟩;have ej:=Ch (P:=ak) 109 9 mL ke jH (l:=o.qu a) b6;have az:ah w.heap.size w cq:=aY.below ((aK _ _).alloc (aC _) _) (by simp) (fun k aA=>by simp[Value.ownBlock] at aA;omega);have ay:=I az;obtain⟨c7,fj,rfl⟩:=b6.form;obtain⟨s,a1⟩:∃s,(⟨(o.qu a).toArray⟩:ByteArray)=s:=⟨_,rfl⟩;rw[a1] at ej;have aN:=I a1;clear b6 aY az xH bZ a1;go_wp2;go_ret;exact⟨by rw[aN.out];rfl,ay.out⟩
theorem ahq (a:Nat) (w:af) (aS:a<18446744073709551616) (bd:a/4503599627370496%2048<2047) (aX:a%9223372036854775808≠0) (he:Env w) :
 aq ak 148 #[.float .f64 a,.int .u8 101,.int .i64 (-1),.int .i64 64] w fun e w'=>e=.returned (.string ⟨(o.qu a).toArray⟩)∧ah w.heap.size w w':=by
 have bZ:=I (ahp a w aS bd aX he);generalize (⟨(o.qu a).toArray⟩:ByteArray)=s at bZ ⊢;clear aS bd aX he;go_enter func148,ntmps148;go_wp2_with fail;refine bZ.out.mono ?_;rintro e cq ⟨rfl,az⟩;go_wp2;go_ret;exact⟨rfl,az⟩
end Go.Proofs.YtkhphoonnkoipaaGreatDoor
