/- Lemmas. -/
import Derived.Test.YtkhphoonnkoipaaGreatDoorVabh
set_option linter.all false
open Go.Proofs.Tryz Go.RowKit Go.Lib
open Option renaming some→U
open Go renaming Value→aw
namespace Go.Proofs.YtkhphoonnkoipaaGreatDoor
open Go Go.RowKit Go.ChangeShapes Go.WideShapes Go.Deep
section
variable {H:Type} {enc:TypeId×aw→H} {P:Program} {w:World} {base:Nat} {spare:Nat→Bool} {held:Bool}
theorem av8 {t e:TypeId} {vE:Array Field} {fuel:Nat} {cs:List aw} {x:DataW H×List MemPlace} (bn:P.underlying t=U (.slice e)) (he:P.underlying e=U (.struct vE))
 (VP:oneCellFields P vE=true) (hC:P.cellsOf e=vE.size) (h:DataW.trod enc P w base spare held fuel t cs=U x) :
 (cs=[.slice none 0 0]∧x=(.nil,[]))∨
 ∃(a:Addr) (len cap:Nat) (elems rest:List (DataW H×List MemPlace)),cs=[.slice (U a) len cap]∧len≤cap∧cap≤maxLen∧elems.length=len∧x.1=.slice (elems.map (·.1)) (rest.map (·.1))∧
   ∀i,i<len→∃(ys:List (DataW H×List MemPlace)) (m:Nat) (q:List MemPlace),m<fuel∧elems[i]? = U (.agg (ys.map (·.1)),q)∧
     ∀(j:Nat) (f:Field),vE[j]? = U f→∃(v:aw) (y:DataW H×List MemPlace),w.cell? (a.add (i*vE.size+j))=U v∧ys[j]? = U y∧DataW.trod enc P w base spare held m f.type [v]=U y:=by
 rcases I0 bn h with ar | ⟨a,len,cap,elems,rest,n,azW,rfl,rfl,ad,ao,hm,hlen,nY,_,_⟩
 ·exact .inl ar
 ·refine .inr ⟨a,len,cap,elems,rest,rfl,ao,hm,hlen,rfl,fun i aV=>?_⟩;have aa:=nY i aV;have afx:elems[i]? = U (elems[i]'(by omega)):=eE (by omega);rw[afx] at aa;obtain⟨Ni,an,av9⟩:=Option.bind_eq_some_iff.1 aa;rw[hC] at an;obtain⟨ys,j3,zW,aW,azX,o4,bd⟩:=IW he av9;obtain⟨_,lX,gM⟩:=IX an;refine⟨ys,j3,ys.flatMap (·.2),by omega,by rw[afx,aW],fun j f bP=>?_⟩;obtain⟨b6,aA⟩:=hone_of VP j f bP;have p2:j<vE.size:=(Array.getElem?_eq_some_iff.1 bP).1;have gz:=gM j p2;have aD:Ni[j]? = U (Ni[j]'(by omega)):=eE (by omega);have ae:=bd j f bP;rw[b6,aA] at ae;have av':(Ni.drop j).take 1=[Ni[j]'(by omega)]:=by
   rw[xh (by omega)];rfl
  rw[av'] at ae;have Cv:ys[j]? = U (ys[j]'(by omega)):=eE (by omega);refine⟨_,_,?_,Cv,ae.trans Cv⟩;rw[←Go.Deep.add_add,gz,aD]
theorem afy {e:TypeId}:∀{l:List (DataW H)} {d:DataW H},d ∈ l→∀n ∈ d.weights P e,n ∈ DataW.weightsAll P e l
 | [],_,h,_,_=>by simp at h
 | y::r,d,h,n,aB=>by
   simp only[DataW.weightsAll,I7];rcases List.mem_cons.1 h with rfl | h
   ·exact .inl aB
   ·exact .inr (afy h n aB)
theorem afz {t e:TypeId} {vE:Array Field} (bn:P.underlying t=U (.slice e)) (he:P.underlying e=U (.struct vE)) {elems rest:List (DataW H×List MemPlace)}
 (hw:∀n ∈ (DataW.slice (elems.map (·.1)) (rest.map (·.1)):DataW H).weights P t,n≤reachBytes) {i:Nat} {ys:List (DataW H×List MemPlace)} {q:List MemPlace} (aV:elems[i]? = U (.agg (ys.map (·.1)),q))
 {j:Nat} {f:Field} {y:DataW H×List MemPlace} (bP:vE[j]? = U f) (aW:ys[j]? = U y):∀n ∈ y.1.weights P f.type,n≤reachBytes:=by
 intro n aB;apply hw;simp only[DataW.weights,bn,uB,I7];refine .inr (.inl (afy (d:=.agg (ys.map (·.1))) ?_ n ?_))
 ·exact List.mem_map.2 ⟨_,r9 aV,rfl⟩
 ·simp only[DataW.weights,he];refine V9 (j:=j) (t:=f.type) (d:=y.1) ?_ ?_ n aB
  ·rw[ps];simp[bP]
  ·rw[ps,aW];rfl
theorem awa {t e:TypeId} (bn:P.underlying t=U (.slice e)) (ad:1≤P.bytesOf e) {elems rest:List (DataW H)} (hw:∀n ∈ (DataW.slice elems rest:DataW H).weights P t,n≤reachBytes):elems.length≤140737488355328:=by
 have:=hw _ (show (elems.length+rest.length)*P.bytesOf e ∈ _ by simp[DataW.weights,bn]);have ae:(elems.length+rest.length)*1≤(elems.length+rest.length)*P.bytesOf e:=gp _ ad;unfold reachBytes at this;omega
theorem awb (b a7 k:Nat):(⟨b,a7,none⟩:Addr).add k=⟨b,a7+k,none⟩:=by
 unfold Addr.add;by_cases h:k=0<;>simp[h]
instance:Inhabited o.Lit:=⟨.mk 0 0 0 ⟨#[]⟩ []⟩
instance:Inhabited aw:=⟨.nilFunc⟩
theorem awc {α:Type} {size:Nat} {cs:α→aw→List aw} (dT:∀x v,0<(cs x v).length) {a:Addr} {len cap:Nat} (ao:len≤cap) (hm:cap≤maxLen) (hlen:len≤140737488355328) (f:Nat→α×aw)
 (bd:∀i,i<len→∀j u,(cs (f i).1 (f i).2)[j]? = U u→w.cell? (a.add (i*size+j))=U u) :
 s3 size cs w ((List.range len).map fun i=>(f i).1) (U a) cap (fun i=>(f i).2)∧(((List.range len).map fun i=>(f i).1)≠[]→∀b,U a=U b→b.block<w.heap.size):=by
 have bV:((List.range len).map fun i=>(f i).1)≠[]→0<len:=by
  intro h;rcases kd len with rfl | ae
  ·simp at h
  ·exact ae
 have afA:0<len→∃u,w.cell? a=U u:=by
  intro ar;have:=bd 0 ar 0 _ (eE (dT _ _));exact⟨_,by simpa[Addr.add] using this⟩
 have Nj:((List.range len).map fun i=>(f i).1)≠[]→∀b,U a=U b→b.block<w.heap.size:=by
  intro h b ad;cases ad;obtain⟨u,hu⟩:=afA (bV h);exact World.block_lt_of_cell? _ _ hu
 refine⟨⟨by simpa using ao,hm,by simpa using hlen,?_,fun h=>(by cases h),Nj,?_⟩,Nj⟩
 ·intro h;obtain⟨u,hu⟩:=afA (bV h);obtain⟨b,a7,awd⟩:=a;obtain rfl:awd=none:=World.cell?_spot hu;exact⟨b,a7,rfl⟩
 ·intro b a7 e i x hx j u hu;cases e;rw[ps] at hx;obtain⟨k,aA,rfl⟩:=Option.map_eq_some_iff.1 hx;obtain⟨awe,rfl⟩:k<len∧k=i:=by
   obtain⟨aa,ae⟩:=List.getElem?_eq_some_iff.1 aA;simp at aa ae;exact⟨by omega,by omega⟩
  have:=bd k awe j u hu;rwa[awb,←nW] at this
theorem awf {z' gr:TypeId} {g0 g1 g2 g3 g4:Field} (bn:P.underlying z'=U (.slice gr)) (he:P.underlying gr=U (.struct #[g0,g1,g2,g3,g4])) (VP:oneCellFields P #[g0,g1,g2,g3,g4]=true) (hC:P.cellsOf gr=5) (tg:1≤P.bytesOf gr)
 (dO:P.underlying g0.type=U (.int .u8)) (dV:P.underlying g1.type=U (.int .i64)) (dS:P.underlying g2.type=U (.int .u64)) (kr:P.underlying g3.type=U .string) (j8:g4.type=z') :
 ∀(fuel:Nat) (v:aw) (x:DataW H×List MemPlace),DataW.trod enc P w base spare held fuel z' [v]=U x→(∀n ∈ x.1.weights P z',n≤reachBytes)→∃l:List o.Lit,mf w.heap.size w l v:=by
 intro fuel;induction fuel using Nat.strongRecOn with
 | _ fuel dw=>
   intro v x h hw;rcases av8 bn he VP hC h with ⟨aD,_⟩ | ⟨a,len,cap,elems,rest,aD,ao,hm,hlen,hx,aV⟩
   ·cases aD;exact⟨[],.mk none [] 0 (fun _=>.nilFunc) (fun h=>absurd rfl h) ⟨aC _,il _,il _,fun h=>absurd rfl h,fun _=>rfl,fun h=>absurd rfl h,fun _ _ e=>by cases e⟩ (fun _ h=>by cases h) (fun _ _ h=>by simp at h)⟩
   ·cases aD;rw[hx] at hw;have Lx:len≤140737488355328:=by have:=awa bn tg hw;rw[rh] at this;omega
    have nY:∀i,i<len→∃p:o.Lit×aw,o.IF p.1∧mf w.heap.size w p.1.items p.2∧∀j u,(xg p.1 p.2)[j]? = U u→w.cell? (a.add (i*5+j))=U u:=by
     intro i ko;obtain⟨ys,m,q,jl,mR,bd⟩:=aV i ko;obtain⟨v0,l9,c0,d0,t0⟩:=bd 0 g0 rfl;obtain⟨v1,ou,c1,d1,t1⟩:=bd 1 g1 rfl;obtain⟨v2,a',c2,d2,t2⟩:=bd 2 g2 rfl;obtain⟨v3,y3,c3,d3,t3⟩:=bd 3 g3 rfl;obtain⟨v4,y4,c4,d4,t4⟩:=bd 4 g4 rfl;obtain⟨kj,ck,cl,aR⟩:=xt dO t0;obtain⟨dE,aH,bH,cq⟩:=xt dV t1;obtain⟨lu,aT,cN,aP⟩:=xt dS t2;obtain⟨s,b8,fV,cc⟩:=DataW.trod_string kr t3;cases ck;cases aH;cases aT;cases b8;subst cl bH cN fV;rw[j8] at t4;obtain⟨DF,MB⟩:=dw m jl v4 y4 t4 (by rw[←j8];exact afz bn he hw mR (j:=4) rfl d4);have aM:0≤kj∧kj≤255:=by simpa[Lit.wf,IntKind.min,IntKind.max,IntKind.signed,IntKind.bits] using aR
     have aG:-9223372036854775808≤dE∧dE≤9223372036854775807:=by simpa[Lit.wf,IntKind.min,IntKind.max,IntKind.signed,IntKind.bits] using cq
     have bj:0≤lu∧lu≤18446744073709551615:=by simpa[Lit.wf,IntKind.min,IntKind.max,IntKind.signed,IntKind.bits] using aP
     have bq:s.size≤140737488355328:=by
      have:=afz bn he hw mR (j:=3) rfl d3 s.data.toList.length (by simp[DataW.weights]);unfold reachBytes at this;have e:s.data.toList.length=s.size:=by simp
      omega
     refine⟨(.mk kj.toNat dE lu.toNat s DF,v4),⟨?_,aG.1,aG.2,?_,bq⟩,MB,?_⟩
     ·show kj.toNat<256;omega
     ·show lu.toNat<18446744073709551616;omega
     ·intro j u hu;have z0:((kj.toNat:Nat):Int)=kj:=by omega
      have z2:((lu.toNat:Nat):Int)=lu:=by omega
      match j,hu with
      | 0,hu=>cases hu;rw[show (o.Lit.mk kj.toNat dE lu.toNat s DF).kind=kj.toNat from rfl,z0];exact c0
      | 1,hu=>cases hu;exact c1
      | 2,hu=>cases hu;rw[show (o.Lit.mk kj.toNat dE lu.toNat s DF).bits=lu.toNat from rfl,z2];exact c2
      | 3,hu=>cases hu;exact c3
      | 4,hu=>cases hu;exact c4
      | j+5,hu=>simp[xg] at hu
    obtain⟨f,bd⟩:=choose_lt nY;obtain⟨cj,Nj⟩:=awc (cs:=xg) (fun _ _=>by simp[xg]) ao hm Lx f (fun i aV=>(bd i aV).2.2);refine⟨(List.range len).map fun i=>(f i).1,?_⟩;have aeX:((List.range len).map fun i=>(f i).1).length=len:=by simp
    have afB:∀(i:Nat) (x:o.Lit),((List.range len).map fun i=>(f i).1)[i]? = U x→i<len∧x=(f i).1:=by
     intro i x hx;rw[ps] at hx;obtain⟨k,aA,rfl⟩:=Option.map_eq_some_iff.1 hx;obtain⟨aa,ae⟩:=List.getElem?_eq_some_iff.1 aA;simp at aa ae;subst ae;exact⟨aa,rfl⟩
    have key:=mf.mk (B:=w.heap.size) (w:=w) (U a) ((List.range len).map fun i=>(f i).1) cap (fun i=>(f i).2) Nj cj
     (fun x hx=>by obtain⟨i,xQ⟩:=List.mem_iff_getElem?.1 hx;obtain⟨aa,rfl⟩:=afB i x xQ;exact (bd i aa).1)
     (fun i x hx=>by obtain⟨aa,rfl⟩:=afB i x hx;exact (bd i aa).2.1)
    rwa[aeX] at key
end
end Go.Proofs.YtkhphoonnkoipaaGreatDoor
