/- Lemmas. -/
import Derived.Test.YtkhphoonnkoipaaGreatDoorVa0
import Derived.Lib.AppendStr
import Derived.Lib.ConvBytes
import Derived.Shelf.Small.Strs
import Derived.Shelf.LaysM
set_option linter.all false
open Go.Proofs.Tryz Go.RowKit Go.Lib
open Option renaming none→J,some→U
open Go renaming World→af,Value→aw,Addr→ho
namespace Go.Proofs.YtkhphoonnkoipaaGreatDoor
def cB (w:af) (base:Nat) (e:TypeId) (size:Nat) (v:aw) (n:Nat) (xs:List aw):Prop:=
 xs.length=n*size∧
 ((v=.slice J 0 0∧n=0)∨
  ∃g cap cur fY,v=.slice (U ⟨g,0,J⟩) n cap∧base≤g∧w.heap[g]? = U (.cells cur e fY)∧(fY.2≤fY.1∨cap*size≤fY.1)∧n≤cap∧cap≤maxLen∧cur.size=cap*size∧cur.toList.take (n*size)=xs)
def Grow (w:af) (v:aw) (w':af) (dv:aw):Prop:=
 w.grownBy w' v.ownBlock∧(dv.ownBlock=v.ownBlock∨∀k,dv.ownBlock=U k→w.heap.size≤k)
section
variable {w:af} {base:Nat} {e:TypeId} {size:Nat} {v:aw} {n:Nat} {xs:List aw}
theorem Grow.refl (w:af) (v:aw):Grow w v w v:=⟨⟨rfl,rfl,rfl,aC _,fun _ _ _=>rfl⟩,.inl rfl⟩
theorem Grow.trans {w cq aP:af} {v v1 v2:aw} (h:Grow w v cq v1) (k:Grow cq v1 aP v2):Grow w v aP v2:=by
 obtain⟨aa,ae⟩:=h;obtain⟨aG,bj⟩:=k;have a1:=aa.size;refine⟨⟨aG.os.trans aa.os,aG.tape.trans aa.tape,aG.output.trans aa.output,cp aa.size aG.size,fun j bP dT=>?_⟩,?_⟩
 ·refine (aG.block j (by omega) ?_).trans (aa.block j bP dT);rcases ae with ae | ae
  ·rw[ae];exact dT
  ·intro e;have:=ae j e.symm;omega
 ·rcases bj with bj | bj
  ·rw[bj];exact ae
  ·exact .inr fun j bP=>by have:=bj j bP;omega
theorem Grow.alloc (w:af) (v:aw) (a7:Obj):Grow w v (w.alloc a7) v:=
 ⟨h1 w a7 _,.inl rfl⟩
theorem Grow.drew (w:af) (v:aw):Grow w v w.drew v:=⟨⟨rfl,rfl,rfl,aC _,fun _ _ _=>rfl⟩,.inl rfl⟩
theorem Grow.below {aR w w':af} {v dv:aw} {B:Nat} (h:Grow w v w' dv) (ad:Below B aR w) (az:B≤w.heap.size) (aD:∀k,v.ownBlock=U k→B≤k):Below B aR w':=
 ad.grown h.1 az aD
theorem cB.nil (w:af) (base:Nat) (e:TypeId) (size:Nat):cB w base e size (.slice J 0 0) 0 []:=⟨by simp,.inl ⟨rfl,rfl⟩⟩
theorem cB.lt (h:cB w base e size v n xs):∀k,v.ownBlock=U k→base≤k∧k<w.heap.size:=by
 intro k aA;rcases h.2 with ⟨rfl,_⟩ | ⟨g,cap,cur,fY,rfl,ad,aY,_⟩
 ·simp[Value.ownBlock] at aA
 ·simp[Value.ownBlock] at aA;subst aA;exact⟨ad,(Array.getElem?_eq_some_iff.1 aY).1⟩
theorem cB.kept {w':af} {row:Option Nat} (h:cB w base e size v n xs) (aY:w.grownBy w' row) (dT:v.ownBlock=J∨v.ownBlock≠row):cB w' base e size v n xs:=by
 refine⟨h.1,?_⟩;rcases h.2 with aB | ⟨g,cap,cur,fY,rfl,ad,b4,rest⟩
 ·exact .inl aB
 ·refine .inr ⟨g,cap,cur,fY,rfl,ad,?_,rest⟩;rw[aY.block g (Array.getElem?_eq_some_iff.1 b4).1 (by simpa[Value.ownBlock] using dT)];exact b4
theorem cB.alloc (h:cB w base e size v n xs) (a7:Obj):cB (w.alloc a7) base e size v n xs:=
 h.kept (h1 w a7 J) (by cases v.ownBlock<;>simp)
theorem cB.drew (h:cB w base e size v n xs):cB w.drew base e size v n xs:=h
theorem cB.below {w':af} {B:Nat} (h:cB w base e size v n xs) (ad:Below B w w') (az:∀k,v.ownBlock=U k→k<B):cB w' base e size v n xs:=by
 refine⟨h.1,?_⟩;rcases h.2 with aB | ⟨g,cap,cur,fY,rfl,dD,b4,rest⟩
 ·exact .inl aB
 ·exact .inr ⟨g,cap,cur,fY,rfl,dD,(ad.block g (az g rfl)).trans b4,rest⟩
theorem cB.cells (h:cB w base e size v n xs) {g:Nat} (aY:v.ownBlock=U g):∀j u,xs[j]? = U u→w.cell? ((⟨g,0,J⟩:ho).add j)=U u:=by
 intro j u hu;rcases h.2 with ⟨rfl,_⟩ | ⟨pD,cap,cur,fY,rfl,_,b4,_,_,_,_,J2⟩
 ·simp[Value.ownBlock] at aY
 ·simp[Value.ownBlock] at aY;subst aY;have qn:(⟨pD,0,J⟩:ho).add j=⟨pD,j,J⟩:=by unfold Addr.add;split<;>simp_all
  rw[qn,cell_of_row w pD j cur e fY b4];rw[←J2,rb] at hu;split at hu
  ·simpa using hu
  ·cases hu
theorem cB.agO (h:w.ownsRow base e size v n xs):cB w base e size v n xs:=by
 refine⟨h.1,?_⟩;rcases h.2 with aB | ⟨g,cap,cur,aD,ad,aY,rest⟩
 ·exact .inl aB
 ·exact .inr ⟨g,cap,cur,(0,0),aD,ad,aY,.inl (aC _),rest⟩
theorem cB.form (h:cB w base e size v n xs):∃a c,v=.slice a n c:=by
 rcases h.2 with ⟨rfl,rfl⟩ | ⟨g,cap,cur,fY,rfl,_⟩
 ·exact⟨_,_,rfl⟩
 ·exact⟨_,_,rfl⟩
end
theorem Wy (P:Program) (g a7:Nat) (t:TypeId) (fY:Nat×Nat):∀(vs:List aw) (i:Nat) (cur:Array aw) (w:af),w.heap[g]? = U (.cells cur t fY)→(fY.2≤fY.1∨a7+i+vs.length≤fY.1)→a7+i+vs.length≤cur.size→(∀v ∈ vs,v.oneCell'=true)→
 (storeCells ⟨g,a7,J⟩ vs i).run P w=.ok () (w.setRow g (cur.toList.take (a7+i)++vs++cur.toList.drop (a7+i+vs.length)).toArray)
 | [],i,cur,w,aY,_,_,_=>by
   simp only[storeCells,sd,du,jd,xi,Array.toArray_toList];rw[setRow_self w g cur t fY aY];rfl
 | v::rest,i,cur,w,aY,qo,ao,aa=>by
   have aV:a7+i<cur.size:=by simp at ao;omega
   have qn:(⟨g,a7,J⟩:ho).add i=⟨g,a7+i,J⟩:=by unfold Addr.add;split<;>simp_all
   have gz:w.cell? ⟨g,a7+i,J⟩=U cur[a7+i]:=by simp[World.cell?,aY,aV]
   have agP:w.frozen? ⟨g,a7+i,J⟩=false:=by
    obtain⟨lo,xQ⟩:=fY;simp only[World.frozen?,aY,BB,ux];simp only[ch] at qo;omega
   have ej:(store ((⟨g,a7,J⟩:ho).add i) v).run P w=.ok () (w.setRow g (cur.setIfInBounds (a7+i) v)):=by
    rw[qn,run_store P w _ v _ (aa v (by simp)),gz];simp[agP,setCell_eq_setRow w g (a7+i) cur t fY v aY]
   have dw:=Wy P g a7 t fY rest (i+1) (cur.setIfInBounds (a7+i) v) (w.setRow g (cur.setIfInBounds (a7+i) v)) (setRow_heap w g cur _ t _ aY) (by simp at qo;omega) (by simp at ao ⊢;omega) (fun x hx=>aa x (by simp[hx]));simp only[storeCells,Sem.run_bind,ej,NY,dw,setRow_setRow];congr 3;have e:=list_seg_step cur.toList (a7+i) v rest (by simp at ao ⊢;omega);simpa[Bw,nW] using e
section
variable {P:Program} {w:af} {base:Nat} {e:TypeId} {size:Nat} {v:aw} {n:Nat} {xs:List aw}
theorem cB.grown (z:aw) (Cf:z.cells.size=size) (xs:List aw) (n rm:Nat) (hlen:xs.length=n*size) (vY:n≤maxLen) (tn:base≤w.heap.size) (u:aw) :
 cB (w.drew.alloc (.cells (xs.toArray++Builtin.zeroCells z.cells (grownCap w n rm e-n)) e)) base e size (.slice (U ⟨w.heap.size,0,J⟩) n (grownCap w n rm e)) n xs∧
 Grow w u (w.drew.alloc (.cells (xs.toArray++Builtin.zeroCells z.cells (grownCap w n rm e-n)) e)) (.slice (U ⟨w.heap.size,0,J⟩) n (grownCap w n rm e)):=by
 have fR:=grownCap_ge w n rm e;have kf:grownCap w n rm e≤maxLen:=grownCap_le_maxLen w n rm e vY;refine⟨⟨hlen,.inr ⟨w.heap.size,_,_,(0,0),rfl,tn,heap_alloc_new w.drew _,.inl (aC _),fR,kf,?_,?_⟩⟩,⟨⟨rfl,rfl,rfl,by simp,fun k aA _=>EC w.drew _ k aA⟩,.inr fun k aA=>?_⟩⟩
 ·simp only[Array.size_append,List.size_toArray,size_zeroCells,Cf,hlen,←ff];congr 1;omega
 ·simp only[Array.toList_append];rw[←hlen];exact Oq
 ·simp[Value.ownBlock] at aA;omega
theorem cB.room {g cap:Nat} {cur:Array aw} {fY:Nat×Nat} {news:List aw} {m:Nat} (Fu:cur.toList.take (n*size)=xs) (gH:xs.length=n*size) (ao:news.length=m*size) (kD:base≤g)
 (aY:w.heap[g]? = U (.cells cur e fY)) (qo:fY.2≤fY.1∨cap*size≤fY.1) (kf:cap≤maxLen) (jL:cur.size=cap*size) (Cg:n+m≤cap) :
 cB (w.setRow g (cur.toList.take (n*size)++news++cur.toList.drop (n*size+news.length)).toArray) base e size (.slice (U ⟨g,0,J⟩) (n+m) cap) (n+m) (xs++news)∧
 Grow w (.slice (U ⟨g,0,J⟩) n cap) (w.setRow g (cur.toList.take (n*size)++news++cur.toList.drop (n*size+news.length)).toArray) (.slice (U ⟨g,0,J⟩) (n+m) cap):=by
 have hlen:(xs++news).length=(n+m)*size:=by rw[ey,gH,ao,ff]
 have hle:(n+m)*size≤cap*size:=fD _ Cg;have aS:n*size+m*size=(n+m)*size:=(ff n m size).symm;refine⟨⟨hlen,.inr ⟨g,cap,_,fY,rfl,kD,setRow_heap w g cur _ e _ aY,qo,Cg,kf,?_,?_⟩⟩,⟨⟨rfl,rfl,rfl,by simp,fun k _ aA=>setRow_other w g k _ (fun e=>aA (by simp[Value.ownBlock,e]))⟩,.inl rfl⟩⟩
 ·simp only[List.size_toArray,ey,gN,zo,uz];omega
 ·rw[Fu,←hlen];exact Oq
theorem agQ (t ty:TypeId) (i:TypeInfo) (z:aw) (bytes:Nat) (bn:P.underlying t=U (.slice e)) (aV:P.info? e=U i) (aX:i.zero=U z)
 (P9:i.size=size) (tg:i.bytes=bytes) (Cf:z.cells.size=size) (dq:cB w base e size v n xs)
 (a:ho) (m c:Nat) (news:List aw) (ao:news.length=m*size) (Fv:∀j u,news[j]? = U u→w.cell? (a.add j)=U u) (aa:∀u ∈ news,u.oneCell'=true)
 (vY:n+m≤maxLen) (J3:(n+m)*bytes≤140737488355328) (tn:base≤w.heap.size) :
 ∃dv w',(Builtin.append_ #[t,t] ty #[v,.slice (U a) m c]).run P w=.ok dv w'∧cB w' base e size dv (n+m) (xs++news)∧Grow w v w' dv:=by
 subst P9;subst tg;have qp:n+m≤9223372036854775807:=by simp only[maxLen] at vY;omega
 have hlen:(xs++news).length=(n+m)*i.size:=by rw[ey,dq.1,ao,ff]
 rcases dq.2 with ⟨rfl,rfl⟩ | ⟨g,cap,cur,fY,rfl,kD,aY,qo,tp,kf,jL,J2⟩
 ·have hx:xs=[]:=r7 (by simpa using dq.1);subst hx;by_cases hm:m=0
  ·subst hm;have aB:news=[]:=r7 (by simpa using ao);subst aB;refine⟨.slice J 0 0,w,?_,cB.nil w base e i.size,Grow.refl _ _⟩;simp[Builtin.append_,EH bn,sizeOf,typeInfo,aV,Builtin.lenOf,Builtin.firstCells,loadCells,loadCellsFrom]
  ·have aF:=run_append_nil (P:=P) w t ty e i z bn aV aX a m c news ao Fv (by omega) (by omega) (by have ad:=J3;simp only[hc] at ad;omega);obtain⟨iq,jM⟩:=cB.grown (w:=w) (base:=base) (e:=e) z Cf news m 0 ao (by omega) tn (.slice J 0 0);simp only[hc,se];exact⟨_,_,aF,iq,jM⟩
 ·by_cases Cg:n+m≤cap
  ·have hle:(n+m)*i.size≤cap*i.size:=fD _ Cg;have aS:n*i.size+m*i.size=(n+m)*i.size:=(ff n m i.size).symm;have bd:=run_firstCells_some (P:=P) w i.size m a m c news ao Fv;have ej:=Wy P g (n*i.size) e fY news 0 cur w aY (by omega) (by omega) aa;simp only[jd] at ej;obtain⟨iq,jM⟩:=cB.room (w:=w) (base:=base) (e:=e) J2 dq.1 ao kD aY qo kf jL Cg;refine⟨_,_,?_,iq,jM⟩;simp[Builtin.append_,EH bn,sizeOf,typeInfo,aV,Builtin.lenOf,Cg,bd,Jn,ej]
  ·have holds:∀j u,xs[j]? = U u→w.cell? ((⟨g,0,J⟩:ho).add j)=U u:=dq.cells (g:=g) rfl;have aF:=run_append_grow (P:=P) w t ty e i z bn aV aX ⟨g,0,J⟩ n cap xs dq.1 holds a m c news ao Fv (by omega) (by omega) (growslice_fits (by omega) J3);obtain⟨iq,jM⟩:=cB.grown (w:=w) (base:=base) (e:=e) z Cf (xs++news) (n+m) cap hlen vY tn (.slice (U ⟨g,0,J⟩) n cap);rw[show xs.toArray++news.toArray=(xs++news).toArray from by simp] at aF;exact⟨_,_,aF,iq,jM⟩
variable {ops:Array Oper} {rest:List Oper} {a7:Oper} {a:Act} {Q:Exit→Act→af→Prop}
theorem J4 (eT:a7.guard=J) (s x:Operand) (t:TypeId)
 (b6:a7.op=.call { callee:=.builtin .append,args:=#[s,x],argTypes:=#[t,t] })
 (base:Nat) (e:TypeId) (i:TypeInfo) (z:aw) (size bytes:Nat) (bn:P.underlying t=U (.slice e)) (aV:P.info? e=U i) (aX:i.zero=U z)
 (P9:i.size=size) (tg:i.bytes=bytes) (Cf:z.cells.size=size)
 (v:aw) (n:Nat) (xs:List aw) (a1:a.eval s=v) (dq:cB w base e size v n xs)
 (P':ho) (m c:Nat) (news:List aw) (hx:a.eval x=.slice (U P') m c) (ao:news.length=m*size) (Fv:∀j u,news[j]? = U u→w.cell? (P'.add j)=U u) (aa:∀u ∈ news,u.oneCell'=true)
 (vY:n+m≤maxLen) (J3:(n+m)*bytes≤140737488355328) (tn:base≤w.heap.size)
 (h:∀dv w',cB w' base e size dv (n+m) (xs++news)→Grow w v w' dv→wpList P ops Q rest (a.put a7.dst dv) w'):wpList P ops Q (a7::rest) a w:=by
 refine wpList_plain eT fun K hK=>?_;obtain⟨dv,w',aF,ae,aJ⟩:=agQ (P:=P) t a7.type i z bytes bn aV aX P9 tg Cf dq P' m c news ao Fv aa vY J3 tn;unfold Oper.wp execOp;simp only[b6,resolve,invoke,builtin,Sem.run_bind,O7,NY,List.map_toArray,tb,EX,a1,hx,aF];exact hK _ _ (h dv w' ae aJ)
theorem cB.ofString (w:af) (base:Nat) (e:TypeId) (s:ByteArray) (a1:s.size≤maxLen) (ad:base≤w.heap.size) :
 cB (bytesWorld w e s) base e 1 (.slice (U ⟨w.heap.size,0,J⟩) s.size (grownCap w s.size 0 e)) s.size (strCells s):=by
 have fR:=grownCap_ge w s.size 0 e;have kf:grownCap w s.size 0 e≤maxLen:=grownCap_le_maxLen w s.size 0 e a1;have aX:(bytesCells w e s).size=grownCap w s.size 0 e:=by
  have:s.data.size=s.size:=rfl;simp[bytesCells];omega
 refine⟨by rw[strCells_length,fI],.inr ⟨w.heap.size,_,bytesCells w e s,_,rfl,ad,bytesWorld_at_new w e s,?_,fR,kf,by rw[aX,fI],?_⟩⟩
 ·right;simp only;rw[aX,fI];exact aC _
 ·have ao:(strCells s).length=s.size*1:=by rw[strCells_length,fI]
  have aH:(bytesCells w e s).toList=strCells s++List.replicate (grownCap w s.size 0 e-s.size) (.int .u8 0):=by
   simp[bytesCells,strCells]
  rw[aH,←ao];exact Oq
theorem bytesWorld_below (w:af) (e:TypeId) (s:ByteArray):Below w.heap.size w (bytesWorld w e s):=
 ⟨rfl,rfl,rfl,by rw[bytesWorld_size];omega,fun k aA=>bytesWorld_at_old w e s k aA⟩
theorem foldl_push:∀(l:List UInt8) (s:ByteArray),((l.map fun b=>(b.toNat:Int)).foldl (fun r n=>r.push (UInt8.ofNat n.toNat)) s)=⟨s.data++l.toArray⟩
 | [],s=>by simp
 | b::r,s=>by
   simp only[tb,EG];rw[foldl_push r];simp[ByteArray.push]
theorem Ch {P:Program} {w:af} (src dst:TypeId) (a1:P.underlying src=U (.slice e)) (he:P.underlying e=U (.int .u8)) (aL:P.underlying dst=U .string)
 {l:List UInt8} (dq:cB w base e 1 v n (l.map fun b=>Value.int .u8 b.toNat)):(convert src dst v).run P w=.ok (.string ⟨l.toArray⟩) w:=by
 rcases dq.2 with ⟨rfl,rfl⟩ | ⟨g,cap,cur,fY,rfl,kD,aY,qo,tp,kf,jL,J2⟩
 ·have hx:l=[]:=r7 (by simpa using dq.1);subst hx;rw[IJ w src dst e J 0 0 a1 he aL];simp[Conv.bytesToString,O7];rfl
 ·rw[IJ w src dst e _ n cap a1 he aL];have aB:l.length=n:=by simpa using dq.1
  have an:=dq.cells (g:=g) rfl;have Qa:(loadCells ⟨g,0,J⟩ n).run P w=.ok ((l.map fun b=>(b.toNat:Int)).map (Value.int .u8)).toArray w:=by
   have ae:=run_loadCells_list (P:=P) w ⟨g,0,J⟩ (l.map fun b=>Value.int .u8 b.toNat) an;rw[rh,aB] at ae;rw[ae,BR];rfl
  rw[run_bytesToString w ⟨g,0,J⟩ n cap _ Qa,foldl_push];simp
end
end Go.Proofs.YtkhphoonnkoipaaGreatDoor
namespace Go.Proofs.YtkhphoonnkoipaaGreatDoor
section
variable {w:af} {base:Nat} {e:TypeId} {size:Nat} {v:aw} {n:Nat} {xs:List aw}
theorem aiC (w:af) (g j:Nat) (u:aw) {cur:Array aw} {e:TypeId} {fY:Nat×Nat} (h:w.heap[g]? = U (.cells cur e fY)) :
 (w.setCell ⟨g,j,J⟩ u).heap[g]? = U (.cells (cur.setIfInBounds j u) e fY):=by
 simp only[World.setCell,lp,ba,h];rfl
theorem cB.stored {g cap:Nat} (h:cB w base e size (.slice (U ⟨g,0,J⟩) n cap) n xs) {j:Nat} (u:aw) :
 cB (w.setCell ⟨g,j,J⟩ u) base e size (.slice (U ⟨g,0,J⟩) n cap) n (xs.set j u):=by
 refine⟨by rw[mh];exact h.1,?_⟩;rcases h.2 with ⟨aa,_⟩ | ⟨pD,WY,cur,fY,aa,ad,aY,qo,tp,kf,jL,bn⟩
 ·cases aa
 ·injection aa with aa _ ae;injection aa with aa;injection aa with aa;subst aa ae;refine .inr ⟨g,cap,_,fY,rfl,ad,aiC w g j u aY,qo,tp,kf,by simpa using jL,?_⟩;rw[Bw,List.take_set,bn]
theorem cB.aiD (h:cB w base e size v n xs) {a:ho} (u:aw) (dT:v.ownBlock≠U a.block):cB (w.setCell a u) base e size v n xs:=by
 refine⟨h.1,?_⟩;rcases h.2 with aB | ⟨g,cap,cur,fY,rfl,ad,b4,rest⟩
 ·exact .inl aB
 ·refine .inr ⟨g,cap,cur,fY,rfl,ad,?_,rest⟩;rw[Below.heap_setCell _ _ _ _ (fun e=>dT (by simp[Value.ownBlock,e]))];exact b4
theorem cB.free {g cap:Nat} (h:cB w base e size (.slice (U ⟨g,0,J⟩) n cap) n xs) {j:Nat} (bP:j<cap*size):w.frozen? ⟨g,j,J⟩=false:=by
 rcases h.2 with ⟨aa,_⟩ | ⟨pD,WY,cur,fY,aa,ad,aY,qo,tp,kf,jL,bn⟩
 ·cases aa
 ·injection aa with aa _ ae;injection aa with aa;injection aa with aa;subst aa ae;obtain⟨lo,aV⟩:=fY;simp only[World.frozen?,aY,BB,ux];simp only at qo;omega
theorem cB.cellAt {g cap:Nat} (h:cB w base e size (.slice (U ⟨g,0,J⟩) n cap) n xs) {j:Nat} {u:aw} (hu:xs[j]? = U u):w.cell? ⟨g,j,J⟩=U u:=by
 have:=h.cells (g:=g) rfl j u hu;rw[Jn,hc] at this;exact this
theorem cB.yb (h:cB w base e size v n xs) (aB:0<n):∃g cap,v=.slice (U ⟨g,0,J⟩) n cap∧base≤g∧g<w.heap.size∧n≤cap:=by
 rcases h.2 with ⟨_,ar⟩ | ⟨g,cap,cur,fY,rfl,ad,aY,_,tp,_⟩
 ·omega
 ·exact⟨g,cap,rfl,ad,(Array.getElem?_eq_some_iff.1 aY).1,tp⟩
end
def Reads (w:af) (v:aw) (xs:List aw):Prop:=∀g n cap,v=.slice (U ⟨g,0,J⟩) n cap→∀j u,xs[j]? = U u→w.cell? ⟨g,j,J⟩=U u
section
variable {P:Program} {w:af} {base:Nat} {e:TypeId} {size:Nat} {v:aw} {n:Nat} {xs:List aw}
theorem cB.reads (h:cB w base e size v n xs):Reads w v xs:=by
 intro g j3 cap aD j u hu;subst aD;have:=h.cells (g:=g) rfl j u hu;rw[Jn,hc] at this;exact this
theorem Reads.block {w':af} (h:Reads w v xs) (ad:∀g,v.ownBlock=U g→w'.heap[g]? = w.heap[g]?):Reads w' v xs:=by
 intro g n cap aD j u hu;rw[←h g n cap aD j u hu];exact uy (ad g (by rw[aD];rfl))
variable {ops:Array Oper} {rest:List Oper} {a7:Oper} {a:Act} {Q:Exit→Act→af→Prop}
end
end Go.Proofs.YtkhphoonnkoipaaGreatDoor
namespace Go.Proofs
open Go.Proofs.YtkhphoonnkoipaaGreatDoor Go.Proofs.Tryz
open Go.Shelf
def aua:Go.Shelf.Ren:=⟨fun | 137=>110 | 217=>155 | 266=>191 | n=>n,fun | 9=>9 | 5=>5 | 3=>3 | n=>n,fun | n=>n⟩
theorem aub:Go.Proofs.Lays.n137 prog aua:={
 mixed:=by kernel_rfl
 f137:=bX func110 (by kernel_rfl)
 f217:=bX Jq (by kernel_rfl)
 f266:=bX Jr (by kernel_rfl)
 t3:=hG
 a3:=py
 z3:=pw
 v3:=pt
 t5:=ke
 a5:=oS
 z5:=oO
 v5:=oN
 t9:=jH
 a9:=oT
 z9:=oP
 v9:=pv }
open Go.RowKit in
theorem strings_IndexByte (s:ByteArray) (c:Int) (w:af) :
 Calls prog 110 #[.string s,.int .u8 c] w fun e w'=>e=.returned (.int .i64 (Lib.indexByte s.data.toList c.toNat.toUInt8))∧w'=w:=Any.strings_IndexByte aub s c w
end Go.Proofs
