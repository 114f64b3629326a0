/- Lemmas. -/
import Derived.Test.YtkhphoonnkoipaaGreatDoorVaae
import Derived.Test.YtkhphoonnkoipaaGreatDoorVabm
import Derived.Test.YtkhphoonnkoipaaGreatDoorCards
import Derived.Test.YtkhphoonnkoipaaGreatDoorTie
import Derived.Test.YtkhphoonnkoipaaGreatDoorVabn
set_option linter.all false
set_option maxRecDepth 100000
open Go.Proofs.Tryz Go.RowKit Go.Lib
open Bool renaming true→ai,false→ab
open Go renaming Value→aw
open Go.Proofs.Tryz renaming prog→ak
namespace Go.Proofs.YtkhphoonnkoipaaGreatDoor.primsValues
open Go.ChangeShapes Go.WideShapes Go.ChangeAt Go.RowKit Go.Joins
open Go.ChangeMaps (open_string shut_string)
theorem own:ownKnob prog.godebug=none:=by kernel_rfl
theorem wrap {H:Type} {enc:TypeId×aw→H} {a:Assume} {C:Checked} {os:Os} {f:FuncId} {fn:Func} {s:ChangeSpec} {conds:List PathCond} {apart fresh handsOn again:Bool} {X:World→Array aw→Prop}
 (fs:∀(w w':World) (args:Array aw),w.heap=w'.heap→X w args→X w' args)
 (own:ownKnob C.prog.godebug=none) (started:os.Started) (awg:C.prog.inits.idxOf? f=none) (Ii:C.prog.funcs[f]? = some fn)
 (witness:∃(w:World) (tape:Tape) (i:Input),w.os=os∧(w.forCall tape i).Shaped C.prog∧i.vars=[]∧Input.okWide C.prog (w.forCall tape i) .any w.heap.size f i∧
  ((s.pre enc C.prog fn conds apart (w.forCall tape i).memory i.args∧X (w.forCall tape i).memory i.args)∧sizedMet enc C.prog fn (OpenSpec.ofChange s) apart (w.forCall tape i).memory i.args)∧a.holds C.prog (lone (Frame.enter C.prog f i.args .normal) [] (w.forCall tape i)))
 (awh:∀(W:World) (base:Nat) (args:Array aw) (ds gs:List (DataW H)) (before:List MemPlace),
  (∀(j:Nat) t v,fn.params[j]? = some t→args[j]? = some v→Value.okWide C.prog W .any base t v)→
  DataW.Whole enc C.prog fn.params.toList s.vars apart W args.toList ds gs before→X W args→W.ShapedOpen C.prog→(DataW.weightsEach C.prog (fn.params.toList++(OpenSpec.ofChange s).bare.plain.varTypes C.prog) (ds++gs)).all (·≤reachBytes)=ai→
  Calls C.prog f args W fun e bW=>∃v,e=.returned v∧s.post enc C.prog fn apart fresh handsOn again W args v bW) :
 ReturnsInHanded a C os f .any (fun w args=>(s.pre enc C.prog fn conds apart w args∧X w args)∧sizedMet enc C.prog fn (OpenSpec.ofChange s) apart w args) (s.post enc C.prog fn apart fresh handsOn again):=by
 refine returnsInHanded_of_calls own started awg witness ?_;intro w tape i _ vW _ e4 awi _;obtain⟨_,_,_,awj,awk,_,_,_,_,p7⟩:=e4;have e:awj=fn:=hb (awk.symm.trans Ii);subst e;obtain⟨⟨⟨ds,gs,before,hw,_⟩,hx⟩,aX⟩:=awi;have wa:=DataW.Whole.of_heap (w':=w.forCall tape i) (by rfl) hw;refine (awh (w.forCall tape i) w.heap.size i.args ds gs before p7 wa (fs _ _ _ (by rfl) hx) vW (aX.weights hw)).mono fun e bW ⟨v,he,hp⟩=>?_;subst he;exact ChangeSpec.post_blind hp
theorem laidOut:laidOutB ak=ai:=by kernel_rfl
theorem lifted (os:Os) (started:os.Started) (H:Type) (enc:TypeId×aw→H) :
 ReturnsInHanded {} checked os 3 .any (fun w args=>(Rows.primsValuesSpec.pre enc ak f3 [] ab w args∧laidMetH ak uE w)∧sizedMet enc ak f3 (OpenSpec.ofChange Rows.primsValuesSpec) ab w args)
  (Rows.primsValuesSpec.post enc ak f3 ab ai ab ab):=by
 refine wrap (C:=checked) (X:=fun w _=>laidMetH ak uE w) (fun _ _ _ hh h=>h.of_heap hh) own started (by kernel_rfl) func3
  (ChangeSpec.witness_shaped (enc:=enc) (C:=checked) (os:=os) (X:=fun w _=>laidMetH ak uE w) ab (World.laidAll ak os uE) #[.int .i64 0,.slice none 0 0] 8 (World.laidAll_os _ _ _)
   (World.shaped_of_ZipB (by kernel_rfl) (by kernel_rfl)) (by kernel_rfl) (by kernel_rfl) (by kernel_rfl)
   (by rw[V0 _ _ _ Wb];exact laidMet_laidAll _ (afD os) (afE os))) ?_
 intro W base args ds gs before afC jy hH vW aX;have p7:∀(j:Nat) t v,f3.params[j]? = some t→args[j]? = some v→Value.okWide ak W .any base t v:=afC;have Ft:=jy;obtain⟨p,q,sC,cA,rfl,_,_⟩:=jy;have be:DataW.TrodAll enc ak W 0 (fun _=>ai) ai f3.params.toList args.toList ds p:=sC;rw[params3] at be p7 aX;obtain⟨v0,azY,d0,azZ,cn,b0,az0,rfl,rfl,ar,cl⟩:=trodAll_cons be;obtain⟨v1,az1,d1,az2,bY,bD,rfl,rfl,rfl,aa,bH⟩:=trodAll_cons cl;obtain⟨rfl,rfl,rfl⟩:=trodAll_nil bH;obtain rfl:args=#[v0,v1]:=by cases args;simp_all
 obtain⟨rfl,rfl⟩:=trodVars_none cA;have awl:∀m ∈ DataW.weightsEach ak [3,22] [d0,d1],m≤reachBytes:=by
  intro m hm;have aa:=List.all_eq_true.1 aX m (by exact hm);simpa using aa
 obtain⟨a0,rfl,rfl,rfl,aR⟩:=open_int hG (p7 0 3 v0 rfl rfl) ar;have n5:∀m ∈ d1.weights ak 22,m≤reachBytes:=fun m hm=>awl m (V9 (j:=1) rfl rfl m hm);have aG:=aa;have awm:∀x ∈ bY,x.block<W.heap.size:=by obtain⟨m,hm⟩:=aG;exact DataW.trod_lt m _ _ _ hm
 obtain⟨cZ,az3,az4,rfl⟩:=okWide_slice underlying22 (p7 1 22 v1 rfl rfl);obtain⟨m1,jl⟩:=aG;obtain⟨awn,awo⟩:=awf underlying22 underlying28 (by kernel_rfl) (by kernel_rfl) (jb (by kernel_rfl)) underlying25 I2 r' jH rfl _ _ _ jl n5;clear sC afC;simp only[sd] at Ft;rw[V0 _ _ _ Wb] at hH;have ef:Env W:=agC hH vW;have aM:-9223372036854775808≤a0∧a0≤9223372036854775807:=by simpa[Lit.wf,IntKind.min,IntKind.max,IntKind.signed,IntKind.bits] using aR
 refine (av7 awn _ a0 W (aC _) awo (by omega) (by omega) ef).mono fun e bW ⟨he,ad⟩=>?_;subst he;exact⟨_,rfl,_,_,_,[],_,[],Ft,trodAll_mk1 (shut_bool nV _),(trodAll_cons_mk (shut_int hG aR) (trodAll_cons_mk (Below.trod laidOut (by kernel_rfl) (jb (by kernel_rfl)) aa ad awm) trodAll_mk0)),rfl,ad.frame _,fun h=>by cases h⟩
theorem awp:(Rows.primsValuesRow.inPlace==Tryz.pinned.checked.prog.inPlace 3)=ai:=by kernel_rfl
theorem awq:(Rows.primsValuesRow.unfollowed==Tryz.pinned.checked.prog.unfollowed 3)=ai:=by kernel_rfl
theorem awr:(Rows.primsValuesRow.recurses==Tryz.pinned.checked.prog.recurses 3)=ai:=by kernel_rfl
theorem aws:(Rows.primsValuesRow.named==Tryz.pinned.checked.prog.varsNamed 3)=ai:=by kernel_rfl
theorem facts:joinedFacts Tryz.pinned.checked.prog 3 f3 Rows.primsValuesSpec Rows.primsValuesRow=ai:=by
 unfold joinedFacts;rw[awp,awq,awr,aws];kernel_rfl
theorem over:Rows.primsValuesRow.holds Tryz.pinned (OpenSpec.ofChange Rows.primsValuesSpec):=
 OpenClaim.holds_of_wide 3 f3 rfl rfl rfl rfl rfl rfl rfl ⟨rfl,rfl,rfl,rfl,rfl⟩ rfl rfl rfl rfl rfl (by kernel_rfl) func3 facts
  (jb (by kernel_rfl)) (by unfold Func.isWrapper;first | (rw[ba (by decide +kernel)];kernel_rfl) | (rw[aU (by decide +kernel)];exact⟨rfl,rfl⟩))
  (fun os started H enc _=>lifted os started H enc)
end Go.Proofs.YtkhphoonnkoipaaGreatDoor.primsValues
