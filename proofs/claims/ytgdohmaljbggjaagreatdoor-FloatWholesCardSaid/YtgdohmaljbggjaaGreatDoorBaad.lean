/- What the reading of the listed variables gives: the bundle Env. -/
import Derived.Test.YtgdohmaljbggjaaGreatDoorBaaa
import Derived.Test.YtgdohmaljbggjaaGreatDoorBaac
import Derived.Lib.LaidU8
import Derived.HandedShaped
import Derived.Shelf.Vars
namespace Go.Proofs.YtgdohmaljbggjaaGreatDoor
open Go.RowKit Go.Lib
theorem trod_float {H : Type} {enc : TypeId × Value → H} {P : Program} {w : World} {base : Nat} {spare : Nat → Bool} {held : Bool} {fuel : Nat} {t : TypeId} {cs : List Value} {x : DataW H × List MemPlace} {k : FloatKind}
    (ht : P.underlying t = some (.float k)) (h : DataW.trod enc P w base spare held fuel t cs = some x) : ∃ n, cs = [.float k n] ∧ x = (.lit (.float k n), []) := by
  cases fuel with
  | zero => simp [DataW.trod] at h
  | succ n =>
    unfold DataW.trod at h
    rw [ht] at h
    split at h <;> simp_all
theorem trod_face {H : Type} {enc : TypeId × Value → H} {P : Program} {w : World} {base : Nat} {spare : Nat → Bool} {held : Bool} {fuel : Nat} {t : TypeId} {cs : List Value} {x : DataW H × List MemPlace} {ms}
    (ht : P.underlying t = some (.interface ms)) (h : DataW.trod enc P w base spare held fuel t cs = some x) : cs = [.nilIface] ∨ ∃ u v, cs = [.iface u v] := by
  cases fuel with
  | zero => simp [DataW.trod] at h
  | succ n =>
    unfold DataW.trod at h
    rw [ht] at h
    split at h <;> simp_all
theorem var_size {P : Program} {w : World} {n : String} {g : Nat} {cs : Array Value} (hg : P.globalNamed n = some g) (h : w.var? P n = some cs) : g < w.heap.size := by
  unfold World.var? at h
  rw [hg] at h
  rcases Nat.lt_or_ge g w.heap.size with hl | hl
  · exact hl
  · rw [Option.bind_some, Array.getElem?_eq_none hl] at h
    cases h
theorem env_opt {W : World} (h : VarReads Tryz.prog W "internal/strconv.optimize" Rows.laid_internal_strconv_optimize) : W.cell? ⟨3, 0, none⟩ = some (.bool true) := by
  obtain ⟨g, t, cs, fuel, p, hg, hty, hvar, hd⟩ := h
  obtain rfl := Option.some.inj ((show Tryz.prog.globalNamed "internal/strconv.optimize" = some 3 by kernel_rfl).symm.trans hg)
  obtain rfl := Option.some.inj ((show (Tryz.prog.globals[3]?).map (·.type) = some 4 by kernel_rfl).symm.trans hty)
  obtain ⟨b, hc, hx⟩ := DataW.trod_bool Tryz.underlying4 hd
  have e : b = true := by
    have := congrArg Prod.fst hx
    simp only [Rows.laid_internal_strconv_optimize, DataW.lit.injEq, Lit.bool.injEq] at this
    exact this.symm
  rw [World.var?_cell hg hvar 0, ← Array.getElem?_toList, hc, e]
  rfl
theorem env_err {W : World} {d : DataW Unit} (h : VarReads Tryz.prog W "strconv.ErrRange" d) : ∃ v, W.cell? ⟨2, 0, none⟩ = some v ∧ (v = .nilIface ∨ ∃ te pe, v = .iface te pe) := by
  obtain ⟨g, t, cs, fuel, p, hg, hty, hvar, hd⟩ := h
  obtain rfl := Option.some.inj ((show Tryz.prog.globalNamed "strconv.ErrRange" = some 2 by kernel_rfl).symm.trans hg)
  obtain rfl := Option.some.inj ((show (Tryz.prog.globals[2]?).map (·.type) = some 53 by kernel_rfl).symm.trans hty)
  rw [World.var?_cell hg hvar 0, ← Array.getElem?_toList]
  rcases trod_face Tryz.underlying53 hd with hc | ⟨u, v, hc⟩
  · rw [hc]; exact ⟨_, rfl, .inl rfl⟩
  · rw [hc]; exact ⟨_, rfl, .inr ⟨_, _, rfl⟩⟩
theorem env_p10 {W : World} (h : VarReads Tryz.prog W "internal/strconv.uint64pow10" Rows.laid_internal_strconv_uint64pow10) : Lib.TabIs Tryz.prog W "internal/strconv.uint64pow10" .u64 Lib.pow10Tab := by
  obtain ⟨g, t, cs, fuel, p, hg, hty, hvar, hd⟩ := h
  obtain rfl := Option.some.inj ((show Tryz.prog.globalNamed "internal/strconv.uint64pow10" = some 9 by kernel_rfl).symm.trans hg)
  obtain rfl := Option.some.inj ((show (Tryz.prog.globals[9]?).map (·.type) = some 234 by kernel_rfl).symm.trans hty)
  have hd' : DataW.trod (fun _ => ()) Tryz.prog W 0 (fun _ => true) false fuel 234 cs.toList = some (Lib.tabData .u64 Lib.pow10Tab, p) := hd
  unfold Lib.TabIs
  rw [hvar, ← cells_of_tab Tryz.underlying234 Tryz.underlying22 (by kernel_rfl) (by kernel_rfl) hd']
theorem env_info {W : World} (h : VarReads Tryz.prog W "internal/strconv.float64info" Rows.laid_internal_strconv_float64info) : W.cell? ⟨8, 0, none⟩ = some (.int .u64 52) := by
  obtain ⟨g, t, cs, fuel, p, hg, hty, hvar, hd⟩ := h
  obtain rfl := Option.some.inj ((show Tryz.prog.globalNamed "internal/strconv.float64info" = some 8 by kernel_rfl).symm.trans hg)
  obtain rfl := Option.some.inj ((show (Tryz.prog.globals[8]?).map (·.type) = some 205 by kernel_rfl).symm.trans hty)
  obtain ⟨xs, n, rfl, hx, hl, hxl, hall⟩ := DataW.trod_struct Tryz.underlying205 hd
  have h0 := hall 0 _ rfl
  have hx0 : (xs.map (·.1))[0]? = some (.lit (.int .u64 52)) := by
    have := congrArg Prod.fst hx
    simp only [Rows.laid_internal_strconv_float64info, DataW.agg.injEq] at this
    rw [← this]; rfl
  rw [List.getElem?_map] at hx0
  obtain ⟨b, hb, hb1⟩ := Option.map_eq_some_iff.1 hx0
  rw [hb] at h0
  obtain ⟨z, hz, hbz, _⟩ := DataW.trod_int Tryz.underlying69 h0
  rw [hbz] at hb1
  simp only [DataW.lit.injEq, Lit.int.injEq, true_and] at hb1
  rw [World.var?_cell hg hvar 0, ← Array.getElem?_toList]
  change List.take (Tryz.prog.cellsOf 69) (List.drop 0 cs.toList) = _ at hz
  rw [show Tryz.prog.cellsOf 69 = 1 by kernel_rfl, List.drop_zero, hb1] at hz
  have := congrArg (·[0]?) hz
  simpa [List.getElem?_take] using this
theorem rows_len : Go.Pinned.pow10Rows.length = 696 := by kernel_rfl
theorem env_tab {W : World} (h : VarReads Tryz.prog W "internal/strconv.pow10Tab" Go.Pinned.pow10Tab) : Tab W := by
  obtain ⟨g, t, cs, fuel, p, hg, hty, hvar, hd⟩ := h
  obtain rfl := Option.some.inj ((show Tryz.prog.globalNamed "internal/strconv.pow10Tab" = some 13 by kernel_rfl).symm.trans hg)
  obtain rfl := Option.some.inj ((show (Tryz.prog.globals[13]?).map (·.type) = some 250 by kernel_rfl).symm.trans hty)
  intro i hi lo hrow
  have hlt : i < 696 := by
    have := (List.getElem?_eq_some_iff.1 hrow).1
    rw [rows_len] at this
    exact this
  unfold Go.Pinned.pow10Tab at hd
  obtain ⟨fuel', d, q, hdi, he⟩ := array_elem Tryz.underlying250 hd i hlt
  rw [List.getElem?_map, hrow] at hdi
  simp only [Option.map_some, Option.some.injEq] at hdi
  subst hdi
  rw [show Tryz.prog.cellsOf 249 = 2 by kernel_rfl] at he
  have hcs := ints_of_struct (k := .u64) (zs := [(hi : Int), (lo : Int)]) Tryz.underlying249 (fun j f hj => by
    match j, hj with
    | 0, hj => obtain rfl := Option.some.inj hj; exact ⟨Tryz.underlying22, rfl, by kernel_rfl⟩
    | 1, hj => obtain rfl := Option.some.inj hj; exact ⟨Tryz.underlying22, rfl, by kernel_rfl⟩) (by kernel_rfl) he
  constructor
  · rw [World.var?_cell hg hvar, ← Array.getElem?_toList]
    have := congrArg (·[0]?) hcs
    simpa [List.getElem?_take, List.getElem?_drop] using this
  · rw [World.var?_cell hg hvar, ← Array.getElem?_toList]
    have := congrArg (·[1]?) hcs
    simpa [List.getElem?_take, List.getElem?_drop] using this
theorem env_f10 {W : World} (h : VarReads Tryz.prog W "internal/strconv.float64pow10" Rows.laid_internal_strconv_float64pow10) :
    ∃ (a : Addr) (cap : Nat), W.cell? ⟨12, 0, none⟩ = some (.slice (some a) 23 cap) ∧ a.block < W.heap.size ∧ ∀ i x, Pl.f10[i]? = some x → W.cell? (a.add i) = some (.float .f64 x) := by
  obtain ⟨g, t, cs, fuel, p, hg, hty, hvar, hd⟩ := h
  obtain rfl := Option.some.inj ((show Tryz.prog.globalNamed "internal/strconv.float64pow10" = some 12 by kernel_rfl).symm.trans hg)
  obtain rfl := Option.some.inj ((show (Tryz.prog.globals[12]?).map (·.type) = some 246 by kernel_rfl).symm.trans hty)
  rcases DataW.trod_slice Tryz.underlying246 hd with ⟨_, hx⟩ | ⟨a, len, cap, el, rs, m, rfl, hcs, hx, _, hlc, _, hel, helem, hsp, _⟩
  · cases hx
  have e0 := congrArg Prod.fst hx
  have eE : Pl.f10.map (fun x => (DataW.lit (.float .f64 x) : DataW Unit)) = el.map (·.1) := by
    simp only [Rows.laid_internal_strconv_float64pow10, DataW.slice.injEq] at e0
    exact e0.1
  have hlen : len = 23 := by
    have := congrArg List.length eE
    simp [Pl.f10] at this
    omega
  subst hlen
  have hcell : ∀ i x, Pl.f10[i]? = some x → W.cell? (a.add i) = some (.float .f64 x) := by
    intro i x hi
    have hi2 : i < 23 := by
      have := (List.getElem?_eq_some_iff.1 hi).1
      simpa [Pl.f10] using this
    have h1 := helem i hi2
    rw [show Tryz.prog.cellsOf 51 = 1 by kernel_rfl] at h1
    obtain ⟨b, hb⟩ : ∃ b, el[i]? = some b := ⟨el[i]'(by omega), List.getElem?_eq_getElem (by omega)⟩
    rw [hb] at h1
    obtain ⟨ce, hce, hte⟩ := Option.bind_eq_some_iff.1 h1
    obtain ⟨z, hz, hbz⟩ := trod_float Tryz.underlying51 hte
    have hb1 : b.1 = .lit (.float .f64 x) := by
      have := congrArg (·[i]?) eE
      simp only [List.getElem?_map, hb, hi, Option.map_some, Option.some.injEq] at this
      exact this.symm
    rw [hbz] at hb1
    simp only [DataW.lit.injEq, Lit.float.injEq, true_and] at hb1
    obtain ⟨_, _, hcc⟩ := World.cells?_some hce
    have := hcc 0 (by omega)
    rw [hz] at this
    simp only [Nat.mul_one] at this
    have e1 : (a.add i).add 0 = a.add i := by simp [Addr.add]
    rw [e1] at this
    rw [this, ← hb1]
    rfl
  refine ⟨a, cap, ?_, ?_, hcell⟩
  · rw [World.var?_cell hg hvar 0, ← Array.getElem?_toList, hcs]; rfl
  · have h0 := hcell 0 4607182418800017408 rfl
    rcases Nat.lt_or_ge a.block W.heap.size with hl | hl
    · exact hl
    · exfalso
      have e1 : a.add 0 = a := by simp [Addr.add]
      rw [e1] at h0
      unfold World.cell? at h0
      rw [Array.getElem?_eq_none hl] at h0
      cases h0
theorem env_of {W : World} (hL : laidMet Tryz.prog laidL W) (hsh : W.ShapedOpen Tryz.prog) : Env W := by
  have hr : ∀ (k : Nat) (n : String) (d : DataW Unit), laidL[k]? = some (n, d) → VarReads Tryz.prog W n d := fun k n d h => laidMet.reads hL (List.mem_of_getElem? h)
  refine ⟨?_, env_tab (hr 13 _ _ rfl), env_p10 (hr 8 _ _ rfl), ?_, env_opt (hr 4 _ _ rfl), env_info (hr 3 _ _ rfl), env_f10 (hr 6 _ _ rfl), env_err (hr 10 _ _ rfl)⟩
  · obtain ⟨g, t, cs, fuel, p, hg, hty, hvar, hd⟩ := hr 1 _ _ rfl
    obtain rfl := Option.some.inj ((show Tryz.prog.globalNamed "math/bits.deBruijn64tab" = some 16 by kernel_rfl).symm.trans hg)
    exact var_size hg hvar
  · exact cell_of_shapedOpen_int hsh (g := 4) (t := 3) (zero := #[.int .i64 0]) (of_decide_eq_true (by kernel_rfl)) (by kernel_rfl) rfl (by kernel_rfl) (by kernel_rfl) Tryz.underlying3
end Go.Proofs.YtgdohmaljbggjaaGreatDoor
