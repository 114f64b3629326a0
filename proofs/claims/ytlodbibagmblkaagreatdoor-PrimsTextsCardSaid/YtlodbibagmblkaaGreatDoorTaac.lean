/- What the reading of the listed variables gives: the bundle Env. -/
import Derived.Test.YtlodbibagmblkaaGreatDoorTaaa
import Derived.Test.YtlodbibagmblkaaGreatDoorTaab
import Derived.Lib.LaidU8
import Derived.HandedShaped
import Derived.Shelf.Vars
namespace Go.Proofs.YtlodbibagmblkaaGreatDoor
open Go.RowKit Go.Lib
theorem trod_float {H : Type} {enc : TypeId × Value → H} {P : Program} {w : World} {base : Nat} {spare : Nat → Bool} {held : Bool} {fuel : Nat} {t : TypeId} {cs : List Value} {x : DataW H × List MemPlace} {k : FloatKind}
    (ht : P.underlying t = some (.float k)) (h : DataW.trod enc P w base spare held fuel t cs = some x) : ∃ n, cs = [.float k n] ∧ x = (.lit (.float k n), []) := by
  cases fuel with
  | zero => simp [DataW.trod] at h
  | succ n =>
    unfold DataW.trod at h
    rw [ht] at h
    split at h <;> simp_all
theorem trod_face {H : Type} {enc : TypeId × Value → H} {P : Program} {w : World} {base : Nat} {spare : Nat → Bool} {held : Bool} {fuel : Nat} {t : TypeId} {cs : List Value} {x : DataW H × List MemPlace} {ms}
    (ht : P.underlying t = some (.interface ms)) (h : DataW.trod enc P w base spare held fuel t cs = some x) : cs = [.nilIface] ∨ ∃ u v, cs = [.iface u v] := by
  cases fuel with
  | zero => simp [DataW.trod] at h
  | succ n =>
    unfold DataW.trod at h
    rw [ht] at h
    split at h <;> simp_all
theorem var_size {P : Program} {w : World} {n : String} {g : Nat} {cs : Array Value} (hg : P.globalNamed n = some g) (h : w.var? P n = some cs) : g < w.heap.size := by
  unfold World.var? at h
  rw [hg] at h
  rcases Nat.lt_or_ge g w.heap.size with hl | hl
  · exact hl
  · rw [Option.bind_some, Array.getElem?_eq_none hl] at h
    cases h
theorem env_opt {W : World} (h : VarReads Tryz.prog W "internal/strconv.optimize" Rows.laid_internal_strconv_optimize) : W.cell? ⟨3, 0, none⟩ = some (.bool true) := by
  obtain ⟨g, t, cs, fuel, p, hg, hty, hvar, hd⟩ := h
  obtain rfl := Option.some.inj ((show Tryz.prog.globalNamed "internal/strconv.optimize" = some 3 by kernel_rfl).symm.trans hg)
  obtain rfl := Option.some.inj ((show (Tryz.prog.globals[3]?).map (·.type) = some 4 by kernel_rfl).symm.trans hty)
  obtain ⟨b, hc, hx⟩ := DataW.trod_bool Tryz.underlying4 hd
  have e : b = true := by
    have := congrArg Prod.fst hx
    simp only [Rows.laid_internal_strconv_optimize, DataW.lit.injEq, Lit.bool.injEq] at this
    exact this.symm
  rw [World.var?_cell hg hvar 0, ← Array.getElem?_toList, hc, e]
  rfl
theorem env_err {W : World} {d : DataW Unit} (h : VarReads Tryz.prog W "strconv.ErrRange" d) : ∃ v, W.cell? ⟨5, 0, none⟩ = some v ∧ (v = .nilIface ∨ ∃ te pe, v = .iface te pe) := by
  obtain ⟨g, t, cs, fuel, p, hg, hty, hvar, hd⟩ := h
  obtain rfl := Option.some.inj ((show Tryz.prog.globalNamed "strconv.ErrRange" = some 5 by kernel_rfl).symm.trans hg)
  obtain rfl := Option.some.inj ((show (Tryz.prog.globals[5]?).map (·.type) = some 158 by kernel_rfl).symm.trans hty)
  rw [World.var?_cell hg hvar 0, ← Array.getElem?_toList]
  rcases trod_face Tryz.underlying158 hd with hc | ⟨u, v, hc⟩
  · rw [hc]; exact ⟨_, rfl, .inl rfl⟩
  · rw [hc]; exact ⟨_, rfl, .inr ⟨_, _, rfl⟩⟩
theorem env_p10 {W : World} (h : VarReads Tryz.prog W "internal/strconv.uint64pow10" Rows.laid_internal_strconv_uint64pow10) : Lib.TabIs Tryz.prog W "internal/strconv.uint64pow10" .u64 Lib.pow10Tab := by
  obtain ⟨g, t, cs, fuel, p, hg, hty, hvar, hd⟩ := h
  obtain rfl := Option.some.inj ((show Tryz.prog.globalNamed "internal/strconv.uint64pow10" = some 8 by kernel_rfl).symm.trans hg)
  obtain rfl := Option.some.inj ((show (Tryz.prog.globals[8]?).map (·.type) = some 255 by kernel_rfl).symm.trans hty)
  have hd' : DataW.trod (fun _ => ()) Tryz.prog W 0 (fun _ => true) false fuel 255 cs.toList = some (Lib.tabData .u64 Lib.pow10Tab, p) := hd
  unfold Lib.TabIs
  rw [hvar, ← cells_of_tab Tryz.underlying255 Tryz.underlying23 (by kernel_rfl) (by kernel_rfl) hd']
theorem env_info {W : World} (h : VarReads Tryz.prog W "internal/strconv.float64info" Rows.laid_internal_strconv_float64info) : W.cell? ⟨10, 0, none⟩ = some (.int .u64 52) := by
  obtain ⟨g, t, cs, fuel, p, hg, hty, hvar, hd⟩ := h
  obtain rfl := Option.some.inj ((show Tryz.prog.globalNamed "internal/strconv.float64info" = some 10 by kernel_rfl).symm.trans hg)
  obtain rfl := Option.some.inj ((show (Tryz.prog.globals[10]?).map (·.type) = some 274 by kernel_rfl).symm.trans hty)
  obtain ⟨xs, n, rfl, hx, hl, hxl, hall⟩ := DataW.trod_struct Tryz.underlying274 hd
  have h0 := hall 0 _ rfl
  have hx0 : (xs.map (·.1))[0]? = some (.lit (.int .u64 52)) := by
    have := congrArg Prod.fst hx
    simp only [Rows.laid_internal_strconv_float64info, DataW.agg.injEq] at this
    rw [← this]; rfl
  rw [List.getElem?_map] at hx0
  obtain ⟨b, hb, hb1⟩ := Option.map_eq_some_iff.1 hx0
  rw [hb] at h0
  obtain ⟨z, hz, hbz, _⟩ := DataW.trod_int Tryz.underlying34 h0
  rw [hbz] at hb1
  simp only [DataW.lit.injEq, Lit.int.injEq, true_and] at hb1
  rw [World.var?_cell hg hvar 0, ← Array.getElem?_toList]
  change List.take (Tryz.prog.cellsOf 34) (List.drop 0 cs.toList) = _ at hz
  rw [show Tryz.prog.cellsOf 34 = 1 by kernel_rfl, List.drop_zero, hb1] at hz
  have := congrArg (·[0]?) hz
  simpa [List.getElem?_take] using this
theorem rows_len : Go.Pinned.pow10Rows.length = 696 := by kernel_rfl
theorem env_tab {W : World} (h : VarReads Tryz.prog W "internal/strconv.pow10Tab" Go.Pinned.pow10Tab) : Tab W := by
  obtain ⟨g, t, cs, fuel, p, hg, hty, hvar, hd⟩ := h
  obtain rfl := Option.some.inj ((show Tryz.prog.globalNamed "internal/strconv.pow10Tab" = some 11 by kernel_rfl).symm.trans hg)
  obtain rfl := Option.some.inj ((show (Tryz.prog.globals[11]?).map (·.type) = some 289 by kernel_rfl).symm.trans hty)
  intro i hi lo hrow
  have hlt : i < 696 := by
    have := (List.getElem?_eq_some_iff.1 hrow).1
    rw [rows_len] at this
    exact this
  unfold Go.Pinned.pow10Tab at hd
  obtain ⟨fuel', d, q, hdi, he⟩ := array_elem Tryz.underlying289 hd i hlt
  rw [List.getElem?_map, hrow] at hdi
  simp only [Option.map_some, Option.some.injEq] at hdi
  subst hdi
  rw [show Tryz.prog.cellsOf 288 = 2 by kernel_rfl] at he
  have hcs := ints_of_struct (k := .u64) (zs := [(hi : Int), (lo : Int)]) Tryz.underlying288 (fun j f hj => by
    match j, hj with
    | 0, hj => obtain rfl := Option.some.inj hj; exact ⟨Tryz.underlying23, rfl, by kernel_rfl⟩
    | 1, hj => obtain rfl := Option.some.inj hj; exact ⟨Tryz.underlying23, rfl, by kernel_rfl⟩) (by kernel_rfl) he
  constructor
  · rw [World.var?_cell hg hvar, ← Array.getElem?_toList]
    have := congrArg (·[0]?) hcs
    simpa [List.getElem?_take, List.getElem?_drop] using this
  · rw [World.var?_cell hg hvar, ← Array.getElem?_toList]
    have := congrArg (·[1]?) hcs
    simpa [List.getElem?_take, List.getElem?_drop] using this
theorem env_f10 {W : World} (h : VarReads Tryz.prog W "internal/strconv.float64pow10" Rows.laid_internal_strconv_float64pow10) :
    ∃ (a : Addr) (cap : Nat), W.cell? ⟨15, 0, none⟩ = some (.slice (some a) 23 cap) ∧ a.block < W.heap.size ∧ ∀ i x, Pl.f10[i]? = some x → W.cell? (a.add i) = some (.float .f64 x) := by
  obtain ⟨g, t, cs, fuel, p, hg, hty, hvar, hd⟩ := h
  obtain rfl := Option.some.inj ((show Tryz.prog.globalNamed "internal/strconv.float64pow10" = some 15 by kernel_rfl).symm.trans hg)
  obtain rfl := Option.some.inj ((show (Tryz.prog.globals[15]?).map (·.type) = some 303 by kernel_rfl).symm.trans hty)
  rcases DataW.trod_slice Tryz.underlying303 hd with ⟨_, hx⟩ | ⟨a, len, cap, el, rs, m, rfl, hcs, hx, _, hlc, _, hel, helem, hsp, _⟩
  · cases hx
  have e0 := congrArg Prod.fst hx
  have eE : Pl.f10.map (fun x => (DataW.lit (.float .f64 x) : DataW Unit)) = el.map (·.1) := by
    simp only [Rows.laid_internal_strconv_float64pow10, DataW.slice.injEq] at e0
    exact e0.1
  have hlen : len = 23 := by
    have := congrArg List.length eE
    simp [Pl.f10] at this
    omega
  subst hlen
  have hcell : ∀ i x, Pl.f10[i]? = some x → W.cell? (a.add i) = some (.float .f64 x) := by
    intro i x hi
    have hi2 : i < 23 := by
      have := (List.getElem?_eq_some_iff.1 hi).1
      simpa [Pl.f10] using this
    have h1 := helem i hi2
    rw [show Tryz.prog.cellsOf 109 = 1 by kernel_rfl] at h1
    obtain ⟨b, hb⟩ : ∃ b, el[i]? = some b := ⟨el[i]'(by omega), List.getElem?_eq_getElem (by omega)⟩
    rw [hb] at h1
    obtain ⟨ce, hce, hte⟩ := Option.bind_eq_some_iff.1 h1
    obtain ⟨z, hz, hbz⟩ := trod_float Tryz.underlying109 hte
    have hb1 : b.1 = .lit (.float .f64 x) := by
      have := congrArg (·[i]?) eE
      simp only [List.getElem?_map, hb, hi, Option.map_some, Option.some.injEq] at this
      exact this.symm
    rw [hbz] at hb1
    simp only [DataW.lit.injEq, Lit.float.injEq, true_and] at hb1
    obtain ⟨_, _, hcc⟩ := World.cells?_some hce
    have := hcc 0 (by omega)
    rw [hz] at this
    simp only [Nat.mul_one] at this
    have e1 : (a.add i).add 0 = a.add i := by simp [Addr.add]
    rw [e1] at this
    rw [this, ← hb1]
    rfl
  refine ⟨a, cap, ?_, ?_, hcell⟩
  · rw [World.var?_cell hg hvar 0, ← Array.getElem?_toList, hcs]; rfl
  · have h0 := hcell 0 4607182418800017408 rfl
    rcases Nat.lt_or_ge a.block W.heap.size with hl | hl
    · exact hl
    · exfalso
      have e1 : a.add 0 = a := by simp [Addr.add]
      rw [e1] at h0
      unfold World.cell? at h0
      rw [Array.getElem?_eq_none hl] at h0
      cases h0
theorem env_infos {W : World} (h : VarReads Tryz.prog W "internal/strconv.float64info" Rows.laid_internal_strconv_float64info) : W.cell? ⟨10, 1, none⟩ = some (.int .u64 11) ∧ W.cell? ⟨10, 2, none⟩ = some (.int .i64 (-1023)) := by
  obtain ⟨g, t, cs, fuel, p, hg, hty, hvar, hd⟩ := h
  obtain rfl := Option.some.inj ((show Tryz.prog.globalNamed "internal/strconv.float64info" = some 10 by kernel_rfl).symm.trans hg)
  obtain rfl := Option.some.inj ((show (Tryz.prog.globals[10]?).map (·.type) = some 274 by kernel_rfl).symm.trans hty)
  obtain ⟨xs, n, rfl, hx, hl, hxl, hall⟩ := DataW.trod_struct Tryz.underlying274 hd
  have hxm := congrArg Prod.fst hx
  simp only [Rows.laid_internal_strconv_float64info, DataW.agg.injEq] at hxm
  constructor
  · have h0 := hall 1 _ rfl
    have hx0 : (xs.map (·.1))[1]? = some (.lit (.int .u64 11)) := by rw [← hxm]; rfl
    rw [List.getElem?_map] at hx0
    obtain ⟨b, hb, hb1⟩ := Option.map_eq_some_iff.1 hx0
    rw [hb] at h0
    obtain ⟨z, hz, hbz, _⟩ := DataW.trod_int Tryz.underlying34 h0
    rw [hbz] at hb1
    simp only [DataW.lit.injEq, Lit.int.injEq, true_and] at hb1
    rw [World.var?_cell hg hvar 1, ← Array.getElem?_toList]
    change List.take (Tryz.prog.cellsOf 34) (List.drop 1 cs.toList) = _ at hz
    rw [show Tryz.prog.cellsOf 34 = 1 by kernel_rfl, hb1] at hz
    have := congrArg (·[0]?) hz
    simpa [List.getElem?_take, List.getElem?_drop] using this
  · have h0 := hall 2 _ rfl
    have hx0 : (xs.map (·.1))[2]? = some (.lit (.int .i64 (-1023))) := by rw [← hxm]; rfl
    rw [List.getElem?_map] at hx0
    obtain ⟨b, hb, hb1⟩ := Option.map_eq_some_iff.1 hx0
    rw [hb] at h0
    obtain ⟨z, hz, hbz, _⟩ := DataW.trod_int Tryz.underlying3 h0
    rw [hbz] at hb1
    simp only [DataW.lit.injEq, Lit.int.injEq, true_and] at hb1
    rw [World.var?_cell hg hvar 2, ← Array.getElem?_toList]
    change List.take (Tryz.prog.cellsOf 3) (List.drop 2 cs.toList) = _ at hz
    rw [show Tryz.prog.cellsOf 3 = 1 by kernel_rfl, hb1] at hz
    have := congrArg (·[0]?) hz
    simpa [List.getElem?_take, List.getElem?_drop] using this
theorem block_lt {W : World} {a : Addr} {v : Value} (h : W.cell? a = some v) : a.block < W.heap.size := by
  rcases Nat.lt_or_ge a.block W.heap.size with hl | hl
  · exact hl
  · exfalso
    unfold World.cell? at h
    rw [Array.getElem?_eq_none hl] at h
    cases h
theorem env_ptab {W : World} (h : VarReads Tryz.prog W "internal/strconv.powtab" Rows.laid_internal_strconv_powtab) :
    ∃ (a : Addr) (cap : Nat), W.cell? ⟨14, 0, none⟩ = some (.slice (some a) 9 cap) ∧ a.block < W.heap.size ∧ ∀ (i : Nat) (x : Nat), Pl.ptab[i]? = some x → W.cell? (a.add i) = some (.int .i64 (x : Nat)) := by
  obtain ⟨g, t, cs, fuel, p, hg, hty, hvar, hd⟩ := h
  obtain rfl := Option.some.inj ((show Tryz.prog.globalNamed "internal/strconv.powtab" = some 14 by kernel_rfl).symm.trans hg)
  obtain rfl := Option.some.inj ((show (Tryz.prog.globals[14]?).map (·.type) = some 302 by kernel_rfl).symm.trans hty)
  rcases DataW.trod_slice Tryz.underlying302 hd with ⟨_, hx⟩ | ⟨a, len, cap, el, rs, m, rfl, hcs, hx, _, hlc, _, hel, helem, hsp, _⟩
  · cases hx
  have e0 := congrArg Prod.fst hx
  have eE : Pl.ptab.map (fun (x : Nat) => (DataW.lit (.int .i64 (x : Nat)) : DataW Unit)) = el.map (·.1) := by
    simp only [Rows.laid_internal_strconv_powtab, DataW.slice.injEq] at e0
    exact e0.1
  have hlen : len = 9 := by
    have := congrArg List.length eE
    simp [Pl.ptab] at this
    omega
  subst hlen
  have hcell : ∀ (i x : Nat), Pl.ptab[i]? = some x → W.cell? (a.add i) = some (.int .i64 (x : Nat)) := by
    intro i x hi
    have hi2 : i < 9 := by
      have := (List.getElem?_eq_some_iff.1 hi).1
      simpa [Pl.ptab] using this
    have h1 := helem i hi2
    rw [show Tryz.prog.cellsOf 3 = 1 by kernel_rfl] at h1
    obtain ⟨b, hb⟩ : ∃ b, el[i]? = some b := ⟨el[i]'(by omega), List.getElem?_eq_getElem (by omega)⟩
    rw [hb] at h1
    obtain ⟨ce, hce, hte⟩ := Option.bind_eq_some_iff.1 h1
    obtain ⟨z, hz, hbz, _⟩ := DataW.trod_int Tryz.underlying3 hte
    have hb1 : b.1 = .lit (.int .i64 (x : Nat)) := by
      have := congrArg (·[i]?) eE
      simp only [List.getElem?_map, hb, hi, Option.map_some, Option.some.injEq] at this
      exact this.symm
    rw [hbz] at hb1
    simp only [DataW.lit.injEq, Lit.int.injEq, true_and] at hb1
    obtain ⟨_, _, hcc⟩ := World.cells?_some hce
    have := hcc 0 (by omega)
    rw [hz] at this
    simp only [Nat.mul_one] at this
    have e1 : (a.add i).add 0 = a.add i := by simp [Addr.add]
    rw [e1] at this
    rw [this, ← hb1]
    rfl
  refine ⟨a, cap, ?_, ?_, hcell⟩
  · rw [World.var?_cell hg hvar 0, ← Array.getElem?_toList, hcs]; rfl
  · have h0 := hcell 0 1 rfl
    have e1 : a.add 0 = a := by simp [Addr.add]
    rw [e1] at h0
    exact block_lt h0
theorem cheats_len : Go.Pinned.cheatRows.length = 61 := by kernel_rfl
theorem env_lch {W : World} (h : VarReads Tryz.prog W "internal/strconv.leftcheats" Go.Pinned.leftcheats) :
    ∃ (a : Addr) (cap : Nat), W.cell? ⟨12, 0, none⟩ = some (.slice (some a) 61 cap) ∧ a.block < W.heap.size ∧ ∀ (i : Nat) (x : Nat × List UInt8), Go.Pinned.cheatRows[i]? = some x → W.cell? (a.add (2 * i)) = some (.int .i64 (x.1 : Nat)) ∧ W.cell? (a.add (2 * i + 1)) = some (.string ⟨x.2.toArray⟩) := by
  obtain ⟨g, t, cs, fuel, p, hg, hty, hvar, hd⟩ := h
  obtain rfl := Option.some.inj ((show Tryz.prog.globalNamed "internal/strconv.leftcheats" = some 12 by kernel_rfl).symm.trans hg)
  obtain rfl := Option.some.inj ((show (Tryz.prog.globals[12]?).map (·.type) = some 293 by kernel_rfl).symm.trans hty)
  unfold Go.Pinned.leftcheats at hd
  rcases DataW.trod_slice Tryz.underlying293 hd with ⟨_, hx⟩ | ⟨a, len, cap, el, rs, m, rfl, hcs, hx, _, hlc, _, hel, helem, hsp, _⟩
  · cases hx
  have e0 := congrArg Prod.fst hx
  have eE : Go.Pinned.cheatRows.map (fun x => (DataW.agg [.lit (.int .i64 x.1), .lit (.string x.2)] : DataW Unit)) = el.map (·.1) := by
    simp only [DataW.slice.injEq] at e0
    exact e0.1
  have hlen : len = 61 := by
    have := congrArg List.length eE
    rw [List.length_map, List.length_map, cheats_len] at this
    omega
  subst hlen
  have hcell : ∀ (i : Nat) (x : Nat × List UInt8), Go.Pinned.cheatRows[i]? = some x → W.cell? (a.add (2 * i)) = some (.int .i64 (x.1 : Nat)) ∧ W.cell? (a.add (2 * i + 1)) = some (.string ⟨x.2.toArray⟩) := by
    intro i x hi
    have hi2 : i < 61 := by
      have := (List.getElem?_eq_some_iff.1 hi).1
      rwa [cheats_len] at this
    have h1 := helem i hi2
    rw [show Tryz.prog.cellsOf 292 = 2 by kernel_rfl] at h1
    obtain ⟨b, hb⟩ : ∃ b, el[i]? = some b := ⟨el[i]'(by omega), List.getElem?_eq_getElem (by omega)⟩
    rw [hb] at h1
    obtain ⟨ce, hce, hte⟩ := Option.bind_eq_some_iff.1 h1
    have hb1 : b.1 = .agg [.lit (.int .i64 x.1), .lit (.string x.2)] := by
      have := congrArg (·[i]?) eE
      simp only [List.getElem?_map, hb, hi, Option.map_some, Option.some.injEq] at this
      exact this.symm
    obtain ⟨xs, n, rfl, hxb, hl, hxl, hall⟩ := DataW.trod_struct Tryz.underlying292 hte
    rw [hxb] at hb1
    simp only [DataW.agg.injEq] at hb1
    obtain ⟨_, _, hcc⟩ := World.cells?_some hce
    have h0 := hall 0 _ rfl
    have h1 := hall 1 _ rfl
    obtain ⟨b0, k0, k1⟩ : ∃ b0, xs[0]? = some b0 ∧ b0.1 = .lit (.int .i64 x.1) := by
      have := congrArg (·[0]?) hb1
      simp only [List.getElem?_map, List.getElem?_cons_zero] at this
      obtain ⟨b, hb, hb2⟩ := Option.map_eq_some_iff.1 this
      exact ⟨b, hb, hb2⟩
    obtain ⟨b2, k2, k3⟩ : ∃ b0, xs[1]? = some b0 ∧ b0.1 = .lit (.string x.2) := by
      have := congrArg (·[1]?) hb1
      simp only [List.getElem?_map, List.getElem?_cons_succ, List.getElem?_cons_zero] at this
      obtain ⟨b, hb, hb2⟩ := Option.map_eq_some_iff.1 this
      exact ⟨b, hb, hb2⟩
    rw [k0] at h0
    rw [k2] at h1
    obtain ⟨z, hz, hbz, _⟩ := DataW.trod_int Tryz.underlying3 h0
    obtain ⟨y, hy, hby, _⟩ := DataW.trod_string Tryz.underlying9 h1
    rw [hbz] at k1
    rw [hby] at k3
    simp only [DataW.lit.injEq, Lit.int.injEq, Lit.string.injEq, true_and] at k1 k3
    change List.take (Tryz.prog.cellsOf 3) (List.drop 0 ce) = _ at hz
    change List.take (Tryz.prog.cellsOf 9) (List.drop 1 ce) = _ at hy
    rw [show Tryz.prog.cellsOf 3 = 1 by kernel_rfl, k1] at hz
    rw [show Tryz.prog.cellsOf 9 = 1 by kernel_rfl] at hy
    have hz0 := congrArg (·[0]?) hz
    have hy0 := congrArg (·[0]?) hy
    have q0 := hcc 0 (by omega)
    have q1 := hcc 1 (by omega)
    have hyx : y = ⟨x.2.toArray⟩ := by apply ByteArray.ext; rw [← k3]
    rw [Nat.mul_comm i 2] at q0 q1
    have e1 : (a.add (2 * i)).add 0 = a.add (2 * i) := by simp [Addr.add]
    have e2 : (a.add (2 * i)).add 1 = a.add (2 * i + 1) := by
      rcases Nat.eq_zero_or_pos i with h | h
      · subst h; simp [Addr.add]
      · have hi0 : ¬ 2 * i = 0 := by omega
        have h2 : a.add (2 * i) = { a with off := a.off + 2 * i, spot := none } := if_neg hi0
        have h3 : a.add (2 * i + 1) = { a with off := a.off + (2 * i + 1), spot := none } := if_neg (by omega)
        rw [h2, h3]; rfl
    rw [e1] at q0
    rw [e2] at q1
    constructor
    · rw [q0]; simpa [List.getElem?_take] using hz0
    · rw [q1, ← hyx]; simpa [List.getElem?_take, List.getElem?_drop] using hy0
  refine ⟨a, cap, ?_, ?_, hcell⟩
  · rw [World.var?_cell hg hvar 0, ← Array.getElem?_toList, hcs]; rfl
  · have h0 := (hcell 0 (0, []) rfl).1
    exact (add_block a _) ▸ block_lt h0
theorem env_of {W : World} (hL : laidMet Tryz.prog laidL W) (hsh : W.ShapedOpen Tryz.prog) : Env W := by
  have hr : ∀ (k : Nat) (n : String) (d : DataW Unit), laidL[k]? = some (n, d) → VarReads Tryz.prog W n d := fun k n d h => laidMet.reads hL (List.mem_of_getElem? h)
  refine ⟨?_, env_tab (hr 13 _ _ rfl), env_p10 (hr 8 _ _ rfl), ?_, env_opt (hr 4 _ _ rfl), env_info (hr 3 _ _ rfl), (env_infos (hr 3 _ _ rfl)).1, (env_infos (hr 3 _ _ rfl)).2, env_ptab (hr 5 _ _ rfl), env_lch (hr 12 _ _ rfl), env_f10 (hr 6 _ _ rfl), env_err (hr 10 _ _ rfl)⟩
  · obtain ⟨g, t, cs, fuel, p, hg, hty, hvar, hd⟩ := hr 1 _ _ rfl
    obtain rfl := Option.some.inj ((show Tryz.prog.globalNamed "math/bits.deBruijn64tab" = some 17 by kernel_rfl).symm.trans hg)
    exact Nat.le_trans (by decide) (var_size hg hvar)
  · exact cell_of_shapedOpen_int hsh (g := 2) (t := 3) (zero := #[.int .i64 0]) (of_decide_eq_true (by kernel_rfl)) (by kernel_rfl) rfl (by kernel_rfl) (by kernel_rfl) Tryz.underlying3
end Go.Proofs.YtlodbibagmblkaaGreatDoor
