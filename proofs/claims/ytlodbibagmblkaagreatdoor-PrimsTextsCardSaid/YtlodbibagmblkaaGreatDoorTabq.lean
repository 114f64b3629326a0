/- Arguments opened: literals, whatever the program; its types by their facts. (Printed by gen_opl.py.) -/
import Derived.Test.YtlodbibagmblkaaGreatDoorTabk
import Derived.Deep.Slices
import Derived.Deep.Fields
import Derived.SizedLaws
import Derived.Lib.SmallJoins
namespace Go.Proofs.YtlodbibagmblkaaGreatDoor
open Go Go.RowKit Go.ChangeShapes Go.WideShapes Go.Deep
section
variable {H : Type} {enc : TypeId × Value → H} {P : Program} {w : World} {base : Nat} {spare : Nat → Bool} {held : Bool}
/-- a slice of structs of one-cell fields: its elements, each with less fuel -/
theorem open_row {t e : TypeId} {fs : Array Field} {fuel : Nat} {cs : List Value} {x : DataW H × List MemPlace} (ht : P.underlying t = some (.slice e)) (he : P.underlying e = some (.struct fs))
    (hone : oneCellFields P fs = true) (hC : P.cellsOf e = fs.size) (h : DataW.trod enc P w base spare held fuel t cs = some x) :
    (cs = [.slice none 0 0] ∧ x = (.nil, [])) ∨
    ∃ (a : Addr) (len cap : Nat) (elems rest : List (DataW H × List MemPlace)), cs = [.slice (some a) len cap] ∧ len ≤ cap ∧ cap ≤ maxLen ∧ elems.length = len ∧ x.1 = .slice (elems.map (·.1)) (rest.map (·.1)) ∧
      ∀ i, i < len → ∃ (ys : List (DataW H × List MemPlace)) (m : Nat) (q : List MemPlace), m < fuel ∧ elems[i]? = some (.agg (ys.map (·.1)), q) ∧
        ∀ (j : Nat) (f : Field), fs[j]? = some f → ∃ (v : Value) (y : DataW H × List MemPlace), w.cell? (a.add (i * fs.size + j)) = some v ∧ ys[j]? = some y ∧ DataW.trod enc P w base spare held m f.type [v] = some y := by
  rcases DataW.trod_slice ht h with h0 | ⟨a, len, cap, elems, rest, n, hfu, rfl, rfl, hb, hl, hm, hlen, hel, _, _⟩
  · exact .inl h0
  · refine .inr ⟨a, len, cap, elems, rest, rfl, hl, hm, hlen, rfl, fun i hi => ?_⟩
    have h1 := hel i hi
    have hgi : elems[i]? = some (elems[i]'(by omega)) := List.getElem?_eq_getElem (by omega)
    rw [hgi] at h1
    obtain ⟨cs', hc, ht'⟩ := Option.bind_eq_some_iff.1 h1
    rw [hC] at hc
    obtain ⟨ys, n', hn', hy, hcl', hyl, hf⟩ := DataW.trod_struct he ht'
    obtain ⟨_, hcl, hat⟩ := World.cells?_some hc
    refine ⟨ys, n', ys.flatMap (·.2), by omega, by rw [hgi, hy], fun j f hj => ?_⟩
    obtain ⟨ho, hk⟩ := hone_of hone j f hj
    have hjl : j < fs.size := (Array.getElem?_eq_some_iff.1 hj).1
    have hcell := hat j hjl
    have hv : cs'[j]? = some (cs'[j]'(by omega)) := List.getElem?_eq_getElem (by omega)
    have h2 := hf j f hj
    rw [ho, hk] at h2
    have hone' : (cs'.drop j).take 1 = [cs'[j]'(by omega)] := by
      rw [List.drop_eq_getElem_cons (by omega)]
      rfl
    rw [hone'] at h2
    have hys : ys[j]? = some (ys[j]'(by omega)) := List.getElem?_eq_getElem (by omega)
    refine ⟨_, _, ?_, hys, h2.trans hys⟩
    rw [← Go.Deep.add_add, hcell, hv]
theorem weights_all_mem {e : TypeId} : ∀ {l : List (DataW H)} {d : DataW H}, d ∈ l → ∀ n ∈ d.weights P e, n ∈ DataW.weightsAll P e l
  | [], _, h, _, _ => by simp at h
  | y :: r, d, h, n, hn => by
    simp only [DataW.weightsAll, List.mem_append]
    rcases List.mem_cons.1 h with rfl | h
    · exact .inl hn
    · exact .inr (weights_all_mem h n hn)
/-- what is asked of the weights of a slice of structs is asked of each field's -/
theorem weights_field {t e : TypeId} {fs : Array Field} (ht : P.underlying t = some (.slice e)) (he : P.underlying e = some (.struct fs)) {elems rest : List (DataW H × List MemPlace)}
    (hw : ∀ n ∈ (DataW.slice (elems.map (·.1)) (rest.map (·.1)) : DataW H).weights P t, n ≤ reachBytes) {i : Nat} {ys : List (DataW H × List MemPlace)} {q : List MemPlace} (hi : elems[i]? = some (.agg (ys.map (·.1)), q))
    {j : Nat} {f : Field} {y : DataW H × List MemPlace} (hj : fs[j]? = some f) (hy : ys[j]? = some y) : ∀ n ∈ y.1.weights P f.type, n ≤ reachBytes := by
  intro n hn
  apply hw
  simp only [DataW.weights, ht, List.mem_cons, List.mem_append]
  refine .inr (.inl (weights_all_mem (d := .agg (ys.map (·.1))) ?_ n ?_))
  · exact List.mem_map.2 ⟨_, List.mem_of_getElem? hi, rfl⟩
  · simp only [DataW.weights, he]
    refine DataW.weights_mem_each (j := j) (t := f.type) (d := y.1) ?_ ?_ n hn
    · rw [List.getElem?_map]; simp [hj]
    · rw [List.getElem?_map, hy]; rfl
theorem weights_len {t e : TypeId} (ht : P.underlying t = some (.slice e)) (hb : 1 ≤ P.bytesOf e) {elems rest : List (DataW H)} (hw : ∀ n ∈ (DataW.slice elems rest : DataW H).weights P t, n ≤ reachBytes) : elems.length ≤ 140737488355328 := by
  have := hw _ (show (elems.length + rest.length) * P.bytesOf e ∈ _ by simp [DataW.weights, ht])
  have h2 : (elems.length + rest.length) * 1 ≤ (elems.length + rest.length) * P.bytesOf e := Nat.mul_le_mul_left _ hb
  unfold reachBytes at this
  omega
theorem add_at (b o k : Nat) : (⟨b, o, none⟩ : Addr).add k = ⟨b, o + k, none⟩ := by
  unfold Addr.add
  by_cases h : k = 0 <;> simp [h]
instance : Inhabited Pl.Lit := ⟨.mk 0 0 0 ⟨#[]⟩ []⟩
instance : Inhabited Value := ⟨.nilFunc⟩
/-- a row out of its elements -/
theorem row_of {α : Type} {size : Nat} {cs : α → Value → List Value} (hne : ∀ x v, 0 < (cs x v).length) {a : Addr} {len cap : Nat} (hl : len ≤ cap) (hm : cap ≤ maxLen) (hlen : len ≤ 140737488355328) (f : Nat → α × Value)
    (hf : ∀ i, i < len → ∀ j u, (cs (f i).1 (f i).2)[j]? = some u → w.cell? (a.add (i * size + j)) = some u) :
    RowAt size cs w ((List.range len).map fun i => (f i).1) (some a) cap (fun i => (f i).2) ∧ (((List.range len).map fun i => (f i).1) ≠ [] → ∀ b, some a = some b → b.block < w.heap.size) := by
  have hlt : ((List.range len).map fun i => (f i).1) ≠ [] → 0 < len := by
    intro h
    rcases Nat.eq_zero_or_pos len with rfl | h2
    · simp at h
    · exact h2
  have hfirst : 0 < len → ∃ u, w.cell? a = some u := by
    intro h0
    have := hf 0 h0 0 _ (List.getElem?_eq_getElem (hne _ _))
    exact ⟨_, by simpa [Addr.add] using this⟩
  have hblk : ((List.range len).map fun i => (f i).1) ≠ [] → ∀ b, some a = some b → b.block < w.heap.size := by
    intro h b hb
    cases hb
    obtain ⟨u, hu⟩ := hfirst (hlt h)
    exact World.block_lt_of_cell? _ _ hu
  refine ⟨⟨by simpa using hl, hm, by simpa using hlen, ?_, fun h => (by cases h), hblk, ?_⟩, hblk⟩
  · intro h
    obtain ⟨u, hu⟩ := hfirst (hlt h)
    obtain ⟨b, o, sp⟩ := a
    obtain rfl : sp = none := World.cell?_spot hu
    exact ⟨b, o, rfl⟩
  · intro b o e i x hx j u hu
    cases e
    rw [List.getElem?_map] at hx
    obtain ⟨k, hk, rfl⟩ := Option.map_eq_some_iff.1 hx
    obtain ⟨hki, rfl⟩ : k < len ∧ k = i := by
      obtain ⟨h1, h2⟩ := List.getElem?_eq_some_iff.1 hk
      simp at h1 h2
      exact ⟨by omega, by omega⟩
    have := hf k hki j u hu
    rwa [add_at, ← Nat.add_assoc] at this
theorem open_lits {tl te : TypeId} {g0 g1 g2 g3 g4 : Field} (ht : P.underlying tl = some (.slice te)) (he : P.underlying te = some (.struct #[g0, g1, g2, g3, g4])) (hone : oneCellFields P #[g0, g1, g2, g3, g4] = true) (hC : P.cellsOf te = 5) (hby : 1 ≤ P.bytesOf te)
    (u0 : P.underlying g0.type = some (.int .u8)) (u1 : P.underlying g1.type = some (.int .i64)) (u2 : P.underlying g2.type = some (.int .u64)) (u3 : P.underlying g3.type = some .string) (u4 : g4.type = tl) :
    ∀ (fuel : Nat) (v : Value) (x : DataW H × List MemPlace), DataW.trod enc P w base spare held fuel tl [v] = some x → (∀ n ∈ x.1.weights P tl, n ≤ reachBytes) → ∃ l : List Pl.Lit, LitsAt w.heap.size w l v := by
  intro fuel
  induction fuel using Nat.strongRecOn with
  | _ fuel ih =>
    intro v x h hw
    rcases open_row ht he hone hC h with ⟨hv, _⟩ | ⟨a, len, cap, elems, rest, hv, hl, hm, hlen, hx, hi⟩
    · cases hv
      exact ⟨[], .mk none [] 0 (fun _ => .nilFunc) (fun h => absurd rfl h) ⟨Nat.le_refl _, Nat.zero_le _, Nat.zero_le _, fun h => absurd rfl h, fun _ => rfl, fun h => absurd rfl h, fun _ _ e => by cases e⟩ (fun _ h => by cases h) (fun _ _ h => by simp at h)⟩
    · cases hv
      rw [hx] at hw
      have hlb : len ≤ 140737488355328 := by have := weights_len ht hby hw; rw [List.length_map] at this; omega
      have hel : ∀ i, i < len → ∃ p : Pl.Lit × Value, Pl.LitW p.1 ∧ LitsAt w.heap.size w p.1.items p.2 ∧ ∀ j u, (litCells p.1 p.2)[j]? = some u → w.cell? (a.add (i * 5 + j)) = some u := by
        intro i hil
        obtain ⟨ys, m, q, hm1, he1, hf⟩ := hi i hil
        obtain ⟨v0, y0, c0, d0, t0⟩ := hf 0 g0 rfl
        obtain ⟨v1, y1, c1, d1, t1⟩ := hf 1 g1 rfl
        obtain ⟨v2, y2, c2, d2, t2⟩ := hf 2 g2 rfl
        obtain ⟨v3, y3, c3, d3, t3⟩ := hf 3 g3 rfl
        obtain ⟨v4, y4, c4, d4, t4⟩ := hf 4 g4 rfl
        obtain ⟨n0, e0, r0, w0⟩ := DataW.trod_int u0 t0
        obtain ⟨n1, e1, r1, w1⟩ := DataW.trod_int u1 t1
        obtain ⟨n2, e2, r2, w2⟩ := DataW.trod_int u2 t2
        obtain ⟨s, e3, r3, w3⟩ := DataW.trod_string u3 t3
        cases e0; cases e1; cases e2; cases e3
        subst r0 r1 r2 r3
        rw [u4] at t4
        obtain ⟨l4, hl4⟩ := ih m hm1 v4 y4 t4 (by rw [← u4]; exact weights_field ht he hw he1 (j := 4) rfl d4)
        have k0 : 0 ≤ n0 ∧ n0 ≤ 255 := by simpa [Lit.wf, IntKind.min, IntKind.max, IntKind.signed, IntKind.bits] using w0
        have k1 : -9223372036854775808 ≤ n1 ∧ n1 ≤ 9223372036854775807 := by simpa [Lit.wf, IntKind.min, IntKind.max, IntKind.signed, IntKind.bits] using w1
        have k2 : 0 ≤ n2 ∧ n2 ≤ 18446744073709551615 := by simpa [Lit.wf, IntKind.min, IntKind.max, IntKind.signed, IntKind.bits] using w2
        have k3 : s.size ≤ 140737488355328 := by
          have := weights_field ht he hw he1 (j := 3) rfl d3 s.data.toList.length (by simp [DataW.weights])
          unfold reachBytes at this
          have e : s.data.toList.length = s.size := by simp
          omega
        refine ⟨(.mk n0.toNat n1 n2.toNat s l4, v4), ⟨?_, k1.1, k1.2, ?_, k3⟩, hl4, ?_⟩
        · show n0.toNat < 256; omega
        · show n2.toNat < 18446744073709551616; omega
        · intro j u hu
          have z0 : ((n0.toNat : Nat) : Int) = n0 := by omega
          have z2 : ((n2.toNat : Nat) : Int) = n2 := by omega
          match j, hu with
          | 0, hu => cases hu; rw [show (Pl.Lit.mk n0.toNat n1 n2.toNat s l4).kind = n0.toNat from rfl, z0]; exact c0
          | 1, hu => cases hu; exact c1
          | 2, hu => cases hu; rw [show (Pl.Lit.mk n0.toNat n1 n2.toNat s l4).bits = n2.toNat from rfl, z2]; exact c2
          | 3, hu => cases hu; exact c3
          | 4, hu => cases hu; exact c4
          | j + 5, hu => simp [litCells] at hu
      obtain ⟨f, hf⟩ := choose_lt hel
      obtain ⟨hrow, hblk⟩ := row_of (cs := litCells) (fun _ _ => by simp [litCells]) hl hm hlb f (fun i hi => (hf i hi).2.2)
      refine ⟨(List.range len).map fun i => (f i).1, ?_⟩
      have hll : ((List.range len).map fun i => (f i).1).length = len := by simp
      have hmem : ∀ (i : Nat) (x : Pl.Lit), ((List.range len).map fun i => (f i).1)[i]? = some x → i < len ∧ x = (f i).1 := by
        intro i x hx
        rw [List.getElem?_map] at hx
        obtain ⟨k, hk, rfl⟩ := Option.map_eq_some_iff.1 hx
        obtain ⟨h1, h2⟩ := List.getElem?_eq_some_iff.1 hk
        simp at h1 h2
        subst h2
        exact ⟨h1, rfl⟩
      have key := LitsAt.mk (B := w.heap.size) (w := w) (some a) ((List.range len).map fun i => (f i).1) cap (fun i => (f i).2) hblk hrow
        (fun x hx => by obtain ⟨i, hi'⟩ := List.mem_iff_getElem?.1 hx; obtain ⟨h1, rfl⟩ := hmem i x hi'; exact (hf i h1).1)
        (fun i x hx => by obtain ⟨h1, rfl⟩ := hmem i x hx; exact (hf i h1).2.1)
      rwa [hll] at key
theorem weights_agg {t : TypeId} {fs : Array Field} {ds : List (DataW H)} (hs : P.underlying t = some (.struct fs)) (hw : ∀ n ∈ (DataW.agg ds : DataW H).weights P t, n ≤ reachBytes) {j : Nat} {f : Field} {d : DataW H} (hj : fs[j]? = some f) (hd : ds[j]? = some d) : ∀ n ∈ d.weights P f.type, n ≤ reachBytes := by
  intro n hn
  apply hw
  simp only [DataW.weights, hs]
  exact DataW.weights_mem_each (j := j) (t := f.type) (d := d) (by rw [List.getElem?_map]; simp [hj]) hd n hn
theorem array5 {α : Type} {cs : Array α} (h : cs.size = 5) : ∃ a b c d e, cs = #[a, b, c, d, e] := by
  rcases cs with ⟨l⟩
  match l, h with
  | [a, b, c, d, e], _ => exact ⟨a, b, c, d, e, rfl⟩
/-- a literal by value, opened -/
theorem open_lit {tl te : TypeId} {g0 g1 g2 g3 g4 : Field} (ht : P.underlying tl = some (.slice te)) (he : P.underlying te = some (.struct #[g0, g1, g2, g3, g4])) (hone : oneCellFields P #[g0, g1, g2, g3, g4] = true) (hC : P.cellsOf te = 5) (hby : 1 ≤ P.bytesOf te)
    (u0 : P.underlying g0.type = some (.int .u8)) (u1 : P.underlying g1.type = some (.int .i64)) (u2 : P.underlying g2.type = some (.int .u64)) (u3 : P.underlying g3.type = some .string) (u4 : g4.type = tl)
    {r : Reach} {b0 : Nat} {v : Value} {d : DataW H} {p : List MemPlace} (hv : Value.okWide P w r b0 te v) (h : DataW.Trod enc P w base spare held te v d p) (hw : ∀ n ∈ d.weights P te, n ≤ reachBytes) :
    ∃ (x : Pl.Lit) (vx : Value), v = litV x vx ∧ Pl.LitW x ∧ LitsAt w.heap.size w x.items vx := by
  obtain ⟨cs, rfl, hsz⟩ := Go.WideShapes.okWide_struct he hv
  obtain ⟨c0, c1, c2, c3, c4, rfl⟩ := array5 (hsz.trans hC)
  obtain ⟨fuel, hf⟩ := h
  obtain ⟨ys, n, _, hx, _, hlen, hat⟩ := DataW.trod_struct he hf
  have key : ∀ (j : Nat) (f : Field) (c : Value), #[g0, g1, g2, g3, g4][j]? = some f → [c0, c1, c2, c3, c4][j]? = some c → ∃ y, ys[j]? = some y ∧ DataW.trod enc P w base spare held n f.type [c] = some y := by
    intro j f c hj hc
    obtain ⟨ho, hk⟩ := hone_of hone j f hj
    have h2 := hat j f hj
    rw [ho, hk] at h2
    have hjl : j < ys.length := by rw [hlen]; exact (Array.getElem?_eq_some_iff.1 hj).1
    have e : ((Value.agg #[c0, c1, c2, c3, c4]).cells.toList.drop j).take 1 = [c] := by
      have hcl : (Value.agg #[c0, c1, c2, c3, c4]).cells.toList = [c0, c1, c2, c3, c4] := rfl
      rw [hcl]
      have hj5 : j < [c0, c1, c2, c3, c4].length := (List.getElem?_eq_some_iff.1 hc).1
      rw [List.drop_eq_getElem_cons hj5]
      rw [List.getElem?_eq_getElem hj5] at hc
      injection hc with hc
      rw [hc]; rfl
    rw [e] at h2
    exact ⟨ys[j], List.getElem?_eq_getElem hjl, h2.trans (List.getElem?_eq_getElem hjl)⟩
  obtain ⟨y0, d0, t0⟩ := key 0 g0 c0 rfl rfl
  obtain ⟨y1, d1, t1⟩ := key 1 g1 c1 rfl rfl
  obtain ⟨y2, d2, t2⟩ := key 2 g2 c2 rfl rfl
  obtain ⟨y3, d3, t3⟩ := key 3 g3 c3 rfl rfl
  obtain ⟨y4, d4, t4⟩ := key 4 g4 c4 rfl rfl
  have hd : d = .agg (ys.map (·.1)) := congrArg Prod.fst hx
  rw [hd] at hw
  obtain ⟨n0, e0, r0, w0⟩ := DataW.trod_int u0 t0
  obtain ⟨n1, e1, r1, w1⟩ := DataW.trod_int u1 t1
  obtain ⟨n2, e2, r2, w2⟩ := DataW.trod_int u2 t2
  obtain ⟨s, e3, r3, w3⟩ := DataW.trod_string u3 t3
  cases e0; cases e1; cases e2; cases e3
  subst r0 r1 r2 r3
  have hw4 := weights_agg he hw (j := 4) (f := g4) (d := y4.1) rfl (by rw [List.getElem?_map, d4]; rfl)
  rw [u4] at t4 hw4
  obtain ⟨l4, hl4⟩ := open_lits ht he hone hC hby u0 u1 u2 u3 u4 _ _ _ t4 hw4
  have k0 : 0 ≤ n0 ∧ n0 ≤ 255 := by simpa [Lit.wf, IntKind.min, IntKind.max, IntKind.signed, IntKind.bits] using w0
  have k1 : -9223372036854775808 ≤ n1 ∧ n1 ≤ 9223372036854775807 := by simpa [Lit.wf, IntKind.min, IntKind.max, IntKind.signed, IntKind.bits] using w1
  have k2 : 0 ≤ n2 ∧ n2 ≤ 18446744073709551615 := by simpa [Lit.wf, IntKind.min, IntKind.max, IntKind.signed, IntKind.bits] using w2
  have k3 : s.size ≤ 140737488355328 := by
    have := weights_agg he hw (j := 3) (f := g3) rfl (by rw [List.getElem?_map, d3]; rfl) s.data.toList.length (by simp [DataW.weights])
    unfold reachBytes at this
    have e : s.data.toList.length = s.size := by simp
    omega
  refine ⟨.mk n0.toNat n1 n2.toNat s l4, c4, ?_, ⟨?_, k1.1, k1.2, ?_, k3⟩, hl4⟩
  · have z0 : ((n0.toNat : Nat) : Int) = n0 := by omega
    have z2 : ((n2.toNat : Nat) : Int) = n2 := by omega
    unfold litV
    rw [show (Pl.Lit.mk n0.toNat n1 n2.toNat s l4).kind = n0.toNat from rfl, show (Pl.Lit.mk n0.toNat n1 n2.toNat s l4).bits = n2.toNat from rfl, z0, z2]
    rfl
  · show n0.toNat < 256; omega
  · show n2.toNat < 18446744073709551616; omega
end
end Go.Proofs.YtlodbibagmblkaaGreatDoor
