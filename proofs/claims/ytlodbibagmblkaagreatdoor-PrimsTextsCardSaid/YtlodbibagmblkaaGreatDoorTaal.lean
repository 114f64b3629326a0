/- Plain: texts of numbers to a base. A large number as a text: the contract of Text. Plain: which texts are whole numbers. -/
import Derived.Test.YtlodbibagmblkaaGreatDoorTaai
import Derived.Test.YtlodbibagmblkaaGreatDoorTaak
namespace Go.Proofs.YtlodbibagmblkaaGreatDoor.Pl
theorem snocInd {α : Type} {P : List α → Prop} (h0 : P []) (h1 : ∀ l d, P l → P (l ++ [d])) (l : List α) : P l := by
  have : ∀ l : List α, P l.reverse := by
    intro l
    induction l with
    | nil => exact h0
    | cons a l ih => rw [List.reverse_cons]; exact h1 _ _ ih
  have := this l.reverse
  rwa [List.reverse_reverse] at this
/-- digits as a number, the highest first -/
def valB (b : Nat) (ds : List Nat) : Nat := ds.foldl (fun a d => a * b + d) 0
theorem valB_nil (b : Nat) : valB b [] = 0 := rfl
theorem valB_snoc (b : Nat) (l : List Nat) (d : Nat) : valB b (l ++ [d]) = valB b l * b + d := by simp [valB, List.foldl_append]
/-- digits as they are written: no nought ahead -/
structure CanB (b : Nat) (ds : List Nat) (V : Nat) : Prop where
  ne : ds ≠ []
  lt : ∀ d ∈ ds, d < b
  head : ds.head? = some 0 → ds.length = 1
  val : valB b ds = V
theorem valB_pos {b : Nat} (hb : 2 ≤ b) : ∀ {n : Nat} {ds : List Nat}, ds.length = n → ds ≠ [] → ds.head? ≠ some 0 → 0 < valB b ds := by
  intro n
  induction n with
  | zero => intro ds h h0; exact absurd (List.eq_nil_of_length_eq_zero h) h0
  | succ n ih =>
    intro ds h _ hd
    obtain ⟨l, d, rfl⟩ : ∃ l d, ds = l ++ [d] := ⟨ds.dropLast, ds.getLast (by intro e; rw [e] at h; simp at h), (List.dropLast_concat_getLast _).symm⟩
    rw [valB_snoc]
    cases l with
    | nil =>
      have : d ≠ 0 := by intro e; rw [e] at hd; exact hd rfl
      omega
    | cons a l =>
      have := ih (ds := a :: l) (by simpa using h) (by simp) (by simpa using hd)
      have : 0 < valB b (a :: l) * b := Nat.mul_pos this (by omega)
      omega
theorem canB_inj {b : Nat} (hb : 2 ≤ b) : ∀ {n : Nat} {ds es : List Nat} {V : Nat}, ds.length = n → CanB b ds V → CanB b es V → ds = es := by
  intro n
  induction n with
  | zero => intro ds es V h h1; exact absurd (List.eq_nil_of_length_eq_zero h) h1.ne
  | succ n ih =>
    intro ds es V h h1 h2
    obtain ⟨l, d, rfl⟩ : ∃ l d, ds = l ++ [d] := ⟨_, _, (List.dropLast_concat_getLast h1.ne).symm⟩
    obtain ⟨m, e, rfl⟩ : ∃ m e, es = m ++ [e] := ⟨_, _, (List.dropLast_concat_getLast h2.ne).symm⟩
    have hd := h1.lt d (by simp)
    have he := h2.lt e (by simp)
    have v1 := h1.val
    have v2 := h2.val
    rw [valB_snoc] at v1 v2
    have e1 : d = e := by
      have q1 : V % b = d := by rw [← v1, Nat.add_comm, Nat.add_mul_mod_self_right, Nat.mod_eq_of_lt hd]
      have q2 : V % b = e := by rw [← v2, Nat.add_comm, Nat.add_mul_mod_self_right, Nat.mod_eq_of_lt he]
      omega
    have e2 : valB b l = valB b m := by
      have : valB b l * b = valB b m * b := by omega
      exact Nat.eq_of_mul_eq_mul_right (by omega) this
    subst e1
    have hdl : ∀ {l m : List Nat} {d : Nat}, CanB b (l ++ [d]) V → CanB b (m ++ [d]) V → valB b l = valB b m → l = [] → m = [] := by
      intro l m d _ k2 k3 k4
      subst k4
      cases m with
      | nil => rfl
      | cons a m =>
        have := valB_pos hb (ds := a :: m) rfl (by simp) (by
          intro hh
          have := k2.head (by simpa using hh)
          simp at this)
        rw [← k3] at this
        exact absurd this (by rw [valB_nil]; omega)
    by_cases hl : l = []
    · rw [hl, hdl h1 h2 e2 hl]
    · by_cases hm : m = []
      · exact absurd (hdl h2 h1 e2.symm hm) hl
      · have : l = m := ih (by simpa using h) (V := valB b l) ⟨hl, fun x hx => h1.lt x (by simp [hx]), fun hh => by
            have hx := h1.head (by rw [List.head?_append, hh]; rfl)
            rw [List.length_append] at hx
            have : 0 < l.length := List.length_pos_iff.2 hl
            simp at hx
            exact absurd hx hl, rfl⟩ ⟨hm, fun x hx => h2.lt x (by simp [hx]), fun hh => by
            have hx := h2.head (by rw [List.head?_append, hh]; rfl)
            rw [List.length_append] at hx
            simp at hx
            exact absurd hx hm, e2.symm⟩
        rw [this]
/-- the value of a part is no greater -/
theorem valB_take_le {b : Nat} (hb : 1 ≤ b) (ds : List Nat) (k : Nat) : valB b (ds.take k) ≤ valB b ds := by
  refine snocInd (P := fun ds => ∀ k, valB b (ds.take k) ≤ valB b ds) (by simp) ?_ ds k
  · intro l d ih k
    by_cases h : k ≤ l.length
    · rw [List.take_append_of_le_length h, valB_snoc]
      have := ih k
      have : valB b l * 1 ≤ valB b l * b := Nat.mul_le_mul_left _ hb
      have := ih k
      omega
    · rw [List.take_of_length_le (by simp; omega)]; exact Nat.le_refl _
theorem valB_take_succ (b : Nat) (ds : List Nat) {k : Nat} (h : k < ds.length) : valB b (ds.take (k + 1)) = valB b (ds.take k) * b + ds[k] := by
  rw [List.take_succ_eq_append_getElem h, valB_snoc]
/-- the digits that are taken off from the end, the lowest first -/
def low (b V k : Nat) : List Nat := (List.range k).map fun i => V / b ^ i % b
theorem low_succ (b V k : Nat) : low b V (k + 1) = low b V k ++ [V / b ^ k % b] := by simp [low, List.range_succ]
theorem low_len (b V k : Nat) : (low b V k).length = k := by simp [low]
theorem low_lt {b V k : Nat} (hb : 0 < b) {d : Nat} (h : d ∈ low b V k) : d < b := by
  obtain ⟨i, _, rfl⟩ := List.mem_map.1 h; exact Nat.mod_lt _ hb
theorem valB_append (b : Nat) (l m : List Nat) : valB b (l ++ m) = valB b l * b ^ m.length + valB b m := by
  refine snocInd (P := fun m => valB b (l ++ m) = valB b l * b ^ m.length + valB b m) (by simp [valB]) ?_ m
  · intro m d ih
    rw [← List.append_assoc, valB_snoc, ih, valB_snoc, List.length_append, List.length_singleton, Nat.pow_succ, Nat.add_mul, Nat.mul_assoc, Nat.add_assoc]
theorem valB_low {b : Nat} (hb : 0 < b) (V : Nat) : ∀ k, valB b (low b V k).reverse + V / b ^ k * b ^ k = V
  | 0 => by simp [low, valB]
  | k + 1 => by
    have ih := valB_low hb V k
    rw [low_succ, List.reverse_append, List.reverse_cons, List.reverse_nil, List.nil_append, valB_append, List.length_reverse, low_len]
    have e : valB b [V / b ^ k % b] = V / b ^ k % b := by simp [valB]
    rw [e, Nat.pow_succ, ← Nat.div_div_eq_div_mul]
    have e2 := Nat.div_add_mod (V / b ^ k) b
    have e3 : V / b ^ k * b ^ k = (V / b ^ k / b * b + V / b ^ k % b) * b ^ k := by
      rw [Nat.mul_comm _ b, e2]
    rw [e3, Nat.add_mul] at ih
    have e4 : V / b ^ k / b * (b ^ k * b) = V / b ^ k / b * b * b ^ k := by rw [Nat.mul_assoc, Nat.mul_comm b]
    rw [e4]; omega
/-- all digits of a number -/
theorem canB_low {b V k : Nat} (hb : 2 ≤ b) (hk : 0 < k) (h0 : V / b ^ k = 0) (h1 : V / b ^ (k - 1) ≠ 0) : CanB b (low b V k).reverse V := by
  refine ⟨?_, ?_, ?_, ?_⟩
  · intro e
    have := congrArg List.length e
    simp [low_len] at this; omega
  · intro d hd
    rw [List.mem_reverse] at hd
    exact low_lt (by omega) hd
  · intro hh
    exfalso
    obtain ⟨j, rfl⟩ : ∃ j, k = j + 1 := ⟨k - 1, by omega⟩
    rw [low_succ, List.reverse_append] at hh
    simp at hh
    rw [Nat.add_sub_cancel] at h1
    rw [Nat.pow_succ, ← Nat.div_div_eq_div_mul] at h0
    have := Nat.div_add_mod (V / b ^ j) b
    rw [h0] at this
    have hz : V / b ^ j % b = 0 := by simpa using hh
    rw [hz] at this
    simp at this
    exact h1 (by simpa using this.symm)
  · have := valB_low (b := b) (by omega) V k
    rw [h0] at this
    simpa using this
theorem canB_zero (b : Nat) (hb : 2 ≤ b) : CanB b [0] 0 := ⟨by simp, fun d hd => by simp at hd; omega, fun _ => rfl, by simp [valB]⟩
/-- a digit as it is written, and read -/
def dgc (d : Nat) : UInt8 := UInt8.ofNat (if d < 10 then 48 + d else 55 + d)
def dg (c : UInt8) : Nat := if 48 ≤ c.toNat ∧ c.toNat ≤ 57 then c.toNat - 48 else if 65 ≤ c.toNat ∧ c.toNat ≤ 90 then c.toNat - 55 else 99
set_option maxRecDepth 4000 in
theorem dg_dgc {d : Nat} (h : d < 36) : dg (dgc d) = d := by
  have : ∀ d, d < 36 → dg (dgc d) = d := by decide
  exact this d h
set_option maxRecDepth 4000 in
theorem dgc_dg {c : UInt8} (h : dg c < 36) : dgc (dg c) = c := by
  have : ∀ n, n < 256 → dg (UInt8.ofNat n) < 36 → dgc (dg (UInt8.ofNat n)) = UInt8.ofNat n := by decide
  have := this c.toNat c.toNat_lt
  simp only [UInt8.ofNat_toNat] at this
  exact this h
/-- a text of a number to a base -/
def CanT (b : Nat) (s : List UInt8) (V : Nat) : Prop := CanB b (s.map dg) V
theorem map_dg_inj {s t : List UInt8} (hs : ∀ d ∈ s.map dg, d < 36) (h : s.map dg = t.map dg) : s = t := by
  have e : ∀ {s : List UInt8}, (∀ d ∈ s.map dg, d < 36) → (s.map dg).map dgc = s := by
    intro s hs
    rw [List.map_map]
    conv => rhs; rw [← List.map_id s]
    apply List.map_congr_left
    intro c hc
    exact dgc_dg (hs _ (List.mem_map.2 ⟨c, hc, rfl⟩))
  rw [← e hs, h, e (by rw [← h]; exact hs)]
theorem canT_inj {b : Nat} (hb : 2 ≤ b) (hb2 : b ≤ 36) {s t : List UInt8} {V : Nat} (hs : CanT b s V) (ht : CanT b t V) : s = t :=
  map_dg_inj (fun d hd => Nat.lt_of_lt_of_le (hs.lt d hd) hb2) (canB_inj hb rfl hs ht)
/-- a text of a whole number -/
def IntT (b : Nat) (s : List UInt8) (n : Int) : Prop := if n < 0 then ∃ t, s = 45 :: t ∧ CanT b t n.natAbs else CanT b s n.natAbs
theorem intT_inj {b : Nat} (hb : 2 ≤ b) (hb2 : b ≤ 36) {s t : List UInt8} {n : Int} (hs : IntT b s n) (ht : IntT b t n) : s = t := by
  unfold IntT at hs ht
  split at hs
  · rename_i h
    rw [if_pos h] at ht
    obtain ⟨s', rfl, hs⟩ := hs
    obtain ⟨t', rfl, ht⟩ := ht
    rw [canT_inj hb hb2 hs ht]
  · rename_i h
    rw [if_neg h] at ht
    exact canT_inj hb hb2 hs ht
theorem dg_minus : dg 45 = 99 := by decide
theorem canT_head {b : Nat} (hb2 : b ≤ 36) {s : List UInt8} {V : Nat} (h : CanT b s V) : s.head? ≠ some 45 := by
  intro e
  cases s with
  | nil => simp at e
  | cons c s =>
    simp at e; subst e
    have := h.lt (dg 45) (by simp)
    rw [dg_minus] at this
    omega
/-- a text tells its number -/
theorem intT_val {b : Nat} (hb2 : b ≤ 36) {s : List UInt8} {n m : Int} (hs : IntT b s n) (ht : IntT b s m) : n = m := by
  unfold IntT at hs ht
  by_cases hn : n < 0
  · rw [if_pos hn] at hs
    obtain ⟨t, rfl, h1⟩ := hs
    by_cases hm : m < 0
    · rw [if_pos hm] at ht
      obtain ⟨t', e, h2⟩ := ht
      simp at e; subst e
      have : n.natAbs = m.natAbs := by rw [← h1.val, ← h2.val]
      omega
    · rw [if_neg hm] at ht
      exact absurd rfl (canT_head hb2 ht)
  · rw [if_neg hn] at hs
    by_cases hm : m < 0
    · rw [if_pos hm] at ht
      obtain ⟨t, rfl, h2⟩ := ht
      exact absurd rfl (canT_head hb2 hs)
    · rw [if_neg hm] at ht
      have : n.natAbs = m.natAbs := by rw [← hs.val, ← ht.val]
      omega
end Go.Proofs.YtlodbibagmblkaaGreatDoor.Pl
namespace Go.Proofs.YtlodbibagmblkaaGreatDoor
open Go.RowKit Go.Lib
/-- words and bytes do not lie in one block -/
theorem Rd.grown {w w' : World} {v u : Value} {xs : List Nat} {l : List UInt8} {base : Nat} (h : Rd w v xs) (ho : Own1 w base u l) (hn : l = [] → u.ownBlock = none) (hg : w.grownBy w' u.ownBlock) : Rd w' v xs := by
  rcases h with h | ⟨b, cap, h1, h2, h3, h4⟩
  · exact .inl h
  · refine .inr ⟨b, cap, h1, h2, Nat.lt_of_lt_of_le h3 hg.size, fun j x hj => ?_⟩
    have hne : some b ≠ u.ownBlock := by
      intro e
      have hl : l ≠ [] := fun e2 => by rw [hn e2] at e; cases e
      obtain ⟨c, l', rfl⟩ : ∃ c l', l = c :: l' := by
        cases l with
        | nil => exact absurd rfl hl
        | cons c l' => exact ⟨c, l', rfl⟩
      have hc := Owns.cells ho (g := b) e.symm 0 (.int .u8 c.toNat) (by simp [bc])
      rw [Addr.add_lit, Nat.zero_add] at hc
      have h0 : 0 < xs.length := by have := (List.getElem?_eq_some_iff.1 hj).1; omega
      have := h4 0 _ (List.getElem?_eq_getElem h0)
      rw [hc] at this
      injection this with this
      cases this
    rw [World.cell?_of_block (w := w) (hg.block b h3 hne)]
    exact h4 j x hj
def digitsBA : ByteArray := { data := #[48, 49, 50, 51, 52, 53, 54, 55, 56, 57, 65, 66, 67, 68, 69, 70, 71, 72, 73, 74, 75, 76, 77, 78, 79, 80, 81, 82, 83, 84, 85, 86, 87, 88, 89, 90] }
theorem digit_at {r : Nat} (h : r < 36) (hq : r < ({ data := #[48, 49, 50, 51, 52, 53, 54, 55, 56, 57, 65, 66, 67, 68, 69, 70, 71, 72, 73, 74, 75, 76, 77, 78, 79, 80, 81, 82, 83, 84, 85, 86, 87, 88, 89, 90] } : ByteArray).size) : ({ data := #[48, 49, 50, 51, 52, 53, 54, 55, 56, 57, 65, 66, 67, 68, 69, 70, 71, 72, 73, 74, 75, 76, 77, 78, 79, 80, 81, 82, 83, 84, 85, 86, 87, 88, 89, 90] } : ByteArray)[r]'hq = Pl.dgc r := by
  have : ∀ r, r < 36 → digitsBA.data.toList[r]? = some (Pl.dgc r) := by decide
  have h2 := this r h
  rw [Array.getElem?_toList, Array.getElem?_eq_getElem (show r < digitsBA.data.size from h)] at h2
  exact Option.some.inj h2
/-- the digits that are taken off, as they are written -/
def Pl.lowT (b V k : Nat) : List UInt8 := (Pl.low b V k).map Pl.dgc
theorem Pl.lowT_succ (b V k : Nat) : Pl.lowT b V (k + 1) = Pl.lowT b V k ++ [Pl.dgc (V / b ^ k % b)] := by unfold Pl.lowT; rw [Pl.low_succ, List.map_append]; rfl
theorem Pl.lowT_len (b V k : Nat) : (Pl.lowT b V k).length = k := by unfold Pl.lowT; rw [List.length_map, Pl.low_len]
theorem Pl.canT_low {b V k : Nat} (hb : 2 ≤ b) (hb2 : b ≤ 36) (hk : 0 < k) (h0 : V / b ^ k = 0) (h1 : V / b ^ (k - 1) ≠ 0) : Pl.CanT b (Pl.lowT b V k).reverse V := by
  unfold Pl.CanT
  have e : ((Pl.lowT b V k).reverse).map Pl.dg = (Pl.low b V k).reverse := by
    unfold Pl.lowT
    rw [← List.map_reverse, List.map_map]
    conv => rhs; rw [← List.map_id (Pl.low b V k).reverse]
    apply List.map_congr_left
    intro d hd
    rw [List.mem_reverse] at hd
    exact Pl.dg_dgc (Nat.lt_of_lt_of_le (Pl.low_lt (by omega) hd) hb2)
  rw [e]
  exact Pl.canB_low hb hk h0 h1
theorem Pl.low_many {b V k n : Nat} (hb : 2 ≤ b) (hV : V < 2 ^ n) (hk : k = 0 ∨ V / b ^ (k - 1) ≠ 0) : k ≤ n := by
  rcases hk with hk | hk
  · omega
  · rcases Nat.lt_or_ge n k with h | h
    · exfalso
      apply hk
      apply Nat.div_eq_of_lt
      refine Nat.lt_of_lt_of_le hV ?_
      exact Nat.le_trans (Nat.pow_le_pow_right (by decide) (show n ≤ k - 1 by omega)) (Nat.pow_le_pow_left hb _)
    · exact h
theorem Pl.Big.two {n : Int} (h : Pl.Big n) : ∃ m, m ≤ 32768 ∧ n.natAbs < 2 ^ m := by
  have key : ∀ a k : Nat, a < 256 ^ k → a < 2 ^ (8 * k) := fun a k h => by rw [Nat.pow_mul]; exact h
  exact ⟨8 * 4096, by decide, key _ 4096 h⟩
theorem Pl.Big.quo {n : Int} (h : Pl.Big n) (d : Nat) : (Pl.wd (n.natAbs / d)).length ≤ 1024 := Pl.wd_len _ (Nat.lt_of_le_of_lt (Nat.div_le_self _ _) h)
theorem chain2 {w W W' : World} {B C : Nat} (h : Below B w W) (k : Below C W W') (hB : B + 1 ≤ C) : Below B w W' := h.trans (k.mono (by omega))
set_option maxRecDepth 4000 in
set_option maxHeartbeats 4000000 in
theorem ltext_any (A : Int) (b : Nat) (w : World) (hA : Pl.Big A) (hb' : 2 ≤ b) (hb2 : b ≤ 36) :
    Calls Tryz.prog 50 #[lof A, .int .i64 b] w fun e w' => ∃ s, e = .returned (.tuple #[.string (bs s), .int .i64 0]) ∧ Pl.IntT b s A ∧ Below w.heap.size w w' ∧ s.length ≤ 40000 := by
  have HCA := Lib.hid (fun W => lcheck_any2 A W hA)
  have HOA := Lib.hid (fun W => lof_any2 A W hA)
  obtain ⟨na, hna⟩ : ∃ na, decide (A < 0) = na := ⟨_, rfl⟩
  have ha : lof A = .agg #[.bool na, .string (bs (Pl.dgs A.natAbs))] := by unfold lof lv; rw [hna]
  rw [ha] at HCA HOA ⊢
  rw [hna] at HOA
  clear ha
  generalize bs (Pl.dgs A.natAbs) = sa at HCA HOA ⊢
  obtain ⟨V, hV⟩ : ∃ V, A.natAbs = V := ⟨_, rfl⟩
  rw [hV] at HOA
  obtain ⟨M, hM, hVl⟩ := hA.two
  have HWL := Lib.hid (fun k => hA.quo (b ^ k))
  rw [hV] at hVl HWL
  have HVL := Lib.hid hVl
  have HNA := Lib.hid hna
  have HV := Lib.hid hV
  clear hna hV hA hVl
  obtain ⟨W1, hW1⟩ : ∃ W1, w.alloc (.cells #[.bool na, .string sa] 43) = W1 := ⟨_, rfl⟩
  have P0 : Hid (P2 W1 w.heap.size 43 (.bool na) (.string sa)) := Lib.hid (by rw [← hW1]; exact P2.new _ _ _ _)
  have HB1 : Hid (Below w.heap.size w W1) := Lib.hid (by rw [← hW1]; exact (Below.refl _ _).alloc (Nat.le_refl _) _)
  have hs1 : w.heap.size + 1 ≤ W1.heap.size := by rw [← hW1]; simp
  obtain ⟨p0, p1, _, _⟩ := P0.out.cells
  go_enter Tryz.func50, Tryz.ntmps50
  go_wp2_with fail
  refine (HCA.out _).mono ?_
  rintro e w2 ⟨rfl, hb2'⟩
  have P02 := Lib.hid (P0.out.below hb2')
  have HB2 := Lib.hid (chain HB1.out hb2' (by omega))
  have hs2 : w.heap.size + 1 ≤ w2.heap.size := Nat.le_trans hs1 hb2'.size
  clear p0 p1 hW1 hb2' P0 HB1
  obtain ⟨p0, p1, _, _⟩ := P02.out.cells
  have d1 : decide ((b : Int) < 2) = false := decide_eq_false (by omega)
  have d2 : decide ((36 : Int) < (b : Int)) = false := decide_eq_false (by omega)
  go_wp2_with fail
  refine (HOA.out _).mono ?_
  rintro e w3 ⟨v3, rfl, hr3, hb3⟩
  obtain ⟨x3, c3, rfl⟩ := hr3.form
  obtain ⟨l3, hl3⟩ : ∃ l, (Pl.wd V).length = l := ⟨_, rfl⟩
  rw [hl3] at hr3 ⊢
  clear hl3
  obtain ⟨C, hC⟩ : ∃ C, w3.heap.size = C := ⟨_, rfl⟩
  obtain ⟨W4, hW4⟩ : ∃ W4, w3.alloc (.cells #[.slice x3 l3 c3, .bool na] 92) = W4 := ⟨_, rfl⟩
  have hb4 : Below w3.heap.size w3 W4 := by rw [← hW4]; exact (Below.refl _ _).alloc (Nat.le_refl _) _
  have HB4 := Lib.hid (chain (chain HB2.out hb3 (by omega)) hb4 (Nat.le_trans (by omega) hb3.size))
  have HC4 : Hid (P2 W4 C 92 (.slice x3 l3 c3) (.bool na)) := Lib.hid (by rw [← hW4, ← hC]; exact P2.new _ _ _ _)
  have HR4 := Lib.hid (hr3.below hb4)
  have hsC : w.heap.size + 1 ≤ C := by rw [← hC]; exact Nat.le_trans hs2 hb3.size
  have HS4 : Hid (W4.heap.size = C + 1) := Lib.hid (by rw [← hW4, ← hC]; simp)
  clear p0 p1 hb3 hb4 hr3 P02 HB2 hs1 hs2
  go_wp2_with fail
  try rw [hW4]
  try rw [hC]
  clear hW4 hC
  go_loopw [8] (fun o wr => ∃ (k : Nat) (xa : Option Addr) (xc m : Nat), Own1 wr (C + 1) o (Pl.lowT b V k) ∧ (k = 0 → o.ownBlock = none) ∧ P2 wr C 92 (.slice xa m xc) (.bool na) ∧ Rd wr (.slice xa m xc) (Pl.wd (V / b ^ k)) ∧ Hid (k = 0 ∨ V / b ^ (k - 1) ≠ 0) ∧ Hid ((Pl.wd (V / b ^ k)).length = m) ∧ Below C W4 wr ∧ C + 1 ≤ wr.heap.size) (fun o _ => M + 1 - (match o with | .slice _ k _ => k | _ => 0))
  case atStart =>
    refine ⟨0, x3, c3, l3, Owns.nil _ _ _ _, fun _ => rfl, HC4.out, by simpa using HR4.out, Lib.hid (.inl rfl), Lib.hid ?_, Below.refl _ _, by rw [HS4.out]; exact Nat.le_refl _⟩
    obtain ⟨a, c, h⟩ := HR4.out.form
    injection h with _ h _
    rw [Nat.pow_zero, Nat.div_one, h]
  case round =>
    obtain ⟨k, xa, xc, m, hown, hnil, hp, hr, hk0, hm, hb, hsz⟩ := hrel
    have HOW := Lib.hid hown
    have HNIL := Lib.hid hnil
    have HP := Lib.hid hp
    have HR := Lib.hid hr
    have HB := Lib.hid hb
    obtain ⟨oa, oc, rfl⟩ := hown.form
    rw [Pl.lowT_len] at HOW HNIL ⊢
    obtain ⟨c0, c1, f0, f1⟩ := hp.cells
    have hkM := Pl.low_many hb' HVL.out hk0.out
    clear hown hnil hp hr hb
    by_cases h0 : V / b ^ k = 0
    · have hm0 : m = 0 := by rw [← hm.out, h0, Pl.wd_zero]; rfl
      subst hm0
      rcases Nat.eq_zero_or_pos k with hk | hk
      · subst hk
        have HI : Hid (Pl.IntT b [48] A) := Lib.hid (by
          have hV0 : V = 0 := by simpa using h0
          have hA0 : A = 0 := by have := HV.out; omega
          subst hA0
          unfold Pl.IntT
          rw [if_neg (by omega)]
          exact Pl.canB_zero b hb')
        clear h0
        go_wp2_with fail
        go_ret2
        exact ⟨[48], rfl, HI.out, chain2 HB4.out HB.out hsC, by simp⟩
      · have HT := Lib.hid (Pl.canT_low hb' hb2 hk h0 (by rcases hk0.out with h | h; omega; exact h))
        have hkI : ((k : Int) == 0) = false := by rw [beq_eq_false_iff_ne]; omega
        clear h0
        cases na
        · have HI : Hid (Pl.IntT b (Pl.lowT b V k).reverse A) := Lib.hid (by
            have h1 := of_decide_eq_false HNA.out
            unfold Pl.IntT
            rw [if_neg h1, HV.out]
            exact HT.out)
          have HREV := Lib.hid (reverse_any (.slice oa k oc) (Pl.lowT b V k) (C + 1) wr HOW.out (by rw [Pl.lowT_len]; omega))
          go_wp2_with fail
          refine HREV.out.mono ?_
          rintro e w8 ⟨rfl, ho8, hb8, hs8⟩
          have HB9 := Lib.hid (HB.out.trans (hb8.mono (Nat.le_succ C)))
          have ho9 : Owns w8 (C + 1) 5 1 (.slice oa k oc) k ((Pl.lowT b V k).reverse.map fun b => Value.int .u8 b.toNat) := by
            unfold Own1 at ho8
            rw [List.length_reverse, Pl.lowT_len] at ho8
            exact ho8
          clear ho8 hb8
          have hst := run_string_of_owns (P := Tryz.prog) 85 9 Tryz.underlying85 Tryz.underlying5 Tryz.underlying9 (l := (Pl.lowT b V k).reverse) ho9
          obtain ⟨s, hs⟩ : ∃ s, (⟨((Pl.lowT b V k).reverse).toArray⟩ : ByteArray) = s := ⟨_, rfl⟩
          rw [hs] at hst
          have HSS := Lib.hid hs
          clear ho9 hs
          go_wp2_with fail
          go_ret2
          refine ⟨(Pl.lowT b V k).reverse, by rw [← HSS.out]; rfl, ?_, chain2 HB4.out HB9.out hsC, ?_⟩
          · exact HI.out
          · rw [List.length_reverse, Pl.lowT_len]; omega
        · have HI : Hid (Pl.IntT b (45 :: (Pl.lowT b V k).reverse) A) := Lib.hid (by
            have h1 := of_decide_eq_true HNA.out
            unfold Pl.IntT
            rw [if_pos h1, HV.out]
            exact ⟨_, rfl, HT.out⟩)
          have HOW2 : Hid (Owns wr (C + 1) 5 1 (.slice oa k oc) k (bc (Pl.lowT b V k))) := Lib.hid (by
            have h1 := HOW.out
            unfold Own1 at h1
            rwa [Pl.lowT_len] at h1)
          go_wp2_with (at_builtin; refine wpList_app rfl (.tmp 46) (.tmp 47) rfl (C + 1) _ _ _ rfl HOW2.out [.int .u8 45] rfl (by intro u hu; simp at hu; subst hu; rfl) (by simp only [List.length_cons, List.length_nil]; omega) hsz ?_)
          intro v7 w7 ho7 hg7
          have HO7 : Hid (Own1 w7 (C + 1) v7 (Pl.lowT b V k ++ [45])) := Lib.hid (by
            unfold Own1
            rw [List.length_append, Pl.lowT_len, bc_app]
            exact ho7)
          have HB7 := Lib.hid (hg7.below HB.out (by omega) (fun j hj => by have := (HOW2.out.lt j hj).1; omega))
          obtain ⟨a7, e7, rfl⟩ := ho7.form
          have HREV := Lib.hid (reverse_any _ _ (C + 1) w7 HO7.out (by rw [List.length_append, Pl.lowT_len, List.length_singleton]; omega))
          clear ho7 hg7
          go_wp2_with fail
          refine HREV.out.mono ?_
          rintro e w8 ⟨rfl, ho8, hb8, hs8⟩
          have HB9 := Lib.hid (HB7.out.trans (hb8.mono (Nat.le_succ C)))
          have ho9 : Owns w8 (C + 1) 5 1 (.slice a7 (k + 1) e7) (k + 1) ((45 :: (Pl.lowT b V k).reverse).map fun b => Value.int .u8 b.toNat) := by
            unfold Own1 at ho8
            rw [List.length_reverse, List.length_append, Pl.lowT_len, List.reverse_append] at ho8
            exact ho8
          clear ho8 hb8
          have hst := run_string_of_owns (P := Tryz.prog) 85 9 Tryz.underlying85 Tryz.underlying5 Tryz.underlying9 (l := 45 :: (Pl.lowT b V k).reverse) ho9
          obtain ⟨s, hs⟩ : ∃ s, (⟨(45 :: (Pl.lowT b V k).reverse).toArray⟩ : ByteArray) = s := ⟨_, rfl⟩
          rw [hs] at hst
          have HSS := Lib.hid hs
          clear ho9 hs
          go_wp2_with fail
          go_ret2
          refine ⟨45 :: (Pl.lowT b V k).reverse, by rw [← HSS.out]; rfl, ?_, chain2 HB4.out HB9.out hsC, ?_⟩
          · exact HI.out
          · rw [List.length_cons, List.length_reverse, Pl.lowT_len]; omega
    · have H0 := Lib.hid h0
      have hm0 : 0 < m := by
        rw [← hm.out]
        exact List.length_pos_iff.2 (fun e => h0 (by rw [← Pl.wd_num (V / b ^ k), e]; rfl))
      have HSH : Hid (Calls Tryz.prog 86 #[.slice xa m xc, .int .u32 b] wr (ShortOk wr (V / b ^ k) b)) := Lib.hid (by
        have := nshort_any _ _ b wr HR.out (by have := HWL.out k; omega) (Pl.wd_ws _) (by omega) (by omega)
        rwa [Pl.wd_num] at this)
      have hmod : V / b ^ k % b < 36 := Nat.lt_of_lt_of_le (Nat.mod_lt _ (by omega)) hb2
      go_wp2_with fail
      refine HSH.out.mono ?_
      rintro e w5 ⟨v5, rfl, hr5, hb5⟩
      obtain ⟨r, hr'⟩ : ∃ r, V / b ^ k % b = r := ⟨_, rfl⟩
      rw [hr'] at hmod ⊢
      rw [Nat.div_div_eq_div_mul, ← Nat.pow_succ] at hr5
      obtain ⟨y5, z5, rfl⟩ := hr5.form
      obtain ⟨m5, hm5⟩ : ∃ l, (Pl.wd (V / b ^ (k + 1))).length = l := ⟨_, rfl⟩
      rw [hm5] at hr5 ⊢
      have hCs : C < wr.heap.size := by omega
      have HP5 := Lib.hid (HP.out.below hb5)
      obtain ⟨c50, c51, f50, f51⟩ := HP5.out.cells
      have HP6 := Lib.hid (HP5.out.set0 (.slice y5 m5 z5))
      have HR6 := Lib.hid (hr5.clear (i := 0) (x := .slice y5 m5 z5) HP5.out (by simp))
      have HB6 := Lib.hid ((HB.out.trans (hb5.mono (Nat.le_of_lt hCs))).setCell (p := ⟨C, 0, none⟩) (Nat.le_refl C) (.slice y5 m5 z5))
      have HO6 : Hid (Owns (w5.setCell ⟨C, 0, none⟩ (.slice y5 m5 z5)) (C + 1) 5 1 (.slice oa k oc) k (bc (Pl.lowT b V k))) := Lib.hid (by
        have h1 := HOW.out
        unfold Own1 at h1
        rw [Pl.lowT_len] at h1
        refine (h1.below hb5 (fun j hj => (h1.lt j hj).2)).elsewhere _ ?_
        intro e
        have := (h1.lt C e).1
        omega)
      have hs6 : C + 1 ≤ (w5.setCell ⟨C, 0, none⟩ (.slice y5 m5 z5)).heap.size := by
        have := hb5.size
        simp [World.setCell]; omega
      obtain ⟨W6, hW6⟩ : ∃ W, w5.setCell ⟨C, 0, none⟩ (.slice y5 m5 z5) = W := ⟨_, rfl⟩
      rw [hW6] at HP6 HR6 HB6 HO6 hs6
      have HMM := Lib.hid hm5
      have HRR := Lib.hid hr'
      have hq : r < ({ data := #[48, 49, 50, 51, 52, 53, 54, 55, 56, 57, 65, 66, 67, 68, 69, 70, 71, 72, 73, 74, 75, 76, 77, 78, 79, 80, 81, 82, 83, 84, 85, 86, 87, 88, 89, 90] } : ByteArray).size := hmod
      have hdig := digit_at hmod hq
      obtain ⟨c, hc⟩ : ∃ c, Pl.dgc r = c := ⟨_, rfl⟩
      rw [hc] at hdig
      have HCC := Lib.hid hc
      clear hm5 hr' hr5 hb5 hc c0 c1 f0 f1 h0
      go_wp2_with (at_builtin; refine wpList_app rfl (.tmp 36) (.tmp 39) rfl (C + 1) _ _ _ rfl HO6.out [.int .u8 (c.toNat : Nat)] rfl (by intro u hu; simp at hu; subst hu; rfl) (by simp only [List.length_cons, List.length_nil]; omega) hs6 ?_)
      intro v7 w7 ho7 hg7
      have HO7 : Hid (Own1 w7 (C + 1) v7 (Pl.lowT b V (k + 1))) := Lib.hid (by
        unfold Own1
        rw [Pl.lowT_len, Pl.lowT_succ, bc_app, HRR.out, HCC.out]
        exact ho7)
      have HP7 : Hid (P2 w7 C 92 (.slice y5 m5 z5) (.bool na)) := Lib.hid (by
        have h1 := HP6.out
        unfold P2 at h1 ⊢
        rw [hg7.1.block C HP6.out.lt (by intro e; have := (HO6.out.lt C e.symm).1; omega)]
        exact h1)
      have HR7 : Hid (Rd w7 (.slice y5 m5 z5) (Pl.wd (V / b ^ (k + 1)))) := Lib.hid (by
        have h1 : Own1 W6 (C + 1) (.slice oa k oc) (Pl.lowT b V k) := by
          unfold Own1; rw [Pl.lowT_len]; exact HO6.out
        refine HR6.out.grown h1 (fun e => HNIL.out ?_) hg7.1
        have := congrArg List.length e
        rw [Pl.lowT_len] at this
        exact this)
      have HB7 := Lib.hid (hg7.below HB6.out (by omega) (fun j hj => by have := (HO6.out.lt j hj).1; omega))
      have HS7 : Hid (C + 1 ≤ w7.heap.size) := Lib.hid (Nat.le_trans hs6 hg7.1.size)
      have HK1 : Hid (k + 1 = 0 ∨ V / b ^ (k + 1 - 1) ≠ 0) := Lib.hid (.inr (by rw [Nat.add_sub_cancel]; exact H0.out))
      obtain ⟨a7, e7, rfl⟩ := ho7.form
      clear ho7 hg7
      go_wp2_with fail
      go_roundw
      case rel => exact ⟨k + 1, y5, z5, m5, HO7.out, fun h => absurd h (by omega), HP7.out, HR7.out, HK1, HMM, HB7.out, HS7.out⟩
      case measure => simp; omega
end Go.Proofs.YtlodbibagmblkaaGreatDoor
namespace Go.Proofs.YtlodbibagmblkaaGreatDoor
open Go.RowKit Go.Lib
namespace Pl
def D10 : List UInt8 := [48, 49, 50, 51, 52, 53, 54, 55, 56, 57]
set_option maxRecDepth 4000 in
theorem d10_iff (c : UInt8) : c ∈ D10 ↔ dg c < 10 := by
  have : ∀ n, n < 256 → (UInt8.ofNat n ∈ D10 ↔ dg (UInt8.ofNat n) < 10) := by decide
  have := this c.toNat c.toNat_lt
  simpa using this
theorem d10_idx {c : UInt8} {r : Int} (h : IdxIs D10 c r) (hc : c ∈ D10) : r = (dg c : Nat) := by
  rcases h with ⟨k, hk, rfl⟩ | ⟨hn, _⟩
  · have : ∀ k, k < 10 → ∀ c, D10[k]? = some c → dg c = k := by decide
    have hk10 : k < 10 := (List.getElem?_eq_some_iff.1 hk).1
    rw [this k hk10 c hk]
  · exact absurd hc hn
theorem canT_of {t : List UInt8} (h0 : t ≠ []) (hd : ∀ c ∈ t, c ∈ D10) (hh : t.head? = some 48 → t.length = 1) : CanT 10 t (valB 10 (t.map dg)) := by
  refine ⟨by simpa using h0, ?_, ?_, rfl⟩
  · intro d hd'
    obtain ⟨c, hc, rfl⟩ := List.mem_map.1 hd'
    exact (d10_iff c).1 (hd c hc)
  · intro hz
    rw [List.length_map]
    apply hh
    cases t with
    | nil => exact absurd rfl h0
    | cons c t =>
      simp at hz ⊢
      have hc := (d10_iff c).1 (hd c (by simp))
      have e := dgc_dg (c := c) (by omega)
      rw [hz] at e
      rw [← e]; rfl
theorem val_pos {t : List UInt8} (h0 : t ≠ []) (hd : ∀ c ∈ t, c ∈ D10) (hh : t.head? ≠ some 48) : valB 10 (t.map dg) ≠ 0 := by
  have := valB_pos (b := 10) (by decide) (ds := t.map dg) rfl (by simpa using h0) (by
    intro hz
    apply hh
    cases t with
    | nil => exact absurd rfl h0
    | cons c t =>
      simp at hz ⊢
      have hc := (d10_iff c).1 (hd c (by simp))
      have e := dgc_dg (c := c) (by omega)
      rw [hz] at e
      rw [← e]; rfl)
  omega
/-- the text behind a sign is a number's -/
theorem intT_go {g : Bool} {t : List UInt8} (h0 : t ≠ []) (hd : ∀ c ∈ t, c ∈ D10) (hh : t.head? = some 48 → t.length = 1) (hg : g = true → t.head? ≠ some 48) :
    IntT 10 (if g then 45 :: t else t) (sg g (valB 10 (t.map dg))) := by
  have hc := canT_of h0 hd hh
  cases g
  · unfold IntT sg
    rw [if_neg (by simp)]
    simpa using hc
  · have hv := val_pos h0 hd (hg rfl)
    unfold IntT sg
    simp only [if_true]
    rw [if_pos (by omega)]
    exact ⟨t, rfl, by simpa using hc⟩
theorem intT_bad {g : Bool} {t : List UInt8} {c : UInt8} (hc : c ∈ t) (hn : c ∉ D10) (hg : g = false → t.head? ≠ some 45) (n : Int) : ¬ IntT 10 (if g then 45 :: t else t) n := by
  have key : ∀ V, ¬ CanT 10 t V := fun V h => hn ((d10_iff c).2 (h.lt (dg c) (List.mem_map.2 ⟨c, hc, rfl⟩)))
  intro h
  unfold IntT at h
  cases g
  · simp only [Bool.false_eq_true, if_false] at h
    split at h
    · obtain ⟨t', rfl, _⟩ := h
      exact hg rfl rfl
    · exact key _ h
  · simp only [if_true] at h
    split at h
    · obtain ⟨t', e, h⟩ := h
      simp at e; subst e
      exact key _ h
    · exact canT_head (by decide) h rfl
theorem intT_nil (n : Int) : ¬ IntT 10 [] n := by
  intro h
  unfold IntT at h
  split at h
  · obtain ⟨t, e, _⟩ := h; cases e
  · exact h.ne rfl
theorem intT_minus (n : Int) : ¬ IntT 10 [45] n := by
  intro h
  unfold IntT at h
  split at h
  · obtain ⟨t, e, h⟩ := h
    simp at e; subst e
    exact h.ne rfl
  · exact canT_head (by decide) h rfl
theorem canT_nought {r : List UInt8} {V : Nat} (h : CanT 10 (48 :: r) V) : r = [] ∧ V = 0 := by
  have h1 := h.head (by simp; decide)
  have h2 : r = [] := by simpa using h1
  subst h2
  exact ⟨rfl, by rw [← h.val]; decide⟩
theorem intT_minus0 (r : List UInt8) (n : Int) : ¬ IntT 10 (45 :: 48 :: r) n := by
  intro h
  unfold IntT at h
  split at h
  · obtain ⟨t, e, h⟩ := h
    simp at e; subst e
    have := (canT_nought h).2
    omega
  · exact canT_head (by decide) h rfl
theorem intT_nought (d : UInt8) (r : List UInt8) (n : Int) : ¬ IntT 10 (48 :: d :: r) n := by
  intro h
  unfold IntT at h
  split at h
  · obtain ⟨t, e, h⟩ := h
    simp at e
  · have := (canT_nought h).1
    cases this
end Pl
end Go.Proofs.YtlodbibagmblkaaGreatDoor
