/- Which literals are whole numbers, by the document: the contract of Value at 'I'. Large numbers compared: the contracts of number.cmp and Cmp. What the primitives that compare two integers do: Do at 3 .. 8. Whether two literals without items are the same. The law's examples: awake. Plain: what comes out of comparisons; two literals in a row; literals that are whole numbers. -/
import Derived.Test.YtlodbibagmblkaaGreatDoorPaan
import Derived.Test.YtlodbibagmblkaaGreatDoorPaal
import Derived.Deep.CutRange
import Derived.Test.YtlodbibagmblkaaGreatDoorPaam
namespace Go.Proofs.YtlodbibagmblkaaGreatDoor
open Go Go.RowKit Go.Lib
/-- a literal is a whole number -/
def IsI (k n b : Int) (l : List UInt8) (len : Nat) (A : Int) : Prop := len = 0 ∧ b = 0 ∧ ((k = 4 ∧ l = [] ∧ n = A ∧ FitsI A) ∨ (k = 5 ∧ n = 0 ∧ Pl.IntT 10 l A ∧ Pl.Big A ∧ ¬ FitsI A))
theorem isI_of {k n b : Int} {l : List UInt8} {e : Ending} (h : LargeP k n l e) (h4 : k = 4 → b = 0 ∧ l = []) (h5 : k = 5 → b = 0 ∧ n = 0) : ∃ g s q, e = .returned (.tuple #[.agg #[.bool g, .string s], .bool q]) ∧ (q = true ↔ ∃ A, IsI k n b l 0 A) := by
  rcases h with ⟨rfl, rfl⟩ | ⟨rfl, A, hA, hB, rfl⟩ | ⟨hk, hno, rfl⟩
  · refine ⟨_, _, _, rfl, ?_⟩
    rw [decide_eq_true_iff]
    exact ⟨fun hf => ⟨n, rfl, (h4 rfl).1, .inl ⟨rfl, (h4 rfl).2, rfl, hf⟩⟩, fun ⟨A, _, _, h⟩ => by
      rcases h with ⟨_, _, rfl, hf⟩ | ⟨h, _⟩
      · exact hf
      · omega⟩
  · refine ⟨_, _, _, rfl, ?_⟩
    rw [Bool.not_eq_true', decide_eq_false_iff_not]
    exact ⟨fun hf => ⟨A, rfl, (h5 rfl).1, .inr ⟨rfl, (h5 rfl).2, hA, hB, hf⟩⟩, fun ⟨B, _, _, h⟩ => by
      rcases h with ⟨h, _⟩ | ⟨_, _, h1, _, hf⟩
      · omega
      · rwa [← Pl.intT_val (by decide) h1 hA]⟩
  · refine ⟨_, _, _, rfl, ?_⟩
    exact ⟨fun h => (by cases h), fun ⟨A, _, _, h⟩ => by
      rcases h with ⟨h, _⟩ | ⟨h, _, h1, h2, _⟩
      · exact absurd h hk
      · exact absurd h2 (hno h A h1)⟩
def ValueP (k n b : Int) (l : List UInt8) (len : Nat) (e : Ending) : Prop := ∃ q, e = .returned (.bool q) ∧ (q = true ↔ ∃ A, IsI k n b l len A)
theorem valueP_no {k n b : Int} {l : List UInt8} {len : Nat} (h : 0 < len ∨ b ≠ 0 ∨ (k ≠ 4 ∧ k ≠ 5) ∨ (k = 4 ∧ l ≠ []) ∨ (k = 5 ∧ n ≠ 0)) : ValueP k n b l len (.returned (.bool false)) := by
  refine ⟨false, rfl, fun h => (by cases h), fun ⟨A, h1, h2, h3⟩ => ?_⟩
  rcases h3 with ⟨q1, q2, _⟩ | ⟨q1, q2, _⟩
  · rcases h with h | h | h | h | h
    · omega
    · omega
    · omega
    · exact absurd q2 h.2
    · omega
  · rcases h with h | h | h | h | h <;> omega
set_option maxRecDepth 4000 in
set_option maxHeartbeats 8000000 in
theorem rvalueI_any (k n b : Int) (l : List UInt8) (xa : Option Addr) (xl xc : Nat) (w : World) (hl : l.length ≤ 300000) (h1 : -9223372036854775808 ≤ n) (h2 : n ≤ 9223372036854775807) :
    Calls Tryz.prog 8 #[litv k n b (bs l) (.slice xa xl xc), .int .u8 73] w fun e w' => ValueP k n b l xl e ∧ Below w.heap.size w w' := by
  have HLG := Lib.hid (fun W => rlarge_any k n b l xa xl xc W hl h1 h2)
  unfold litv at *
  obtain ⟨W1, hW1⟩ : ∃ W1, w.alloc (.cells #[.int .u8 k, .int .i64 n, .int .u64 b, .string (bs l), .slice xa xl xc] 26) = W1 := ⟨_, rfl⟩
  have HL : Hid (P5 W1 w.heap.size (.int .u8 k) (.int .i64 n) (.int .u64 b) (.string (bs l)) (.slice xa xl xc)) := Lib.hid (by rw [← hW1]; exact P5.new _ _ _ _ _ _)
  have HB1 : Hid (Below w.heap.size w W1) := Lib.hid (by rw [← hW1]; exact (Below.refl _ _).alloc (Nat.le_refl _) _)
  have hs1 : w.heap.size + 1 ≤ W1.heap.size := by rw [← hW1]; simp
  obtain ⟨c0, c1, c2, c3, c4, _, _, _, _, _⟩ := HL.out.cells
  clear hl h1 h2
  obtain ⟨tx, htx⟩ : ∃ q, (bs l).toList.isEmpty = q := ⟨_, rfl⟩
  have HTX : Hid (tx = true ↔ l = []) := Lib.hid (by rw [← htx, ByteArray.toList_eq]; cases l <;> simp)
  generalize bs l = T at *
  by_cases hx : xl = 0
  case neg =>
    have HF := Lib.hid (valueP_no (k := k) (n := n) (b := b) (l := l) (len := xl) (.inl (by omega)))
    have hx0 : decide ((0 : Int) < (xl : Int)) = true := decide_eq_true (by omega)
    go_enter Tryz.func8, Tryz.ntmps8
    go_wp2_with fail
    go_ret
    exact ⟨HF.out, HB1.out⟩
  subst hx
  have hx0 : decide ((0 : Int) < ((0 : Nat) : Int)) = false := by decide
  have HNO : Hid (b ≠ 0 ∨ (k ≠ 4 ∧ k ≠ 5) ∨ (k = 4 ∧ tx = false) ∨ (k = 5 ∧ n ≠ 0) → ValueP k n b l 0 (.returned (.bool false))) := Lib.hid (fun h => valueP_no (by
    rcases h with h | h | ⟨h, h2⟩ | h
    · exact .inr (.inl h)
    · exact .inr (.inr (.inl h))
    · refine .inr (.inr (.inr (.inl ⟨h, fun e => ?_⟩)))
      rw [HTX.out.2 e] at h2; cases h2
    · exact .inr (.inr (.inr (.inr h)))))
  by_cases hk4 : k = 4
  · subst hk4
    by_cases hb : b = 0
    case neg =>
      have hb' : (b != 0) = true := by rw [bne_iff_ne]; exact hb
      have HF := Lib.hid (HNO.out (.inl hb))
      clear hb
      go_enter Tryz.func8, Tryz.ntmps8
      go_wp2_with fail
      go_ret
      exact ⟨HF.out, HB1.out⟩
    subst hb
    have HK : Hid (∀ e, LargeP 4 n l e → tx = true → ∃ g s q, e = .returned (.tuple #[.agg #[.bool g, .string s], .bool q]) ∧ (q = true ↔ ∃ A, IsI 4 n 0 l 0 A)) := Lib.hid (fun e h h4 => isI_of h (fun _ => ⟨rfl, HTX.out.1 h4⟩) (fun h => by omega))
    cases tx
    case false =>
      have HF := Lib.hid (HNO.out (.inr (.inr (.inl ⟨rfl, rfl⟩))))
      go_enter Tryz.func8, Tryz.ntmps8
      go_wp2_with fail
      go_ret
      exact ⟨HF.out, HB1.out⟩
    case true =>
      replace HK := Lib.hid (fun e h => HK.out e h rfl)
      go_enter Tryz.func8, Tryz.ntmps8
      go_wp2_with fail
      refine (HLG.out _).mono ?_
      rintro e w4 ⟨hlp, hb4⟩
      obtain ⟨g, S, q, rfl, hq⟩ := HK.out _ hlp
      have HQ := Lib.hid hq
      have HB4 := Lib.hid (chain HB1.out hb4 (by omega))
      clear hlp hq hb4
      go_wp2_with fail
      go_ret
      exact ⟨⟨q, rfl, HQ.out⟩, HB4.out.alloc HB4.out.size _⟩
  by_cases hk5 : k = 5
  · subst hk5
    by_cases hb : b = 0
    case neg =>
      have hb' : (b != 0) = true := by rw [bne_iff_ne]; exact hb
      have HF := Lib.hid (HNO.out (.inl hb))
      clear hb
      go_enter Tryz.func8, Tryz.ntmps8
      go_wp2_with fail
      go_ret
      exact ⟨HF.out, HB1.out⟩
    subst hb
    by_cases hn : n = 0
    case neg =>
      have hn' : (n != 0) = true := by rw [bne_iff_ne]; exact hn
      have HF := Lib.hid (HNO.out (.inr (.inr (.inr ⟨rfl, hn⟩))))
      clear hn
      go_enter Tryz.func8, Tryz.ntmps8
      go_wp2_with fail
      go_ret
      exact ⟨HF.out, HB1.out⟩
    subst hn
    have HK : Hid (∀ e, LargeP 5 0 l e → ∃ g s q, e = .returned (.tuple #[.agg #[.bool g, .string s], .bool q]) ∧ (q = true ↔ ∃ A, IsI 5 0 0 l 0 A)) := Lib.hid (fun e h => isI_of h (fun h => by omega) (fun _ => ⟨rfl, rfl⟩))
    go_enter Tryz.func8, Tryz.ntmps8
    go_wp2_with fail
    refine (HLG.out _).mono ?_
    rintro e w4 ⟨hlp, hb4⟩
    obtain ⟨g, S, q, rfl, hq⟩ := HK.out _ hlp
    have HQ := Lib.hid hq
    have HB4 := Lib.hid (chain HB1.out hb4 (by omega))
    clear hlp hq hb4
    go_wp2_with fail
    go_ret
    exact ⟨⟨q, rfl, HQ.out⟩, HB4.out.alloc HB4.out.size _⟩
  have HF := Lib.hid (HNO.out (.inr (.inl ⟨hk4, hk5⟩)))
  have HK : Hid (∀ e, LargeP k n l e → ∃ g s q, e = .returned (.tuple #[.agg #[.bool g, .string s], .bool q]) ∧ (q = true ↔ ∃ A, IsI k n b l 0 A)) := Lib.hid (fun e h => isI_of h (fun h => absurd h hk4) (fun h => absurd h hk5))
  clear HNO HTX
  by_cases hk6 : k = 6
  · subst hk6
    clear hk4 hk5
    by_cases hn : n = 0
    case neg =>
      have hn' : (n != 0) = true := by rw [bne_iff_ne]; exact hn
      clear hn
      go_enter Tryz.func8, Tryz.ntmps8
      go_wp2_with fail
      go_ret
      exact ⟨HF.out, HB1.out⟩
    subst hn
    cases tx
    case false =>
      go_enter Tryz.func8, Tryz.ntmps8
      go_wp2_with fail
      go_ret
      exact ⟨HF.out, HB1.out⟩
    case true =>
      go_enter Tryz.func8, Tryz.ntmps8
      go_wp2_with fail
      refine (HLG.out _).mono ?_
      rintro e w4 ⟨hlp, hb4⟩
      obtain ⟨g, S, q, rfl, hq⟩ := HK.out _ hlp
      have HQ := Lib.hid hq
      have HB4 := Lib.hid (chain HB1.out hb4 (by omega))
      clear hlp hq hb4
      go_wp2_with fail
      go_ret
      exact ⟨⟨q, rfl, HQ.out⟩, HB4.out.alloc HB4.out.size _⟩
  by_cases hk7 : k = 7
  · subst hk7
    clear hk4 hk5 hk6
    by_cases hb : b = 0
    case neg =>
      have hb' : (b != 0) = true := by rw [bne_iff_ne]; exact hb
      clear hb
      go_enter Tryz.func8, Tryz.ntmps8
      go_wp2_with fail
      go_ret
      exact ⟨HF.out, HB1.out⟩
    subst hb
    cases tx
    case false =>
      go_enter Tryz.func8, Tryz.ntmps8
      go_wp2_with fail
      go_ret
      exact ⟨HF.out, HB1.out⟩
    case true =>
      go_enter Tryz.func8, Tryz.ntmps8
      go_wp2_with fail
      refine (HLG.out _).mono ?_
      rintro e w4 ⟨hlp, hb4⟩
      obtain ⟨g, S, q, rfl, hq⟩ := HK.out _ hlp
      have HQ := Lib.hid hq
      have HB4 := Lib.hid (chain HB1.out hb4 (by omega))
      clear hlp hq hb4
      go_wp2_with fail
      go_ret
      exact ⟨⟨q, rfl, HQ.out⟩, HB4.out.alloc HB4.out.size _⟩
  by_cases hk8 : k = 8
  · subst hk8
    clear hk4 hk5 hk6 hk7
    by_cases hb : b = 0
    case neg =>
      have hb' : (b != 0) = true := by rw [bne_iff_ne]; exact hb
      clear hb
      go_enter Tryz.func8, Tryz.ntmps8
      go_wp2_with fail
      go_ret
      exact ⟨HF.out, HB1.out⟩
    subst hb
    by_cases hn : n = 0
    case neg =>
      have hn' : (n != 0) = true := by rw [bne_iff_ne]; exact hn
      clear hn
      go_enter Tryz.func8, Tryz.ntmps8
      go_wp2_with fail
      go_ret
      exact ⟨HF.out, HB1.out⟩
    subst hn
    go_enter Tryz.func8, Tryz.ntmps8
    go_wp2_with fail
    refine (HLG.out _).mono ?_
    rintro e w4 ⟨hlp, hb4⟩
    obtain ⟨g, S, q, rfl, hq⟩ := HK.out _ hlp
    have HQ := Lib.hid hq
    have HB4 := Lib.hid (chain HB1.out hb4 (by omega))
    clear hlp hq hb4
    go_wp2_with fail
    go_ret
    exact ⟨⟨q, rfl, HQ.out⟩, HB4.out.alloc HB4.out.size _⟩
  by_cases hk9 : k = 9
  · subst hk9
    clear hk4 hk5 hk6 hk7 hk8
    by_cases hb : b = 0
    case neg =>
      have hb' : (b != 0) = true := by rw [bne_iff_ne]; exact hb
      clear hb
      go_enter Tryz.func8, Tryz.ntmps8
      go_wp2_with fail
      go_ret
      exact ⟨HF.out, HB1.out⟩
    subst hb
    by_cases hn : n = 0
    case neg =>
      have hn' : (n != 0) = true := by rw [bne_iff_ne]; exact hn
      clear hn
      go_enter Tryz.func8, Tryz.ntmps8
      go_wp2_with fail
      go_ret
      exact ⟨HF.out, HB1.out⟩
    subst hn
    go_enter Tryz.func8, Tryz.ntmps8
    go_wp2_with fail
    refine (HLG.out _).mono ?_
    rintro e w4 ⟨hlp, hb4⟩
    obtain ⟨g, S, q, rfl, hq⟩ := HK.out _ hlp
    have HQ := Lib.hid hq
    have HB4 := Lib.hid (chain HB1.out hb4 (by omega))
    clear hlp hq hb4
    go_wp2_with fail
    go_ret
    exact ⟨⟨q, rfl, HQ.out⟩, HB4.out.alloc HB4.out.size _⟩
  have hk4' : (k != 4) = true := by rw [bne_iff_ne]; exact hk4
  have hk5' : (k != 5) = true := by rw [bne_iff_ne]; exact hk5
  have hk6' : (k != 6) = true := by rw [bne_iff_ne]; exact hk6
  have hk7' : (k != 7) = true := by rw [bne_iff_ne]; exact hk7
  have hk8' : (k != 8) = true := by rw [bne_iff_ne]; exact hk8
  have hk9' : (k != 9) = true := by rw [bne_iff_ne]; exact hk9
  clear hk4 hk5 hk6 hk7 hk8 hk9
  by_cases hb : b = 0
  case neg =>
    have hb' : (b != 0) = true := by rw [bne_iff_ne]; exact hb
    clear hb
    go_enter Tryz.func8, Tryz.ntmps8
    go_wp2_with fail
    go_ret
    exact ⟨HF.out, HB1.out⟩
  subst hb
  by_cases hn : n = 0
  case neg =>
    have hn' : (n != 0) = true := by rw [bne_iff_ne]; exact hn
    clear hn
    go_enter Tryz.func8, Tryz.ntmps8
    go_wp2_with fail
    go_ret
    exact ⟨HF.out, HB1.out⟩
  subst hn
  cases tx
  case false =>
    go_enter Tryz.func8, Tryz.ntmps8
    go_wp2_with fail
    go_ret
    exact ⟨HF.out, HB1.out⟩
  case true =>
    go_enter Tryz.func8, Tryz.ntmps8
    go_wp2_with fail
    refine (HLG.out _).mono ?_
    rintro e w4 ⟨hlp, hb4⟩
    obtain ⟨g, S, q, rfl, hq⟩ := HK.out _ hlp
    have HQ := Lib.hid hq
    have HB4 := Lib.hid (chain HB1.out hb4 (by omega))
    clear hlp hq hb4
    go_wp2_with fail
    go_ret
    exact ⟨⟨q, rfl, HQ.out⟩, HB4.out.alloc HB4.out.size _⟩
end Go.Proofs.YtlodbibagmblkaaGreatDoor
namespace Go.Proofs.YtlodbibagmblkaaGreatDoor
open Go.RowKit Go.Lib
/-- how two numbers stand -/
def ordi (a b : Int) : Int := if a < b then -1 else if b < a then 1 else 0
theorem ordi_in (a b : Int) : ordi a b = -1 ∨ ordi a b = 0 ∨ ordi a b = 1 := by
  unfold ordi; split
  · exact .inl rfl
  · split
    · exact .inr (.inr rfl)
    · exact .inr (.inl rfl)
theorem ordn_in (a b : Nat) : Pl.ordn a b = -1 ∨ Pl.ordn a b = 0 ∨ Pl.ordn a b = 1 := by
  unfold Pl.ordn; split
  · exact .inl rfl
  · split
    · exact .inr (.inr rfl)
    · exact .inr (.inl rfl)
theorem ordi_abs (A B : Int) : ordi A B = if decide (A < 0) = decide (B < 0) then (if decide (A < 0) = true then - Pl.ordn A.natAbs B.natAbs else Pl.ordn A.natAbs B.natAbs) else (if decide (A < 0) = true then -1 else 1) := by
  unfold ordi Pl.ordn
  by_cases h1 : A < 0 <;> by_cases h2 : B < 0
  · rw [decide_eq_true h1, decide_eq_true h2]; simp only [if_true]; split <;> split <;> (try split) <;> omega
  · rw [decide_eq_true h1, decide_eq_false h2]; simp; split <;> omega
  · rw [decide_eq_false h1, decide_eq_true h2]; simp; split <;> (try split) <;> omega
  · rw [decide_eq_false h1, decide_eq_false h2]; simp only [if_true, Bool.false_eq_true, if_false]; split <;> split <;> (try split) <;> omega
set_option maxRecDepth 4000 in
set_option maxHeartbeats 2000000 in
theorem numcmp_any (vx vy : Value) (A B : Int) (w : World) (hx : Rd w vx (Pl.wd A.natAbs)) (hy : Rd w vy (Pl.wd B.natAbs)) (la : (Pl.wd A.natAbs).length ≤ 2500) (lb : (Pl.wd B.natAbs).length ≤ 2500) :
    Calls Tryz.prog 79 #[.agg #[vx, .bool (decide (A < 0))], .agg #[vy, .bool (decide (B < 0))]] w fun e w' => e = .returned (.int .i64 (ordi A B)) ∧ Below w.heap.size w w' := by
  have HCMP : Hid (∀ W, Below w.heap.size w W → Calls Tryz.prog 134 #[vx, vy] W (fun e w' => e = .returned (.int .i64 (Pl.ordn A.natAbs B.natAbs)) ∧ Below W.heap.size W w')) := Lib.hid (fun W hb => by
    have := ncmp_any vx vy _ _ W (hx.below hb) (hy.below hb) (by omega) (by omega) (Pl.wd_ws _) (Pl.wd_ws _)
    rwa [Pl.wd_num, Pl.wd_num] at this)
  have HR := Lib.hid (ordi_abs A B)
  have hc3 := ordn_in A.natAbs B.natAbs
  obtain ⟨xa, xc, rfl⟩ := hx.form
  obtain ⟨ya, yc, rfl⟩ := hy.form
  generalize Pl.ordn A.natAbs B.natAbs = c at *
  generalize decide (A < 0) = na at *
  generalize decide (B < 0) = nb at *
  generalize (Pl.wd A.natAbs).length = n at *
  generalize (Pl.wd B.natAbs).length = m at *
  clear hx hy la lb
  have hcw : IntKind.i64.wrap (-c) = -c := IntWalk.i64_in _ (by omega)
  obtain ⟨W3, hW3⟩ : ∃ W3, (w.alloc (.cells #[.slice xa n xc, .bool na] 92)).alloc (.cells #[.slice ya m yc, .bool nb] 92) = W3 := ⟨_, rfl⟩
  have P0 : Hid (P2 W3 w.heap.size 92 (.slice xa n xc) (.bool na)) := Lib.hid (by rw [← hW3]; exact (P2.new _ _ _ _).alloc _)
  have P1 : Hid (P2 W3 (w.heap.size + 1) 92 (.slice ya m yc) (.bool nb)) := Lib.hid (by
    rw [← hW3]
    have := P2.new (w.alloc (.cells #[.slice xa n xc, .bool na] 92)) 92 (.slice ya m yc) (.bool nb)
    simpa using this)
  have HB3 : Hid (Below w.heap.size w W3) := Lib.hid (by rw [← hW3]; exact ((Below.refl _ _).alloc (Nat.le_refl _) _).alloc (by simp) _)
  have hs3 : w.heap.size + 2 ≤ W3.heap.size := by rw [← hW3]; simp
  obtain ⟨p0, p1, p2, p3⟩ := P0.out.cells
  obtain ⟨q0, q1, q2, q3⟩ := P1.out.cells
  go_enter Tryz.func79, Tryz.ntmps79
  go_wp2_with fail
  refine (HCMP.out _ (by exact HB3.out)).mono ?_
  rintro e w5 ⟨rfl, hb5⟩
  have HB5 := Lib.hid (chain HB3.out hb5 (by omega))
  obtain ⟨pp0, pp1, _, _⟩ := (P0.out.below hb5).cells
  obtain ⟨qq0, qq1, _, _⟩ := (P1.out.below hb5).cells
  clear hb5 p0 p1 p2 p3 q0 q1 q2 q3 hW3
  have hm1 : IntKind.i64.wrap (-1) = -1 := IntWalk.i64_in _ (by omega)
  cases na <;> cases nb
  all_goals
    simp at HR
    go_wp2_with fail
    go_ret
    exact ⟨by rw [HR.out]; rfl, HB5.out⟩
set_option maxRecDepth 4000 in
set_option maxHeartbeats 2000000 in
theorem lcmp_any (A B : Int) (w : World) (hA : Pl.Big A) (hB : Pl.Big B) :
    Calls Tryz.prog 43 #[lof A, lof B] w fun e w' => e = .returned (.tuple #[.int .i64 (ordi A B), .int .i64 0]) ∧ Below w.heap.size w w' := by
  have HTW := Lib.hid (fun W => ltwo_any A B W hA hB)
  have HNA : Hid (∀ W va vb, Rd W va (Pl.wd A.natAbs) → Rd W vb (Pl.wd B.natAbs) → Calls Tryz.prog 79 #[.agg #[va, .bool (decide (A < 0))], .agg #[vb, .bool (decide (B < 0))]] W (fun e w' => e = .returned (.int .i64 (ordi A B)) ∧ Below W.heap.size W w')) := Lib.hid (fun W va vb h1 h2 => numcmp_any va vb A B W h1 h2 (wd_small hA) (wd_small hB))
  have ha : lof A = .agg #[.bool (decide (A < 0)), .string (bs (Pl.dgs A.natAbs))] := rfl
  have hb : lof B = .agg #[.bool (decide (B < 0)), .string (bs (Pl.dgs B.natAbs))] := rfl
  rw [ha, hb] at HTW ⊢
  generalize decide (A < 0) = na at *
  generalize decide (B < 0) = nb at *
  generalize bs (Pl.dgs A.natAbs) = sa at *
  generalize bs (Pl.dgs B.natAbs) = sb at *
  generalize A.natAbs = U at *
  generalize B.natAbs = V at *
  generalize ordi A B = o at *
  clear ha hb hA hB
  obtain ⟨W2, hW2⟩ : ∃ W2, (w.alloc (.cells #[.bool na, .string sa] 43)).alloc (.cells #[.bool nb, .string sb] 43) = W2 := ⟨_, rfl⟩
  have P0 : Hid (P2 W2 w.heap.size 43 (.bool na) (.string sa)) := Lib.hid (by rw [← hW2]; exact (P2.new _ _ _ _).alloc _)
  have P1 : Hid (P2 W2 (w.heap.size + 1) 43 (.bool nb) (.string sb)) := Lib.hid (by
    rw [← hW2]
    have := P2.new (w.alloc (.cells #[.bool na, .string sa] 43)) 43 (.bool nb) (.string sb)
    simpa using this)
  have HB2 : Hid (Below w.heap.size w W2) := Lib.hid (by rw [← hW2]; exact ((Below.refl _ _).alloc (Nat.le_refl _) _).alloc (by simp) _)
  have hs2 : w.heap.size + 2 ≤ W2.heap.size := by rw [← hW2]; simp
  obtain ⟨p0, p1, p2, p3⟩ := P0.out.cells
  obtain ⟨q0, q1, q2, q3⟩ := P1.out.cells
  go_enter Tryz.func43, Tryz.ntmps43
  go_wp2_with fail
  refine (HTW.out _).mono ?_
  rintro e w4 ⟨va, vb, rfl, ra, rb, hb4⟩
  have HB4 := Lib.hid (chain HB2.out hb4 (by omega))
  obtain ⟨xa, xc, rfl⟩ := ra.form
  obtain ⟨ya, yc, rfl⟩ := rb.form
  have hbl : ∀ o o' : Obj, Below w4.heap.size w4 ((w4.alloc o).alloc o') := fun o o' => ((Below.refl _ _).alloc (Nat.le_refl _) _).alloc (by simp) _
  have HRA : Hid (∀ o o', Rd ((w4.alloc o).alloc o') (.slice xa (Pl.wd U).length xc) (Pl.wd U)) := Lib.hid (fun o o' => ra.below (hbl o o'))
  have HRB : Hid (∀ o o', Rd ((w4.alloc o).alloc o') (.slice ya (Pl.wd V).length yc) (Pl.wd V)) := Lib.hid (fun o o' => rb.below (hbl o o'))
  have HBB : Hid (∀ o o', Below w.heap.size w ((w4.alloc o).alloc o')) := Lib.hid (fun o o' => chain HB4.out (hbl o o') (Nat.le_trans (by omega) hb4.size))
  have hsb : ∀ o o' : Obj, w.heap.size ≤ ((w4.alloc o).alloc o').heap.size := fun o o' => (HBB.out o o').size
  have HSB := Lib.hid hsb
  clear ra rb hb4 hbl p0 p1 p2 p3 q0 q1 q2 q3 hW2 hsb
  generalize (Pl.wd U).length = n at *
  generalize (Pl.wd V).length = m at *
  go_wp2_with fail
  refine (HNA.out _ _ _ (HRA.out _ _) (HRB.out _ _)).mono ?_
  rintro e w6 ⟨rfl, hb6⟩
  have HB6 := Lib.hid (chain (HBB.out _ _) hb6 (HSB.out _ _))
  clear hb6
  go_wp2_with fail
  go_ret2
  exact ⟨rfl, HB6.out⟩
end Go.Proofs.YtlodbibagmblkaaGreatDoor
namespace Go.Proofs.YtlodbibagmblkaaGreatDoor
open Go Go.RowKit Go.Lib
/-- what a comparison asks -/
def cmpB (how : Nat) (c : Int) : Bool := if how = 3 then decide (c < 0) else if how = 4 then decide (0 < c) else if how = 5 then decide (c ≤ 0) else if how = 6 then decide (0 ≤ c) else if how = 7 then decide (c = 0) else decide (c ≠ 0)
set_option maxHeartbeats 2000000 in
theorem compare_any (how : Nat) (c : Int) (w : World) (h1 : 3 ≤ how) (h2 : how < 9) (hc : c = -1 ∨ c = 0 ∨ c = 1) :
    Calls Tryz.prog 78 #[.int .i64 how, .int .i64 c] w fun e w' => e = .returned (.bool (cmpB how c)) ∧ w = w' := by
  obtain rfl | rfl | rfl | rfl | rfl | rfl : how = 3 ∨ how = 4 ∨ how = 5 ∨ how = 6 ∨ how = 7 ∨ how = 8 := by omega
  all_goals
    rcases hc with rfl | rfl | rfl
    all_goals
      simp only [cmpB]
      go_enter Tryz.func78, Tryz.ntmps78
      go_wp2_with fail
      go_ret
      exact ⟨rfl, rfl⟩
set_option maxHeartbeats 1000000 in
theorem getLarge_any (k n b : Int) (t : ByteArray) (xa : Option Addr) (xl xc : Nat) (g : Bool) (s : ByteArray) (w : World) :
    Calls Tryz.prog 41 #[valv k n b t (.slice xa xl xc) g s] w fun e w' => e = .returned (.agg #[.bool g, .string s]) ∧ Below w.heap.size w w' := by
  unfold valv
  go_enter Tryz.func41, Tryz.ntmps41
  obtain ⟨W1, hW1⟩ : ∃ W1, w.alloc (.cells #[.int .u8 k, .int .i64 n, .int .u64 b, .string t, .slice xa xl xc, .bool g, .string s] 54) = W1 := ⟨_, rfl⟩
  have HP : Hid (P7 W1 w.heap.size (.int .u8 k) (.int .i64 n) (.int .u64 b) (.string t) (.slice xa xl xc) (.bool g) (.string s)) := Lib.hid (by rw [← hW1]; exact P7.new _ _ _ _ _ _ _ _)
  have HB : Hid (Below w.heap.size w W1) := Lib.hid (by rw [← hW1]; exact (Below.refl _ _).alloc (Nat.le_refl _) _)
  obtain ⟨W2, hW2⟩ : ∃ W2, W1.alloc (.cells #[.bool false, .string ⟨#[]⟩] 43) = W2 := ⟨_, rfl⟩
  have HS1 := Lib.hid (show w.heap.size + 1 = W1.heap.size by rw [← hW1]; simp)
  have HP2 : Hid (P7 W2 w.heap.size (.int .u8 k) (.int .i64 n) (.int .u64 b) (.string t) (.slice xa xl xc) (.bool g) (.string s)) := Lib.hid (HP.out.below (by rw [← hW2]; exact (Below.refl _ _).alloc (Nat.le_refl _) _))
  have HR : Hid (P2 W2 (w.heap.size + 1) 43 (.bool false) (.string ⟨#[]⟩)) := Lib.hid (by rw [← hW2, HS1.out]; exact P2.new _ _ _ _)
  have HB2 : Hid (Below w.heap.size w W2) := Lib.hid (by rw [← hW2]; exact HB.out.alloc (by have := HS1.out; omega) _)
  rw [← hW1] at hW2
  obtain ⟨z0, z1, z2, z3, z4, z5, z6, _, _, _, _, _, _, _⟩ := HP2.out.cells
  obtain ⟨r0, r1, f0, f1⟩ := HR.out.cells
  clear HP HB hW1
  go_wp2_with fail
  obtain ⟨k0, k1, _, _⟩ := (HR.out.set (.bool g) (.string s)).cells
  exact bodyPost_ret (v := .agg #[.bool g, .string s]) (by simp [results, Tryz.results41, go_sem, k0, k1]) rfl ⟨rfl, below_set2 HB2.out (by omega) _ _⟩
set_option maxHeartbeats 1000000 in
theorem cmpLarge_any (A B : Int) (w : World) (hA : Pl.Big A) (hB : Pl.Big B) :
    Calls Tryz.prog 42 #[lof A, lof B] w fun e w' => e = .returned (.tuple #[.int .i64 (ordi A B), .bool true]) ∧ Below w.heap.size w w' := by
  have HC := Lib.hid (fun W => lcmp_any A B W hA hB)
  obtain ⟨na, sa, ha⟩ : ∃ g s, lof A = .agg #[.bool g, .string s] := ⟨_, _, rfl⟩
  obtain ⟨nb, sb, hb⟩ : ∃ g s, lof B = .agg #[.bool g, .string s] := ⟨_, _, rfl⟩
  rw [ha, hb] at HC ⊢
  generalize ordi A B = o at *
  clear ha hb hA hB
  go_enter Tryz.func42, Tryz.ntmps42
  go_wp2_with fail
  refine (HC.out _).mono ?_
  rintro e w2 ⟨rfl, hb2⟩
  have HB2 := Lib.hid (show Below w.heap.size w w2 from (((Below.refl _ _).alloc (Nat.le_refl _) _).alloc (by simp) _).trans (hb2.mono (by simp; omega)))
  clear hb2
  go_wp2_with fail
  go_ret2
  exact ⟨rfl, HB2.out⟩
/-- true or false as a kind -/
def kindB (q : Bool) : Int := if q then 2 else 3
theorem truth_any (q : Bool) (w : World) : Calls Tryz.prog 77 #[.bool q] w fun e w' => e = .returned (.tuple #[litv (kindB q) 0 0 ⟨#[]⟩ (.slice none 0 0), .bool true]) ∧ Below w.heap.size w w' := by
  cases q
  · exact truth_false w
  · exact truth_true w
set_option maxRecDepth 4000 in
set_option maxHeartbeats 4000000 in
theorem cl_cmp (pb pg p how : Nat) (A B : Int) (x y : PV) (xa ya : Option Addr) (xl xc yl yc : Nat) (v : Value) (w : World) (h : VRow w v [x, y]) (hxv : x.v = .slice xa xl xc) (hyv : y.v = .slice ya yl yc) (h3 : 3 ≤ how) (h9 : how < 9)
    (hpb : w.cell? ⟨pb, 0, none⟩ = some (.func (.func 42) #[] #[])) (hpg : w.cell? ⟨pg, 0, none⟩ = some (.func (.func 41) #[] #[])) (hp : w.cell? ⟨p, 0, none⟩ = some (.int .i64 how)) (lpb : pb < w.heap.size) (lpg : pg < w.heap.size) (lp : p < w.heap.size)
    (hA : Pl.Big A) (hB : Pl.Big B) (ha : Value.agg #[.bool x.g, .string x.s] = lof A) (hb : Value.agg #[.bool y.g, .string y.s] = lof B) :
    Calls Tryz.prog 76 #[v, .pointer (some ⟨pb, 0, none⟩), .pointer (some ⟨pg, 0, none⟩), .pointer (some ⟨p, 0, none⟩)] w (LitOk w (litv (kindB (cmpB how (ordi A B))) 0 0 ⟨#[]⟩ (.slice none 0 0)) true) := by
  have HL := Lib.hid (fun W => cmpLarge_any A B W hA hB)
  rw [← ha, ← hb] at HL
  have HCM := Lib.hid (fun W => compare_any how (ordi A B) W h3 h9 (ordi_in A B))
  generalize cmpB how (ordi A B) = q at *
  generalize ordi A B = o at *
  have HT := Lib.hid (fun W => truth_any q W)
  obtain ⟨xk, xn, xb, xt, xv, xg, xs⟩ := x
  obtain ⟨yk, yn, yb, yt, yv, yg, ys⟩ := y
  simp only at hxv hyv HL
  subst hxv hyv
  have HGX := Lib.hid (fun W => getLarge_any xk xn xb xt xa xl xc xg xs W)
  have HGY := Lib.hid (fun W => getLarge_any yk yn yb yt ya yl yc yg ys W)
  unfold valv at HGX HGY
  clear ha hb hA hB
  generalize kindB q = kq at *
  unfold LitOk litv at *
  obtain ⟨W1, hW1⟩ : ∃ W1, w.alloc (.cells #[.int .u8 0, .int .i64 0, .int .u64 0, .string ⟨#[]⟩, .slice none 0 0] 26) = W1 := ⟨_, rfl⟩
  have HP : Hid (P5 W1 w.heap.size (.int .u8 0) (.int .i64 0) (.int .u64 0) (.string ⟨#[]⟩) (.slice none 0 0)) := Lib.hid (by rw [← hW1]; exact P5.new _ _ _ _ _ _)
  have HB : Hid (Below w.heap.size w W1) := Lib.hid (by rw [← hW1]; exact (Below.refl _ _).alloc (Nat.le_refl _) _)
  have hs1 : w.heap.size + 1 ≤ W1.heap.size := by rw [← hW1]; simp
  obtain ⟨gv, cv, rfl, hg0, hc0⟩ := h
  have hcx : ∀ (j : Nat) (u : Value), (PV.cells ⟨xk, xn, xb, xt, .slice xa xl xc, xg, xs⟩)[j]? = some u → W1.cell? ⟨gv, j, none⟩ = some u := fun j u hu => by rw [HB.out.cell (p := ⟨gv, j, none⟩) hg0]; have := hc0 0 _ rfl j u hu; rwa [Nat.zero_mul, Nat.zero_add] at this
  have hcy : ∀ (j : Nat) (u : Value), (PV.cells ⟨yk, yn, yb, yt, .slice ya yl yc, yg, ys⟩)[j]? = some u → W1.cell? ⟨gv, 7 + j, none⟩ = some u := fun j u hu => by rw [HB.out.cell (p := ⟨gv, 7 + j, none⟩) hg0]; exact hc0 1 _ rfl j u hu
  have x0 : W1.cell? ⟨gv, 0, none⟩ = some (.int .u8 xk) := hcx 0 _ rfl
  have x1 : W1.cell? ⟨gv, 1, none⟩ = some (.int .i64 xn) := hcx 1 _ rfl
  have x2 : W1.cell? ⟨gv, 2, none⟩ = some (.int .u64 xb) := hcx 2 _ rfl
  have x3 : W1.cell? ⟨gv, 3, none⟩ = some (.string xt) := hcx 3 _ rfl
  have x4 : W1.cell? ⟨gv, 4, none⟩ = some (.slice xa xl xc) := hcx 4 _ rfl
  have x5 : W1.cell? ⟨gv, 5, none⟩ = some (.bool xg) := hcx 5 _ rfl
  have x6 : W1.cell? ⟨gv, 6, none⟩ = some (.string xs) := hcx 6 _ rfl
  have y0 : W1.cell? ⟨gv, 7, none⟩ = some (.int .u8 yk) := hcy 0 _ rfl
  have y1 : W1.cell? ⟨gv, 8, none⟩ = some (.int .i64 yn) := hcy 1 _ rfl
  have y2 : W1.cell? ⟨gv, 9, none⟩ = some (.int .u64 yb) := hcy 2 _ rfl
  have y3 : W1.cell? ⟨gv, 10, none⟩ = some (.string yt) := hcy 3 _ rfl
  have y4 : W1.cell? ⟨gv, 11, none⟩ = some (.slice ya yl yc) := hcy 4 _ rfl
  have y5 : W1.cell? ⟨gv, 12, none⟩ = some (.bool yg) := hcy 5 _ rfl
  have y6 : W1.cell? ⟨gv, 13, none⟩ = some (.string ys) := hcy 6 _ rfl
  have hp1 : W1.cell? ⟨pb, 0, none⟩ = some (.func (.func 42) #[] #[]) := by rw [HB.out.cell (p := ⟨pb, 0, none⟩) lpb]; exact hpb
  have hp2 : W1.cell? ⟨pg, 0, none⟩ = some (.func (.func 41) #[] #[]) := by rw [HB.out.cell (p := ⟨pg, 0, none⟩) lpg]; exact hpg
  have HP3 : Hid (W1.cell? ⟨p, 0, none⟩ = some (.int .i64 how)) := Lib.hid (by rw [HB.out.cell (p := ⟨p, 0, none⟩) lp]; exact hp)
  simp only [List.length_cons, List.length_nil] at *
  clear hc0 hp hpb hpg hcx hcy
  have HS : Hid (∀ W, Below W1.heap.size W1 W → W.cell? ⟨pb, 0, none⟩ = some (.func (.func 42) #[] #[]) ∧ W.cell? ⟨pg, 0, none⟩ = some (.func (.func 41) #[] #[]) ∧ W.cell? ⟨gv, 0, none⟩ = some (.int .u8 xk) ∧ W.cell? ⟨gv, 1, none⟩ = some (.int .i64 xn) ∧ W.cell? ⟨gv, 2, none⟩ = some (.int .u64 xb) ∧ W.cell? ⟨gv, 3, none⟩ = some (.string xt) ∧ W.cell? ⟨gv, 4, none⟩ = some (.slice xa xl xc) ∧ W.cell? ⟨gv, 5, none⟩ = some (.bool xg) ∧ W.cell? ⟨gv, 6, none⟩ = some (.string xs) ∧ W.cell? ⟨gv, 7, none⟩ = some (.int .u8 yk) ∧ W.cell? ⟨gv, 8, none⟩ = some (.int .i64 yn) ∧ W.cell? ⟨gv, 9, none⟩ = some (.int .u64 yb) ∧ W.cell? ⟨gv, 10, none⟩ = some (.string yt) ∧ W.cell? ⟨gv, 11, none⟩ = some (.slice ya yl yc) ∧ W.cell? ⟨gv, 12, none⟩ = some (.bool yg) ∧ W.cell? ⟨gv, 13, none⟩ = some (.string ys)) := Lib.hid (fun W hb => by
    have k : ∀ (b i : Nat) u, b < w.heap.size → W1.cell? ⟨b, i, none⟩ = some u → W.cell? ⟨b, i, none⟩ = some u := fun b i u hlt hu => by rw [hb.cell (p := ⟨b, i, none⟩) (by show b < _; omega)]; exact hu
    exact ⟨k _ _ _ lpb hp1, k _ _ _ lpg hp2, k _ _ _ hg0 x0, k _ _ _ hg0 x1, k _ _ _ hg0 x2, k _ _ _ hg0 x3, k _ _ _ hg0 x4, k _ _ _ hg0 x5, k _ _ _ hg0 x6, k _ _ _ hg0 y0, k _ _ _ hg0 y1, k _ _ _ hg0 y2, k _ _ _ hg0 y3, k _ _ _ hg0 y4, k _ _ _ hg0 y5, k _ _ _ hg0 y6⟩)
  have BD := Lib.hid (show Below W1.heap.size W1 W1.drew from (Below.refl _ W1).drew)
  go_enter Tryz.func76, Tryz.ntmps76
  go_wp2_with fail
  go_region_held3 (fun W => W.cell? ⟨pb, 0, none⟩ = some (.func (.func 42) #[] #[]) ∧ W.cell? ⟨pg, 0, none⟩ = some (.func (.func 41) #[] #[]) ∧ W.cell? ⟨gv, 0, none⟩ = some (.int .u8 xk) ∧ W.cell? ⟨gv, 1, none⟩ = some (.int .i64 xn) ∧ W.cell? ⟨gv, 2, none⟩ = some (.int .u64 xb) ∧ W.cell? ⟨gv, 3, none⟩ = some (.string xt) ∧ W.cell? ⟨gv, 4, none⟩ = some (.slice xa xl xc) ∧ W.cell? ⟨gv, 5, none⟩ = some (.bool xg) ∧ W.cell? ⟨gv, 6, none⟩ = some (.string xs) ∧ W.cell? ⟨gv, 7, none⟩ = some (.int .u8 yk) ∧ W.cell? ⟨gv, 8, none⟩ = some (.int .i64 yn) ∧ W.cell? ⟨gv, 9, none⟩ = some (.int .u64 yb) ∧ W.cell? ⟨gv, 10, none⟩ = some (.string yt) ∧ W.cell? ⟨gv, 11, none⟩ = some (.slice ya yl yc) ∧ W.cell? ⟨gv, 12, none⟩ = some (.bool yg) ∧ W.cell? ⟨gv, 13, none⟩ = some (.string ys)) (first | with_reducible exact ⟨hp1, hp2, x0, x1, x2, x3, x4, x5, x6, y0, y1, y2, y3, y4, y5, y6⟩ | with_reducible exact HS.out _ BD.out | with_reducible exact HS.out _ hb4 | with_reducible exact HS.out _ hb5 | with_reducible exact HS.out _ hb6) (first
    | (go_at_call 42; (with_reducible refine (HL.out _).mono ?_); rintro e w6 ⟨rfl, hb6d⟩; have hb6 : Below W1.heap.size W1 w6 := hb5.trans (hb6d.mono hb5.size); clear hb6d)
    | (go_at_call 41; (have hg := hb4); (with_reducible refine (HGY.out _).mono ?_); rintro e w5 ⟨rfl, hb5d⟩; have hb5 : Below W1.heap.size W1 w5 := hb4.trans (hb5d.mono hb4.size); clear hb5d hg)
    | (go_at_call 41; (with_reducible refine (HGX.out _).mono ?_); rintro e w4 ⟨rfl, hb4d⟩; have hb4 : Below W1.heap.size W1 w4 := BD.out.trans hb4d; clear hb4d))
  all_goals
    clear x0 x1 x2 x3 x4 x5 x6 y0 y1 y2 y3 y4 y5 y6 hp1 hp2
    have c3 : w6.cell? ⟨p, 0, none⟩ = some (.int .i64 how) := by rw [hb6.cell (p := ⟨p, 0, none⟩) (by show p < _; omega)]; exact HP3.out
    have HB6 := Lib.hid hb6
    clear hb4 hb5 hb6
    go_wp2_with fail
    refine (HCM.out _).mono ?_
    rintro e w7 ⟨rfl, rfl⟩
    go_wp2_with fail
    refine (HT.out _).mono ?_
    rintro e w8 ⟨rfl, hb8⟩
    have HB8 := Lib.hid (HB.out.trans ((HB6.out.trans (hb8.mono HB6.out.size)).mono (by omega)))
    have HP8 := Lib.hid ((HP.out.below HB6.out).below hb8)
    obtain ⟨d0, d1, d2, d3, d4, e0, e1, e2, e3, e4⟩ := HP8.out.cells
    clear hb8
    go_wp2_with fail
    obtain ⟨k0, k1, k2, k3, k4, _, _, _, _, _⟩ := (HP8.out.set (.int .u8 kq) (.int .i64 0) (.int .u64 0) (.string ⟨#[]⟩) (.slice none 0 0)).cells
    exact bodyPost_ret (v := .tuple #[.agg #[.int .u8 kq, .int .i64 0, .int .u64 0, .string ⟨#[]⟩, .slice none 0 0], .bool true]) (by simp [results, Tryz.results76, go_sem, k0, k1, k2, k3, k4]) rfl ⟨rfl, below_set5 HB8.out (Nat.le_refl _) _ _ _ _ _⟩
/-- a primitive of two integers that compares -/
theorem has_ord {how : Nat} (h3 : 3 ≤ how) (h9 : how < 9) {vs : List PV} {P : Int → Int → Int → ByteArray → Bool → Prop}
    (hc : ∀ W v pb pg p, VRow W v vs → W.cell? ⟨pb, 0, none⟩ = some (.func (.func 42) #[] #[]) → W.cell? ⟨pg, 0, none⟩ = some (.func (.func 41) #[] #[]) → W.cell? ⟨p, 0, none⟩ = some (.int .i64 (how : Int)) → pb < W.heap.size → pg < W.heap.size → p < W.heap.size →
      Calls Tryz.prog 76 #[v, .pointer (some ⟨pb, 0, none⟩), .pointer (some ⟨pg, 0, none⟩), .pointer (some ⟨p, 0, none⟩)] W (Came W P)) : HasP (how : Int) ⟨#[73, 73]⟩ 76 vs P := fun W =>
  (table_any W).mono fun e W' ⟨b, L, h1, h2, h3', h4⟩ => by
    obtain ⟨pb, pg, q1, q2, q3, q4, q5⟩ := h3'.or
    obtain ⟨p, p1, p2, p3⟩ := q5 how h3 h9
    rw [Int.zero_add] at p1
    exact ⟨b, L, #[.pointer (some ⟨pb, 0, none⟩), .pointer (some ⟨pg, 0, none⟩), .pointer (some ⟨p, 0, none⟩)], h1, h2, h4, p1, fun W2 v hb hv => by
      have := hc W2 v pb pg p hv (by rw [hb.cell (p := ⟨pb, 0, none⟩) q3]; exact q1) (by rw [hb.cell (p := ⟨pg, 0, none⟩) q4]; exact q2) (by rw [hb.cell (p := ⟨p, 0, none⟩) p3]; exact p2) (Nat.lt_of_lt_of_le q3 hb.size) (Nat.lt_of_lt_of_le q4 hb.size) (Nat.lt_of_lt_of_le p3 hb.size)
      simpa using this⟩
theorem do_cmp (how : Nat) (x x2 : PT) (y y2 : PV) (A B : Int) (av : Value) (w : World) (h3 : 3 ≤ how) (h9 : how < 9) (h1 : ArgI x y A) (h2 : ArgI x2 y2 B) (h : TRow w av [x, x2]) :
    Calls Tryz.prog 11 #[.int .i64 how, av] w (Came w (Just (kindB (cmpB how (ordi A B))) 0 ⟨#[]⟩ true)) := by
  obtain ⟨xa, xl, xc, hxv⟩ := h1.2.2.2.2
  obtain ⟨ya, yl, yc, hyv⟩ := h2.2.2.2.2
  exact (do_all how ⟨#[73, 73]⟩ 76 [y, y2] [x, x2] (Just (kindB (cmpB how (ordi A B))) 0 ⟨#[]⟩ true) av w (by omega) h rfl rfl (by simp) (by simp) (fun args W => callFunc_go Tryz.func76 rfl rfl args W)
    (has_ord h3 h9 fun W v pb pg p hv q1 q2 q3 q4 q5 q6 => (cl_cmp pb pg p how A B y y2 xa ya xl xc yl yc v W hv hxv hyv h3 h9 q1 q2 q3 q4 q5 q6 h1.2.2.1 h2.2.2.1 h1.2.1 h2.2.1).mono fun e w' h => came_just h) (two_all h1.2.2.2.2 h2.2.2.2.2) (two_all h1.2.2.2.1 h2.2.2.2.1) (hof2 h1.1 h2.1)).mono fun e w' h => just_ok (done_came h) rfl
end Go.Proofs.YtlodbibagmblkaaGreatDoor
namespace Go.Proofs.YtlodbibagmblkaaGreatDoor
open Go Go.RowKit Go.Lib
theorem Pl.ba_eq {a b : ByteArray} : (a.toList == b.toList) = true ↔ a = b := by
  rw [beq_iff_eq, ByteArray.toList_eq, ByteArray.toList_eq]
  cases a; cases b; simp
set_option maxRecDepth 4000 in
set_option maxHeartbeats 2000000 in
theorem slf_any (k n b k' n' b' : Int) (t t' : ByteArray) (a a' : Option Addr) (c c' : Nat) (w : World) :
    Calls Tryz.prog 10 #[litv k n b t (.slice a 0 c), litv k' n' b' t' (.slice a' 0 c')] w fun e w' => e = .returned (.bool (decide (k = k' ∧ n = n' ∧ b = b' ∧ t = t'))) ∧ Below w.heap.size w w' := by
  unfold litv
  go_enter Tryz.func10, Tryz.ntmps10
  go_wp2_with fail
  any_goals
    go_ret
    refine ⟨congrArg (fun z => Ending.returned (.bool z)) (Eq.symm ?_), ((Below.refl _ _).alloc (Nat.le_refl _) _).alloc (by simp) _⟩
    rw [decide_eq_false_iff_not]
    rintro ⟨h1, h2, h3, h4⟩
    have h5 : t.toList = t'.toList := by rw [h4]
    contradiction
  rename_i e1 e2 e3 e4 K1 K2
  have HE := Lib.hid (show decide (k = k' ∧ n = n' ∧ b = b' ∧ t = t') = true from decide_eq_true ⟨e1, e2, e3, Pl.ba_eq.1 (by rw [e4]; exact beq_self_eq_true _)⟩)
  clear e1 e2 e3 e4
  obtain ⟨W0, hW0⟩ : ∃ W0, (w.alloc (.cells #[.int .u8 k', .int .i64 n', .int .u64 b', .string t, .slice a 0 c] 26)).alloc (.cells #[.int .u8 k', .int .i64 n', .int .u64 b', .string t', .slice a' 0 c'] 26) = W0 := ⟨_, rfl⟩
  have HB0 : Hid (Below w.heap.size w W0) := Lib.hid (by rw [← hW0]; exact ((Below.refl _ _).alloc (Nat.le_refl _) _).alloc (by simp) _)
  have c0 : W0.cell? ⟨w.heap.size, 4, none⟩ = some (.slice a 0 c) := by rw [← hW0]; simp [go_sem]
  have c1 : W0.cell? ⟨w.heap.size + 1, 4, none⟩ = some (.slice a' 0 c') := by rw [← hW0]; simp [go_sem]
  rw [hW0]
  clear hW0
  go_loopw [5] (fun iv wr => iv = .int .i64 0 ∧ wr = W0) (fun _ _ => 0)
  case atStart => exact ⟨rfl, rfl⟩
  case round =>
    obtain ⟨rfl, rfl⟩ := hrel
    go_wp2_with fail
    go_ret
    exact ⟨congrArg (fun z => Ending.returned (.bool z)) HE.out.symm, HB0.out⟩
end Go.Proofs.YtlodbibagmblkaaGreatDoor
namespace Go.Proofs.YtlodbibagmblkaaGreatDoor
open Go Go.RowKit Go.Lib
theorem TRow.alloc {w : World} {v : Value} {l : List PT} (h : TRow w v l) (o : Obj) : TRow (w.alloc o) v l := by
  obtain ⟨g, cap, h1, h2, h3⟩ := h
  have hb : Below w.heap.size w (w.alloc o) := (Below.refl _ _).alloc (Nat.le_refl _) _
  exact ⟨g, cap, h1, Nat.lt_of_lt_of_le h2 hb.size, fun i x hx j u hu => by rw [hb.cell (p := ⟨g, i * 5 + j, none⟩) h2]; exact h3 i x hx j u hu⟩
theorem trow_c (W : World) (o : Obj) (l : List PT) (cs : Array Value) (T : TypeId) (h : cs.toList = l.flatMap PT.cells) (m : Nat) (hm : m = l.length) : TRow ((W.alloc o).alloc (.cells cs T)) (.slice (some ⟨W.heap.size + 1, 0, none⟩) m m) l := by
  have := trow_new (W.alloc o) l cs T h m hm
  rwa [show (W.alloc o).heap.size = W.heap.size + 1 by simp] at this
theorem P5.new1 (w : World) (o : Obj) (a b c d e : Value) : P5 ((w.alloc o).alloc (.cells #[a, b, c, d, e] 26)) (w.heap.size + 1) a b c d e := by
  have := P5.new (w.alloc o) a b c d e
  rwa [show (w.alloc o).heap.size = w.heap.size + 1 by simp] at this
def maxT : List UInt8 := [49, 49, 53, 50, 57, 50, 49, 53, 48, 52, 54, 48, 54, 56, 52, 54, 57, 55, 54]
theorem Pl.intT_max1 : Pl.IntT 10 maxT (1152921504606846975 + 1) := by
  unfold Pl.IntT
  rw [if_neg (by omega)]
  exact ⟨by decide, by decide, by decide, by decide⟩
theorem int_max1 {k n b : Int} {t : ByteArray} {is : Bool} (h : IntP (1152921504606846975 + 1) k n b t is) : k = 5 ∧ n = 0 ∧ b = 0 ∧ t = ⟨#[49, 49, 53, 50, 57, 50, 49, 53, 48, 52, 54, 48, 54, 56, 52, 54, 57, 55, 54]⟩ ∧ is = true := by
  obtain ⟨s, h, rfl, rfl, rfl⟩ := h
  rcases h with ⟨h, _⟩ | ⟨_, rfl, rfl, h, _⟩
  · unfold FitsI at h; omega
  · exact ⟨rfl, rfl, rfl, by rw [Pl.intT_inj (by omega) (by omega) h Pl.intT_max1]; rfl, rfl⟩
theorem int_max {k n b : Int} {t : ByteArray} {is : Bool} (h : IntP (1152921504606846975 + 1 - 1) k n b t is) : k = 4 ∧ n = 1152921504606846975 ∧ b = 0 ∧ t = ⟨#[]⟩ ∧ is = true := by
  obtain ⟨s, h, rfl, rfl, rfl⟩ := h
  rcases h with ⟨_, rfl, rfl, rfl⟩ | ⟨h, _⟩
  · exact ⟨rfl, by omega, rfl, rfl, rfl⟩
  · exact absurd (show FitsI _ by unfold FitsI; omega) h
theorem arg_max1 : ArgI (tlg maxT) (vlg maxT (1152921504606846975 + 1)) (1152921504606846975 + 1) := arg_large (by decide) (small_big (by omega) (by omega)) Pl.intT_max1 (by unfold FitsI; omega)
theorem arg_small' (n : Int) (h : FitsI n) : ArgI (tsm n) (vsm n) n := arg_small h
set_option maxRecDepth 4000 in
set_option maxHeartbeats 8000000 in
theorem law21_awake (w : World) : Calls Tryz.prog 6 #[] w fun e w' => e = .returned (.bool true) ∧ Below w.heap.size w w' := by
  have HSM := Lib.hid (fun n W => lsm_any n W)
  have HW := Lib.hid (Below.refl w.heap.size w)
  go_enter Tryz.func6, Tryz.ntmps6
  go_wp2_with (go_at_call 12; refine (HSM.out _ _).mono ?_)
  rintro e w1 ⟨rfl, hb⟩
  replace HW := Lib.hid (HW.out.trans (hb.mono HW.out.size))
  clear hb
  unfold litv
  go_wp2_with (go_at_call 12; refine (HSM.out _ _).mono ?_)
  rintro e w2 ⟨rfl, hb⟩
  replace HW := Lib.hid (HW.out.trans (hb.mono HW.out.size))
  clear hb
  unfold litv
  go_wp2_with fail
  refine (do1 (tsm 1152921504606846975) (tsm 1) (vsm 1152921504606846975) (vsm 1) 1152921504606846975 1 _ _ (arg_small (by unfold FitsI; omega)) (arg_small (by unfold FitsI; omega)) (small_big (by omega) (by omega)) (trow_new _ _ _ _ rfl _ rfl)).mono ?_
  rintro e w3 ⟨k3, n3, b3, t3, is3, hP, rfl, hb⟩
  obtain ⟨rfl, rfl, rfl, rfl, rfl⟩ := int_max1 hP
  clear hP
  replace HW := Lib.hid ((HW.out.alloc HW.out.size _).trans (hb.mono (by have := HW.out.size; simp; omega)))
  clear hb
  unfold litv
  go_wp2_with (go_at_call 12; refine (HSM.out _ _).mono ?_)
  obtain ⟨v3, hv⟩ : ∃ W, w3.alloc (.cells #[.int .u8 5, .int .i64 0, .int .u64 0, .string ⟨#[49, 49, 53, 50, 57, 50, 49, 53, 48, 52, 54, 48, 54, 56, 52, 54, 57, 55, 54]⟩, .slice none 0 0] 26) = W := ⟨_, rfl⟩
  have HW3 : Hid (Below w.heap.size w v3) := Lib.hid (by rw [← hv]; exact HW.out.alloc HW.out.size _)
  have HA : Hid (P5 v3 w3.heap.size (.int .u8 5) (.int .i64 0) (.int .u64 0) (.string ⟨#[49, 49, 53, 50, 57, 50, 49, 53, 48, 52, 54, 48, 54, 56, 52, 54, 57, 55, 54]⟩) (.slice none 0 0)) := Lib.hid (by rw [← hv]; exact P5.new _ _ _ _ _ _)
  rw [hv]
  clear hv HW
  have HW := HW3
  clear HW3
  rintro e w4 ⟨rfl, hb⟩
  replace HA := Lib.hid (HA.out.below hb)
  replace HW := Lib.hid (HW.out.trans (hb.mono HW.out.size))
  clear hb
  unfold litv
  go_wp2_with (go_at_call 12; refine (HSM.out _ _).mono ?_)
  rintro e w5 ⟨rfl, hb⟩
  replace HA := Lib.hid (HA.out.below hb)
  replace HW := Lib.hid (HW.out.trans (hb.mono HW.out.size))
  clear hb
  unfold litv
  go_wp2_with fail
  refine (do10_72 _ _ (trow_new _ _ _ _ rfl _ rfl)).mono ?_
  rintro e w6 ⟨k3, n3, b3, t3, is3, ⟨rfl, rfl, rfl, rfl, rfl⟩, rfl, hb⟩
  replace HA := Lib.hid ((HA.out.alloc _).below hb)
  replace HW := Lib.hid ((HW.out.alloc HW.out.size _).trans (hb.mono (by have := HW.out.size; simp; omega)))
  clear hb
  unfold litv
  go_wp2_with (go_at_call 15; refine (ltx_any _ _).mono ?_)
  obtain ⟨v6, hv⟩ : ∃ W, w6.alloc (.cells #[.int .u8 0, .int .i64 0, .int .u64 0, .string ⟨#[]⟩, .slice none 0 0] 26) = W := ⟨_, rfl⟩
  have HW3 : Hid (Below w.heap.size w v6) := Lib.hid (by rw [← hv]; exact HW.out.alloc HW.out.size _)
  have HA3 : Hid (P5 v6 w3.heap.size (.int .u8 5) (.int .i64 0) (.int .u64 0) (.string ⟨#[49, 49, 53, 50, 57, 50, 49, 53, 48, 52, 54, 48, 54, 56, 52, 54, 57, 55, 54]⟩) (.slice none 0 0)) := Lib.hid (by rw [← hv]; exact HA.out.alloc _)
  rw [hv]
  clear hv HW HA
  have HW := HW3
  have HA := HA3
  clear HW3 HA3
  rintro e w7 ⟨rfl, hb⟩
  replace HA := Lib.hid (HA.out.below hb)
  replace HW := Lib.hid (HW.out.trans (hb.mono HW.out.size))
  clear hb
  unfold litv
  go_wp2_with (go_at_call 12; refine (HSM.out _ _).mono ?_)
  rintro e w8 ⟨rfl, hb⟩
  replace HA := Lib.hid (HA.out.below hb)
  replace HW := Lib.hid (HW.out.trans (hb.mono HW.out.size))
  clear hb
  unfold litv
  go_wp2_with (go_at_call 12; refine (HSM.out _ _).mono ?_)
  rintro e w9 ⟨rfl, hb⟩
  replace HA := Lib.hid (HA.out.below hb)
  replace HW := Lib.hid (HW.out.trans (hb.mono HW.out.size))
  clear hb
  unfold litv
  go_wp2_with fail
  refine (do68 ⟨#[97, 98, 99]⟩ 2 3 1 3 _ _ (by decide) (by omega) (by omega) (by omega) (by decide) (trow_new _ _ _ _ rfl _ rfl)).mono ?_
  rintro e w10 ⟨k3, n3, b3, t3, is3, ⟨rfl, rfl, rfl, rfl, rfl⟩, rfl, hb⟩
  rw [show (⟨#[97, 98, 99]⟩ : ByteArray).extract 1 3 = ⟨#[98, 99]⟩ from by decide]
  replace HA := Lib.hid ((HA.out.alloc _).below hb)
  replace HW := Lib.hid ((HW.out.alloc HW.out.size _).trans (hb.mono (by have := HW.out.size; simp; omega)))
  clear hb
  unfold litv
  go_upto_region 4 with fail
  obtain ⟨v10, hv⟩ : ∃ W, w10.alloc (.cells #[.int .u8 8, .int .i64 0, .int .u64 0, .string ⟨#[98, 99]⟩, .slice none 0 0] 26) = W := ⟨_, rfl⟩
  have HW3 : Hid (Below w.heap.size w v10) := Lib.hid (by rw [← hv]; exact HW.out.alloc HW.out.size _)
  have HA3 : Hid (P5 v10 w3.heap.size (.int .u8 5) (.int .i64 0) (.int .u64 0) (.string ⟨#[49, 49, 53, 50, 57, 50, 49, 53, 48, 52, 54, 48, 54, 56, 52, 54, 57, 55, 54]⟩) (.slice none 0 0)) := Lib.hid (by rw [← hv]; exact HA.out.alloc _)
  have HB : Hid (P5 v10 w10.heap.size (.int .u8 8) (.int .i64 0) (.int .u64 0) (.string ⟨#[98, 99]⟩) (.slice none 0 0)) := Lib.hid (by rw [← hv]; exact P5.new _ _ _ _ _ _)
  rw [hv]
  clear hv HW HA
  have HW := HW3
  have HA := HA3
  clear HW3 HA3
  obtain ⟨a0, a1, a2, a3, a4, _, _, _, _, _⟩ := HA.out.cells
  have HS : Hid (∀ W, Below v10.heap.size v10 W → W.cell? ⟨w3.heap.size, 0, none⟩ = some (.int .u8 5) ∧ W.cell? ⟨w3.heap.size, 1, none⟩ = some (.int .i64 0) ∧ W.cell? ⟨w3.heap.size, 2, none⟩ = some (.int .u64 0) ∧ W.cell? ⟨w3.heap.size, 3, none⟩ = some (.string ⟨#[49, 49, 53, 50, 57, 50, 49, 53, 48, 52, 54, 48, 54, 56, 52, 54, 57, 55, 54]⟩) ∧ W.cell? ⟨w3.heap.size, 4, none⟩ = some (.slice none 0 0)) := Lib.hid (fun W hb => by obtain ⟨a0, a1, a2, a3, a4, _, _, _, _, _⟩ := (HA.out.below hb).cells; exact ⟨a0, a1, a2, a3, a4⟩)
  have BD := Lib.hid (show Below v10.heap.size v10 v10.drew from (Below.refl _ v10).drew)
  have BA := Lib.hid (show ∀ o, Below v10.heap.size v10 (v10.alloc o).drew from fun o => ((Below.refl _ v10).alloc (Nat.le_refl _) o).drew)
  have HD2 : Hid (∀ av W, TRow W av [tlg maxT, tsm 1] → Calls Tryz.prog 11 #[.int .i64 2, av] W (Came W (IntP (1152921504606846975 + 1 - 1)))) := Lib.hid (fun av W h => do2 (tlg maxT) (tsm 1) (vlg maxT (1152921504606846975 + 1)) (vsm 1) (1152921504606846975 + 1) 1 av W arg_max1 (arg_small (by unfold FitsI; omega)) (small_big (by omega) (by omega)) h)
  go_cut [7, 8] from 35 to 93 (fun s7 s8 wx => ∃ k, s7 = .pointer (some ⟨k, 0, none⟩) ∧ s8 = .bool true ∧ P5 wx k (.int .u8 4) (.int .i64 1152921504606846975) (.int .u64 0) (.string ⟨#[]⟩) (.slice none 0 0) ∧ Below v10.heap.size v10 wx)
  case first =>
    go_region_held3 (fun W => W.cell? ⟨w3.heap.size, 0, none⟩ = some (.int .u8 5) ∧ W.cell? ⟨w3.heap.size, 1, none⟩ = some (.int .i64 0) ∧ W.cell? ⟨w3.heap.size, 2, none⟩ = some (.int .u64 0) ∧ W.cell? ⟨w3.heap.size, 3, none⟩ = some (.string ⟨#[49, 49, 53, 50, 57, 50, 49, 53, 48, 52, 54, 48, 54, 56, 52, 54, 57, 55, 54]⟩) ∧ W.cell? ⟨w3.heap.size, 4, none⟩ = some (.slice none 0 0)) (first | with_reducible exact ⟨a0, a1, a2, a3, a4⟩ | with_reducible exact HS.out _ BD.out | with_reducible exact HS.out _ (BA.out _) | with_reducible exact HS.out _ hb4 | with_reducible exact HS.out _ (hb4.alloc hb4.size _) | with_reducible exact HS.out _ ((hb4.alloc hb4.size _).alloc (Nat.le_trans hb4.size (by simp)) _) | with_reducible exact HS.out _ hb6 | with_reducible exact HS.out _ (hb6.alloc hb6.size _) | with_reducible exact HS.out _ (below_set5 hb6 (by omega) _ _ _ _ _)) (first
      | (go_at_call 12; (with_reducible refine (HSM.out _ _).mono ?_); rintro e w40 ⟨rfl, hb4d⟩; (first | (have hb4 : Below v10.heap.size v10 w40 := BD.out.trans hb4d) | (have hb4 : Below v10.heap.size v10 w40 := (BA.out _).trans (hb4d.mono (by simp)); have LA4 : P5 w40 v10.heap.size (.int .u8 0) (.int .i64 0) (.int .u64 0) (.string ⟨#[]⟩) (.slice none 0 0) := (P5.new v10 _ _ _ _ _).drew.below hb4d)); have hs4 := hb4.size; have HTa := trow_new w40 [tlg maxT, tsm 1] #[.int .u8 5, .int .i64 0, .int .u64 0, .string ⟨#[49, 49, 53, 50, 57, 50, 49, 53, 48, 52, 54, 48, 54, 56, 52, 54, 57, 55, 54]⟩, .slice none 0 0, .int .u8 4, .int .i64 1, .int .u64 0, .string ⟨#[]⟩, .slice none 0 0] 26 rfl 2 rfl; have HTb := HTa.alloc (.cells #[.int .u8 0, .int .i64 0, .int .u64 0, .string ⟨#[]⟩, .slice none 0 0] 26); have HTc := trow_c w40 (.cells #[.int .u8 0, .int .i64 0, .int .u64 0, .string ⟨#[]⟩, .slice none 0 0] 26) [tlg maxT, tsm 1] #[.int .u8 5, .int .i64 0, .int .u64 0, .string ⟨#[49, 49, 53, 50, 57, 50, 49, 53, 48, 52, 54, 48, 54, 56, 52, 54, 57, 55, 54]⟩, .slice none 0 0, .int .u8 4, .int .i64 1, .int .u64 0, .string ⟨#[]⟩, .slice none 0 0] 26 rfl 2 rfl; clear hb4d; unfold litv)
      | (go_at_call 11; (first
        | ((with_reducible refine (HD2.out _ _ HTa).mono ?_); rintro e w41 ⟨k3, n3, b3, t3, is3, hP, rfl, hb5⟩; (have hb6 : Below v10.heap.size v10 w41 := (hb4.alloc hs4 _).trans (hb5.mono (by simp; omega))); (first | (have LA5 : P5 w41 v10.heap.size (.int .u8 0) (.int .i64 0) (.int .u64 0) (.string ⟨#[]⟩) (.slice none 0 0) := (LA4.alloc _).below hb5; obtain ⟨z0, z1, z2, z3, z4, y0, y1, y2, y3, y4⟩ := LA5.cells) | skip))
        | ((with_reducible refine (HD2.out _ _ HTc).mono ?_); rintro e w41 ⟨k3, n3, b3, t3, is3, hP, rfl, hb5⟩; (have hb6 : Below v10.heap.size v10 w41 := ((hb4.alloc hs4 _).alloc (Nat.le_trans hs4 (by simp)) _).trans (hb5.mono (by simp; omega))); have LA5 : P5 w41 w40.heap.size (.int .u8 0) (.int .i64 0) (.int .u64 0) (.string ⟨#[]⟩) (.slice none 0 0) := ((P5.new w40 _ _ _ _ _).alloc _).below hb5; obtain ⟨z0, z1, z2, z3, z4, y0, y1, y2, y3, y4⟩ := LA5.cells)
        | ((with_reducible refine (HD2.out _ _ HTb).mono ?_); rintro e w41 ⟨k3, n3, b3, t3, is3, hP, rfl, hb5⟩; (have hb6 : Below v10.heap.size v10 w41 := ((hb4.alloc hs4 _).alloc (Nat.le_trans hs4 (by simp)) _).trans (hb5.mono (by simp; omega))); have LA5 : P5 w41 (w40.heap.size + 1) (.int .u8 0) (.int .i64 0) (.int .u64 0) (.string ⟨#[]⟩) (.slice none 0 0) := (P5.new1 w40 (.cells #[.int .u8 5, .int .i64 0, .int .u64 0, .string ⟨#[49, 49, 53, 50, 57, 50, 49, 53, 48, 52, 54, 48, 54, 56, 52, 54, 57, 55, 54]⟩, .slice none 0 0, .int .u8 4, .int .i64 1, .int .u64 0, .string ⟨#[]⟩, .slice none 0 0] 26) (.int .u8 0) (.int .i64 0) (.int .u64 0) (.string ⟨#[]⟩) (.slice none 0 0)).below hb5; obtain ⟨z0, z1, z2, z3, z4, y0, y1, y2, y3, y4⟩ := LA5.cells)); obtain ⟨rfl, rfl, rfl, rfl, rfl⟩ := int_max hP; clear hP; unfold litv))
    all_goals
      go_wp2_with fail
      go_meet
      case rel => first | exact ⟨_, rfl, rfl, LA5.set _ _ _ _ _, below_set5 hb6 (by omega) _ _ _ _ _⟩ | exact ⟨_, rfl, rfl, P5.new w41 _ _ _ _ _, hb6.alloc hb6.size _⟩
  case rest =>
    obtain ⟨kc, rfl, rfl, hC, hb⟩ := hcut
    have HC := Lib.hid hC
    replace HA := Lib.hid (HA.out.below hb)
    replace HB := Lib.hid (HB.out.below hb)
    replace HW := Lib.hid (HW.out.trans (hb.mono HW.out.size))
    clear hb hC HS BD BA HD2 a0 a1 a2 a3 a4

    go_wp2_with (go_at_call 12; refine (HSM.out _ _).mono ?_)
    rintro e w11 ⟨rfl, hb⟩
    replace HA := Lib.hid (HA.out.below hb)
    replace HB := Lib.hid (HB.out.below hb)
    replace HC := Lib.hid (HC.out.below hb)
    replace HW := Lib.hid (HW.out.trans (hb.mono HW.out.size))
    clear hb
    unfold litv
    go_wp2_with fail
    refine (do1_bad _ _ (trow_new _ _ _ _ rfl _ rfl)).mono ?_
    rintro e w12 ⟨k3, n3, b3, t3, is3, ⟨rfl, rfl, rfl, rfl, rfl⟩, rfl, hb⟩
    replace HA := Lib.hid ((HA.out.alloc _).below hb)
    replace HB := Lib.hid ((HB.out.alloc _).below hb)
    replace HC := Lib.hid ((HC.out.alloc _).below hb)
    replace HW := Lib.hid ((HW.out.alloc HW.out.size _).trans (hb.mono (by have := HW.out.size; simp; omega)))
    clear hb
    unfold litv
    go_wp2_with (go_at_call 13; refine (arity68 _).mono ?_)
    obtain ⟨v12, hv⟩ : ∃ W, w12.alloc (.cells #[.int .u8 0, .int .i64 0, .int .u64 0, .string ⟨#[]⟩, .slice none 0 0] 26) = W := ⟨_, rfl⟩
    have HW3 : Hid (Below w.heap.size w v12) := Lib.hid (by rw [← hv]; exact HW.out.alloc HW.out.size _)
    have HA3 : Hid (P5 v12 w3.heap.size (.int .u8 5) (.int .i64 0) (.int .u64 0) (.string ⟨#[49, 49, 53, 50, 57, 50, 49, 53, 48, 52, 54, 48, 54, 56, 52, 54, 57, 55, 54]⟩) (.slice none 0 0)) := Lib.hid (by rw [← hv]; exact HA.out.alloc _)
    have HB3 : Hid (P5 v12 w10.heap.size (.int .u8 8) (.int .i64 0) (.int .u64 0) (.string ⟨#[98, 99]⟩) (.slice none 0 0)) := Lib.hid (by rw [← hv]; exact HB.out.alloc _)
    have HC3 : Hid (P5 v12 kc (.int .u8 4) (.int .i64 1152921504606846975) (.int .u64 0) (.string ⟨#[]⟩) (.slice none 0 0)) := Lib.hid (by rw [← hv]; exact HC.out.alloc _)
    rw [hv]
    clear hv HW HA HB HC
    have HW := HW3
    have HA := HA3
    have HB := HB3
    have HC := HC3
    clear HW3 HA3 HB3 HC3
    rintro e w20 ⟨rfl, hb⟩
    replace HA := Lib.hid (HA.out.below hb)
    replace HB := Lib.hid (HB.out.below hb)
    replace HC := Lib.hid (HC.out.below hb)
    replace HW := Lib.hid (HW.out.trans (hb.mono HW.out.size))
    clear hb
    go_wp2_with (go_at_call 13; refine (arity0 _).mono ?_)
    rintro e w21 ⟨rfl, hb⟩
    replace HA := Lib.hid (HA.out.below hb)
    replace HB := Lib.hid (HB.out.below hb)
    replace HC := Lib.hid (HC.out.below hb)
    replace HW := Lib.hid (HW.out.trans (hb.mono HW.out.size))
    clear hb
    obtain ⟨a0, a1, a2, a3, a4, _, _, _, _, _⟩ := HA.out.cells
    obtain ⟨b0, b1, b2, b3, b4, _, _, _, _, _⟩ := HB.out.cells
    obtain ⟨c0, c1, c2, c3, c4, _, _, _, _, _⟩ := HC.out.cells
    go_wp2_with fail
    go_ret
    exact ⟨rfl, HW.out⟩
end Go.Proofs.YtlodbibagmblkaaGreatDoor
namespace Go.Proofs.YtlodbibagmblkaaGreatDoor
open Go Go.RowKit Go.Lib
/-- a literal that is a whole number is an argument -/
theorem argI_of {k n b : Int} {l : List UInt8} {A : Int} {ia : Option Addr} {ic : Nat} (h : IsI k n b l 0 A) (hl : l.length ≤ 300000) : ∃ y, ArgI ⟨k, n, b, bs l, .slice ia 0 ic⟩ y A := by
  obtain ⟨_, rfl, h⟩ := h
  rcases h with ⟨rfl, rfl, rfl, hf⟩ | ⟨rfl, rfl, hA, hB, hf⟩
  · refine ⟨⟨4, n, 0, ⟨#[]⟩, .slice ia 0 ic, decide (n < 0), bs (Pl.dgs n.natAbs)⟩, fun W => ?_, rfl, small_big (by unfold FitsI at hf; omega) (by unfold FitsI at hf; omega), ⟨_, _, _, rfl⟩, ⟨_, _, _, rfl⟩⟩
    have := of_small n 73 ia ic W (by unfold FitsI at hf; omega) (by unfold FitsI at hf; omega) (.inl rfl)
    rwa [decide_eq_true hf] at this
  · refine ⟨⟨5, 0, 0, bs l, .slice ia 0 ic, decide (A < 0), bs (Pl.dgs A.natAbs)⟩, fun W => ?_, rfl, hB, ⟨_, _, _, rfl⟩, ⟨_, _, _, rfl⟩⟩
    have := of_large l A ia ic W hl hB hA
    rwa [decide_eq_false hf] at this
/-- whole numbers are the same as literals where they are the same -/
theorem isI_same {k n b k' n' b' : Int} {l l' : List UInt8} {A B : Int} (h : IsI k n b l 0 A) (h' : IsI k' n' b' l' 0 B) : (k = k' ∧ n = n' ∧ b = b' ∧ bs l = bs l') ↔ A = B := by
  have hbs : bs l = bs l' ↔ l = l' := by
    constructor
    · intro h
      have := congrArg (fun s : ByteArray => s.data.toList) h
      simpa using this
    · rintro rfl; rfl
  rw [hbs]
  obtain ⟨_, rfl, h⟩ := h
  obtain ⟨_, rfl, h'⟩ := h'
  rcases h with ⟨rfl, rfl, rfl, hf⟩ | ⟨rfl, rfl, hA, hB, hf⟩
  · rcases h' with ⟨rfl, rfl, rfl, hf'⟩ | ⟨rfl, rfl, hA', hB', hf'⟩
    · exact ⟨fun h => h.2.1, fun h => ⟨rfl, h, rfl, rfl⟩⟩
    · exact ⟨fun h => by omega, fun h => absurd (h ▸ hf) hf'⟩
  · rcases h' with ⟨rfl, rfl, rfl, hf'⟩ | ⟨rfl, rfl, hA', hB', hf'⟩
    · exact ⟨fun h => by omega, fun h => absurd (h ▸ hf') hf⟩
    · refine ⟨fun h => ?_, fun h => ⟨rfl, rfl, rfl, ?_⟩⟩
      · obtain ⟨_, _, _, rfl⟩ := h
        exact Pl.intT_val (by decide) hA hA'
      · subst h
        exact Pl.intT_inj (by decide) (by decide) hA hA'
theorem RowAt.two {w : World} {x y : Pl.Lit} {vx vy : Value} (T : TypeId) : RowAt 5 litCells (w.alloc (.cells #[.int .u8 x.kind, .int .i64 x.n, .int .u64 x.bits, .string x.text, vx, .int .u8 y.kind, .int .i64 y.n, .int .u64 y.bits, .string y.text, vy] T)) [x, y] (some ⟨w.heap.size, 0, none⟩) 2 (fun i => if i = 0 then vx else vy) := by
  refine ⟨by simp, by unfold maxLen; decide, by simp, fun _ => ⟨_, _, rfl⟩, fun h => (by cases h), fun _ a ha => by injection ha with ha; rw [← ha]; simp, ?_⟩
  intro b o e i z hz j u hu
  injection e with e
  injection e with e1 e2
  subst e1 e2
  rw [Nat.zero_add, World.cell?_alloc_new]
  have hi : i < 2 := by have := (List.getElem?_eq_some_iff.1 hz).1; simpa using this
  obtain rfl | rfl : i = 0 ∨ i = 1 := by omega
  · obtain rfl : x = z := by simpa using hz
    simp only [litCells, if_true] at hu
    have hj : j < 5 := by have := (List.getElem?_eq_some_iff.1 hu).1; simpa using this
    obtain rfl | rfl | rfl | rfl | rfl : j = 0 ∨ j = 1 ∨ j = 2 ∨ j = 3 ∨ j = 4 := by omega
    all_goals simpa using hu
  · obtain rfl : y = z := by simpa using hz
    simp only [litCells, Nat.one_ne_zero, if_false] at hu
    have hj : j < 5 := by have := (List.getElem?_eq_some_iff.1 hu).1; simpa using this
    obtain rfl | rfl | rfl | rfl | rfl : j = 0 ∨ j = 1 ∨ j = 2 ∨ j = 3 ∨ j = 4 := by omega
    all_goals simpa using hu
/-- two literals in a row -/
theorem LitsAt.two {B : Nat} {w : World} {x y : Pl.Lit} {vx vy : Value} (hx : LitsAt B w x.items vx) (hy : LitsAt B w y.items vy) (hxw : Pl.LitW x) (hyw : Pl.LitW y) (hB : B ≤ w.heap.size) (T : TypeId) :
    LitsAt (w.heap.size + 1) (w.alloc (.cells #[.int .u8 x.kind, .int .i64 x.n, .int .u64 x.bits, .string x.text, vx, .int .u8 y.kind, .int .i64 y.n, .int .u64 y.bits, .string y.text, vy] T)) [x, y] (.slice (some ⟨w.heap.size, 0, none⟩) 2 2) := by
  have hb : ∀ o, Below w.heap.size w (w.alloc o) := fun o => (Below.refl _ _).alloc (Nat.le_refl _) _
  refine LitsAt.mk _ [x, y] 2 (fun i => if i = 0 then vx else vy) (fun _ a ha => by injection ha with ha; rw [← ha]; exact Nat.lt_succ_self _) (RowAt.two T) ?_ ?_
  · intro z hz
    simp only [List.mem_cons, List.not_mem_nil, or_false] at hz
    rcases hz with rfl | rfl
    · exact hxw
    · exact hyw
  · intro i z hz
    have hi : i < 2 := by have := (List.getElem?_eq_some_iff.1 hz).1; simpa using this
    obtain rfl | rfl : i = 0 ∨ i = 1 := by omega
    · obtain rfl : x = z := by simpa using hz
      exact (hx.keep ((hb _).mono hB)).up (by omega)
    · obtain rfl : y = z := by simpa using hz
      exact (hy.keep ((hb _).mono hB)).up (by omega)
end Go.Proofs.YtlodbibagmblkaaGreatDoor
