/- Plain: integers' digits, and the literal that they are. Plain functions of names and bytes, and the contracts of the small functions over them. Names: scan.run at inner, scan.Name, and the document's word, Name. -/
import Derived.Lib.AtoiAllCases
import Derived.Lib.ParseIntBTie
import GoSem.Op.String
import Derived.Test.YtoklnpoacckbfaaGreatDoorProg
import Derived.WalkKit
import Derived.WalkLawsBesides
import Derived.WalkSpells
import Derived.Lib.Hide
import Derived.Outline
namespace Go.Proofs.YtoklnpoacckbfaaGreatDoor
namespace Pl
def dig (c : UInt8) : Bool := decide (48 ≤ c.toNat) && decide (c.toNat ≤ 57)
def digs (l : List UInt8) : Bool := l.all dig
def valFrom (a : Nat) : List UInt8 → Nat
  | [] => a
  | c :: r => valFrom (10 * a + (c.toNat - 48)) r
def val (l : List UInt8) : Nat := valFrom 0 l
/-- without noughts ahead; of nothing but noughts one -/
def bare (l : List UInt8) : List UInt8 := if l.dropWhile (· == 48) = [] then l.take 1 else l.dropWhile (· == 48)
theorem dig_iff {c : UInt8} : dig c = true ↔ 48 ≤ c.toNat ∧ c.toNat ≤ 57 := by unfold dig; simp
theorem valFrom_eq (l : List UInt8) : ∀ a : Nat, valFrom a l = a * 10 ^ l.length + valFrom 0 l := by
  induction l with
  | nil =>
    intro a
    show a = a * 1 + 0
    omega
  | cons c r ih =>
    intro a
    show valFrom (10 * a + (c.toNat - 48)) r = a * 10 ^ (r.length + 1) + valFrom (10 * 0 + (c.toNat - 48)) r
    rw [ih (10 * a + (c.toNat - 48)), ih (10 * 0 + (c.toNat - 48)), Nat.pow_succ]
    generalize 10 ^ r.length = T
    generalize c.toNat - 48 = d
    rw [Nat.add_mul, Nat.add_mul, show 10 * a * T = a * (T * 10) by rw [Nat.mul_comm 10 a, Nat.mul_assoc, Nat.mul_comm 10]]
    omega
theorem val_lt : ∀ (l : List UInt8), digs l = true → val l < 10 ^ l.length
  | [], _ => by show 0 < 1; decide
  | c :: r, h => by
    unfold digs at h
    rw [List.all_cons, Bool.and_eq_true] at h
    have ih := val_lt r h.2
    have hc := dig_iff.1 h.1
    unfold val at ih ⊢
    unfold valFrom
    rw [valFrom_eq, List.length_cons, Nat.pow_succ]
    have h9 : (10 * 0 + (c.toNat - 48)) * 10 ^ r.length ≤ 9 * 10 ^ r.length := Nat.mul_le_mul_right _ (by omega)
    omega
theorem val_cons (c : UInt8) (r : List UInt8) : val (c :: r) = (c.toNat - 48) * 10 ^ r.length + val r := by
  unfold val
  conv => lhs; unfold valFrom
  rw [valFrom_eq]; simp
/-- equally many digits: the order of texts is that of numbers -/
theorem less_val : ∀ (x y : List UInt8), digs x = true → digs y = true → x.length = y.length → Op.bytesLess x y = decide (val x < val y)
  | [], [], _, _, _ => by show false = decide (0 < 0); rfl
  | a :: x, b :: y, hx, hy, hl => by
    unfold digs at hx hy
    rw [List.all_cons, Bool.and_eq_true] at hx hy
    have hl' : x.length = y.length := by simpa using hl
    have ih := less_val x y hx.2 hy.2 hl'
    have ha := dig_iff.1 hx.1
    have hb := dig_iff.1 hy.1
    have v1 := val_lt x hx.2
    have v2 := val_lt y hy.2
    unfold Op.bytesLess
    rw [ih, val_cons, val_cons, ← hl', Bool.eq_iff_iff]
    rw [← hl'] at v2
    simp only [Bool.or_eq_true, Bool.and_eq_true, decide_eq_true_eq, beq_iff_eq, UInt8.lt_iff_toNat_lt]
    generalize 10 ^ x.length = T at v1 v2 ⊢
    have hab : a = b ↔ a.toNat = b.toNat := ⟨fun h => by rw [h], fun h => UInt8.toNat_inj.1 h⟩
    rw [hab]
    constructor
    · rintro (h | ⟨h, h2⟩)
      · have : (a.toNat - 48 + 1) * T ≤ (b.toNat - 48) * T := Nat.mul_le_mul_right _ (by omega)
        rw [Nat.add_mul] at this; omega
      · rw [h]; omega
    · intro h
      rcases Nat.lt_trichotomy a.toNat b.toNat with h1 | h1 | h1
      · exact .inl h1
      · right; refine ⟨h1, ?_⟩; rw [h1] at h; omega
      · have : (b.toNat - 48 + 1) * T ≤ (a.toNat - 48) * T := Nat.mul_le_mul_right _ (by omega)
        rw [Nat.add_mul] at this; omega
/-- digits that are parsed -/
theorem parse_digs : ∀ (l : List UInt8) (a : Nat), digs l = true → (a + 1) * 10 ^ l.length ≤ 10 ^ 19 → Lib.parseUint10 a l = .ok (valFrom a l)
  | [], a, _, _ => rfl
  | c :: r, a, h, hb => by
    unfold digs at h
    rw [List.all_cons, Bool.and_eq_true] at h
    have hc := dig_iff.1 h.1
    rw [List.length_cons, Nat.pow_succ, ← Nat.mul_assoc] at hb
    have hp : 1 ≤ 10 ^ r.length := Nat.pow_pos (by decide)
    have hm : (a + 1) * 1 ≤ (a + 1) * 10 ^ r.length := Nat.mul_le_mul_left _ hp
    have h2 : (10 * a + (c.toNat - 48) + 1) * 10 ^ r.length ≤ (a + 1) * 10 ^ r.length * 10 := by
      rw [Nat.mul_assoc, Nat.mul_comm (10 ^ r.length) 10, ← Nat.mul_assoc]
      exact Nat.mul_le_mul_right _ (by omega)
    have ih := parse_digs r (10 * a + (c.toNat - 48)) h.2 (by omega)
    unfold Lib.parseUint10 valFrom
    rw [if_pos hc, if_neg (by omega), if_neg (by omega), Nat.mul_comm a 10]
    exact ih
theorem atoi_digs {l : List UInt8} (h0 : l ≠ []) (h : digs l = true) (hl : l.length ≤ 19) :
    Lib.parseIntB 64 l = if val l < 9223372036854775808 then .ok (val l : Int) else .range := by
  rw [Lib.parseIntB_64]
  cases l with
  | nil => exact absurd rfl h0
  | cons c r =>
    have h' := h
    unfold digs at h'
    rw [List.all_cons, Bool.and_eq_true] at h'
    have hc := dig_iff.1 h'.1
    rw [Lib.atoiAll_plain c r (by omega) (by omega)]
    unfold Lib.parseMag
    rw [if_neg (by simp)]
    have hp : (0 + 1) * 10 ^ (c :: r).length ≤ 10 ^ 19 := by rw [Nat.zero_add, Nat.one_mul]; exact Nat.pow_le_pow_right (by decide) hl
    rw [parse_digs (c :: r) 0 h hp]
    unfold Lib.signless val
    by_cases hv : valFrom 0 (c :: r) < 9223372036854775808
    · rw [if_pos hv]; simp only; rw [if_neg (by omega)]
    · rw [if_neg hv]; simp only; rw [if_pos (by omega)]
/-- an integer: none: too many digits, or no digits -/
inductive Num where
  | small (n : Int)
  | large (t : List UInt8)
  deriving DecidableEq
def top (minus : Bool) : Nat := if minus = true then 1152921504606846976 else 1152921504606846975
def whole (d : List UInt8) (minus : Bool) : Num :=
  if val d ≤ top minus then .small (if minus = true then -(val d : Int) else val d) else .large (if minus = true then 45 :: d else d)
def minus (l : List UInt8) : Bool := l.head? == some 45
def unsigned (l : List UInt8) : List UInt8 := if minus l = true then l.drop 1 else l
def integer (l : List UInt8) : Option Num :=
  if unsigned l = [] ∨ digs (unsigned l) = false ∨ 255 < (bare (unsigned l)).length then none else some (whole (bare (unsigned l)) (minus l))
/-- the text of a large integer's literal -/
def largeText (l : List UInt8) : Bool := decide (integer l = some (.large l))
/-! without noughts -/
theorem bare_val (l : List UInt8) : val (bare l) = val l := by
  have h : ∀ l : List UInt8, val (l.dropWhile (· == 48)) = val l := by
    intro l
    induction l with
    | nil => rfl
    | cons c r ih =>
      rw [List.dropWhile_cons]
      by_cases hc : c = 48
      · rw [if_pos (by simpa using hc), ih, val_cons, hc]; simp
      · rw [if_neg (by simpa using hc)]
  unfold bare
  split
  · next h0 =>
    have h1 := h l
    rw [h0] at h1
    have h2 : val l = 0 := h1.symm
    rw [h2]
    cases l with
    | nil => rfl
    | cons c r =>
      rw [List.dropWhile_cons] at h0
      by_cases hc : c = 48
      · subst hc; rfl
      · rw [if_neg (by simpa using hc)] at h0; cases h0
  · exact h l
theorem bare_digs {l : List UInt8} (h : digs l = true) : digs (bare l) = true := by
  unfold digs at h ⊢
  rw [List.all_eq_true] at h ⊢
  intro x hx
  unfold bare at hx
  split at hx
  · exact h x (List.mem_of_mem_take hx)
  · exact h x (List.dropWhile_sublist _ |>.mem hx)
theorem bare_nil {l : List UInt8} : bare l = [] ↔ l = [] := by
  unfold bare
  constructor
  · intro h
    split at h
    · cases l with
      | nil => rfl
      | cons c r => simp at h
    · next h0 => exact absurd h h0
  · intro h; subst h; rfl
theorem dropWhile_head {p : UInt8 → Bool} : ∀ {l : List UInt8} {c : UInt8} {r : List UInt8}, l.dropWhile p = c :: r → p c = false
  | [], _, _, h => by cases h
  | x :: l, c, r, h => by
    rw [List.dropWhile_cons] at h
    by_cases hx : p x = true
    · rw [if_pos hx] at h; exact dropWhile_head h
    · rw [if_neg hx] at h; injection h with h1 h2; subst h1; simpa using hx
theorem bare_form (l : List UInt8) : bare l = [] ∨ bare l = [48] ∨ ∃ c r, bare l = c :: r ∧ c ≠ 48 := by
  unfold bare
  split
  · next h =>
    cases l with
    | nil => exact .inl rfl
    | cons c r =>
      right; left
      rw [List.dropWhile_cons] at h
      by_cases hc : c = 48
      · subst hc; rfl
      · rw [if_neg (by simpa using hc)] at h; cases h
  · next h =>
    right; right
    cases e : l.dropWhile (· == 48) with
    | nil => exact absurd e h
    | cons c r => exact ⟨c, r, rfl, by simpa using dropWhile_head e⟩
/-- more digits, without noughts ahead, are a greater number -/
theorem val_ge {l : List UInt8} {c : UInt8} {r : List UInt8} (h : l = c :: r) (hc : c ≠ 48) (hd : digs l = true) : 10 ^ (l.length - 1) ≤ val l := by
  subst h
  unfold digs at hd
  rw [List.all_cons, Bool.and_eq_true] at hd
  have hc' := dig_iff.1 hd.1
  have : c.toNat ≠ 48 := fun h => hc (UInt8.toNat_inj.1 h)
  rw [val_cons]
  have h1 : 1 * 10 ^ r.length ≤ (c.toNat - 48) * 10 ^ r.length := Nat.mul_le_mul_right _ (by omega)
  simp only [List.length_cons, Nat.add_sub_cancel]
  omega
def d75 : List UInt8 := [49,49,53,50,57,50,49,53,48,52,54,48,54,56,52,54,57,55,53]
def d76 : List UInt8 := [49,49,53,50,57,50,49,53,48,52,54,48,54,56,52,54,57,55,54]
theorem val_75 : val d75 = 1152921504606846975 := by decide
theorem val_76 : val d76 = 1152921504606846976 := by decide
/-- the document's test -/
theorem longer_iff {b m : List UInt8} (hm : digs m = true) (hml : m.length = 19) (hmv : 1000000000000000000 ≤ val m) (hb : bare b = b) (hd : digs b = true) :
    (decide (19 < b.length) || decide (b.length = 19) && Op.bytesLess m b) = decide (val m < val b) := by
  have vm : val m < 10 ^ 19 := by have := val_lt m hm; rwa [hml] at this
  have vb := val_lt b hd
  by_cases h1 : 19 < b.length
  · have h2 : 10 ^ 19 ≤ 10 ^ (b.length - 1) := Nat.pow_le_pow_right (by decide) (by omega)
    rcases bare_form b with e | e | ⟨c, r, e, hc⟩
    · rw [hb] at e; rw [e] at h1; simp at h1
    · rw [hb] at e; rw [e] at h1; simp at h1
    · rw [hb] at e
      have h3 := val_ge e hc hd
      rw [show decide (19 < b.length) = true by simpa using h1, show decide (val m < val b) = true by simp; omega]; rfl
  · by_cases h2 : b.length = 19
    · rw [less_val m b hm hd (by omega), show decide (19 < b.length) = false by simpa using h1, show decide (b.length = 19) = true by simpa using h2]; rfl
    · have h3 : 10 ^ b.length ≤ 10 ^ 18 := Nat.pow_le_pow_right (by decide) (by omega)
      have h4 : val b < 1000000000000000000 := by omega
      rw [show decide (19 < b.length) = false by simpa using h1, show decide (b.length = 19) = false by simpa using h2, show decide (val m < val b) = false by simp; omega]; rfl
end Pl
end Go.Proofs.YtoklnpoacckbfaaGreatDoor
namespace Go.Proofs.YtoklnpoacckbfaaGreatDoor
open Go.RowKit
theorem ret_int {k : IntKind} {a b : Int} (h : a = b) : Ending.returned (.int k a) = .returned (.int k b) := by rw [h]
theorem ret_bool {a b : Bool} (h : a = b) : Ending.returned (.bool a) = .returned (.bool b) := by rw [h]
namespace Pl
def letter (c : Nat) : Bool := decide (97 ≤ c) && decide (c ≤ 122) || decide (65 ≤ c) && decide (c ≤ 90) || decide (c = 95)
def digit (c : Nat) : Bool := decide (48 ≤ c) && decide (c ≤ 57)
def inner (c : Nat) : Bool := letter c || digit c
end Pl
set_option maxHeartbeats 400000 in
theorem letter_any (c : Nat) (w : World) : Calls Tryz.prog 92 #[.int .u8 c] w fun e w' => e = .returned (.bool (Pl.letter c)) ∧ w = w' := by
  go_enter Tryz.func92, Tryz.ntmps92
  go_wp2
  all_goals (go_ret; exact ⟨ret_bool (by unfold Pl.letter; rw [Bool.eq_iff_iff]; simp; omega), rfl⟩)
set_option maxHeartbeats 400000 in
theorem digit_any (c : Nat) (w : World) : Calls Tryz.prog 126 #[.int .u8 c] w fun e w' => e = .returned (.bool (Pl.digit c)) ∧ w = w' := by
  go_enter Tryz.func126, Tryz.ntmps126
  go_wp2
  all_goals (go_ret; exact ⟨ret_bool (by unfold Pl.digit; rw [Bool.eq_iff_iff]; simp; omega), rfl⟩)
set_option maxHeartbeats 400000 in
theorem rletter_any (c : Nat) (w : World) : Calls Tryz.prog 102 #[.int .u8 c] w fun e w' => e = .returned (.bool (Pl.letter c)) ∧ w = w' := by
  go_enter Tryz.func102, Tryz.ntmps102
  go_wp2
  all_goals (go_ret; exact ⟨ret_bool (by unfold Pl.letter; rw [Bool.eq_iff_iff]; simp; omega), rfl⟩)
set_option maxHeartbeats 400000 in
theorem rdigit_any (c : Nat) (w : World) : Calls Tryz.prog 134 #[.int .u8 c] w fun e w' => e = .returned (.bool (Pl.digit c)) ∧ w = w' := by
  go_enter Tryz.func134, Tryz.ntmps134
  go_wp2
  all_goals (go_ret; exact ⟨ret_bool (by unfold Pl.digit; rw [Bool.eq_iff_iff]; simp; omega), rfl⟩)
set_option maxHeartbeats 400000 in
theorem inner_any (c : Nat) (w : World) : Calls Tryz.prog 94 #[.int .u8 c] w fun e w' => e = .returned (.bool (Pl.inner c)) ∧ w = w' := by
  go_enter Tryz.func94, Tryz.ntmps94
  go_wp2_with fail
  refine (letter_any c _).mono ?_
  rintro e w' ⟨rfl, rfl⟩
  cases h : Pl.letter c
  · have H := Lib.hid (show Pl.inner c = Pl.digit c by unfold Pl.inner; rw [h]; rfl)
    clear h
    go_wp2_with fail
    refine (digit_any c _).mono ?_
    rintro e w' ⟨rfl, rfl⟩
    go_wp2_with fail
    all_goals (go_ret; exact ⟨ret_bool (by rw [H.out]), rfl⟩)
  · have H := Lib.hid (show Pl.inner c = true by unfold Pl.inner; rw [h]; rfl)
    clear h
    go_wp2_with fail
    all_goals (go_ret; exact ⟨ret_bool (by rw [H.out]), rfl⟩)
set_option maxHeartbeats 400000 in
theorem rinner_any (c : Nat) (w : World) : Calls Tryz.prog 141 #[.int .u8 c] w fun e w' => e = .returned (.bool (Pl.inner c)) ∧ w = w' := by
  go_enter Tryz.func141, Tryz.ntmps141
  go_wp2_with fail
  refine (rletter_any c _).mono ?_
  rintro e w' ⟨rfl, rfl⟩
  cases h : Pl.letter c
  · have H := Lib.hid (show Pl.inner c = Pl.digit c by unfold Pl.inner; rw [h]; rfl)
    clear h
    go_wp2_with fail
    refine (rdigit_any c _).mono ?_
    rintro e w' ⟨rfl, rfl⟩
    go_wp2_with fail
    all_goals (go_ret; exact ⟨ret_bool (by rw [H.out]), rfl⟩)
  · have H := Lib.hid (show Pl.inner c = true by unfold Pl.inner; rw [h]; rfl)
    clear h
    go_wp2_with fail
    all_goals (go_ret; exact ⟨ret_bool (by rw [H.out]), rfl⟩)
end Go.Proofs.YtoklnpoacckbfaaGreatDoor
namespace Go.Proofs.YtoklnpoacckbfaaGreatDoor
open Go.RowKit
namespace Pl
def inn (c : UInt8) : Bool := inner c.toNat
def wordEnd (l : List UInt8) (k : Nat) : Nat := k + ((l.drop k).takeWhile inn).length
theorem wordEnd_go {l : List UInt8} {k : Nat} (h : k < l.length) (hi : inn l[k] = true) : wordEnd l k = wordEnd l (k + 1) := by
  unfold wordEnd
  rw [List.drop_eq_getElem_cons h, List.takeWhile_cons, if_pos hi, List.length_cons]; omega
theorem wordEnd_no {l : List UInt8} {k : Nat} (h : k < l.length) (hi : inn l[k] = false) : wordEnd l k = k := by
  unfold wordEnd
  rw [List.drop_eq_getElem_cons h, List.takeWhile_cons, if_neg (by rw [hi]; decide)]; rfl
theorem wordEnd_end {l : List UInt8} {k : Nat} (h : l.length ≤ k) : wordEnd l k = k := by
  unfold wordEnd
  rw [List.drop_of_length_le h]; rfl
theorem wordEnd_le (l : List UInt8) (k : Nat) (h : k ≤ l.length) : k ≤ wordEnd l k ∧ wordEnd l k ≤ l.length := by
  unfold wordEnd
  have h2 := List.IsPrefix.length_le (List.takeWhile_prefix (p := inn) (l := l.drop k))
  rw [List.length_drop] at h2; omega
def first (l : List UInt8) : Bool := match l with
  | [] => false
  | c :: _ => letter c.toNat
def name (l : List UInt8) : Bool := !l.isEmpty && (decide (l.length ≤ 40) && (first l && decide (wordEnd l 0 = l.length)))
end Pl
set_option maxHeartbeats 400000 in
theorem runInner_any (s : ByteArray) (k : Nat) (w : World) (hs : s.size ≤ 9223372036854775806) (hk : k ≤ s.size) :
    Calls Tryz.prog 93 #[.string s, .int .i64 k, .func (.func 94) #[] #[]] w fun e w' => e = .returned (.int .i64 (Pl.wordEnd s.data.toList k : Nat)) ∧ w = w' := by
  have ls : s.data.toList.length = s.size := by simp
  have LS := Lib.hid ls
  clear ls
  go_enter Tryz.func93, Tryz.ntmps93
  go_wp2_with fail
  go_loop [1] (fun i => ∃ j : Nat, j ≤ s.size ∧ i = .int .i64 j ∧ Pl.wordEnd s.data.toList k = Pl.wordEnd s.data.toList j) (fun i => s.size - (intOf i).toNat)
  case atStart => exact ⟨k, hk, rfl, rfl⟩
  case round =>
    obtain ⟨j, hj, rfl, he⟩ := hrel
    have HE := Lib.hid he
    clear he
    by_cases hlt : j < s.size
    · have hl : j < s.data.toList.length := by rw [LS.out]; exact hlt
      go_wp2_with fail
      refine (inner_any s[j].toNat _).mono ?_
      rintro e w' ⟨rfl, rfl⟩
      cases hi : Pl.inner s[j].toNat
      · have HF := Lib.hid (Pl.wordEnd_no hl hi)
        clear hi
        go_wp2_with fail
        go_ret
        exact ⟨ret_int (by rw [HE.out, HF.out]), rfl⟩
      · have HF := Lib.hid (Pl.wordEnd_go hl hi)
        clear hi
        go_wp2_with fail
        go_round
        case rel => exact ⟨j + 1, by omega, by go_num, by rw [HE.out, HF.out]⟩
        case measure => simp [intOf]; omega
    · have HF := Lib.hid (Pl.wordEnd_end (l := s.data.toList) (k := j) (by rw [LS.out]; omega))
      go_wp2_with fail
      go_ret
      exact ⟨ret_int (by rw [HE.out, HF.out]), rfl⟩
set_option maxHeartbeats 400000 in
theorem word_any (s : ByteArray) (k : Nat) (w : World) (hs : s.size ≤ 9223372036854775806) (hk : k ≤ s.size) :
    Calls Tryz.prog 103 #[.string s, .int .i64 k] w fun e w' => e = .returned (.int .i64 (Pl.wordEnd s.data.toList k : Nat)) ∧ w = w' := by
  have ls : s.data.toList.length = s.size := by simp
  have LS := Lib.hid ls
  clear ls
  go_enter Tryz.func103, Tryz.ntmps103
  go_wp2_with fail
  go_loop [1] (fun i => ∃ j : Nat, j ≤ s.size ∧ i = .int .i64 j ∧ Pl.wordEnd s.data.toList k = Pl.wordEnd s.data.toList j) (fun i => s.size - (intOf i).toNat)
  case atStart => exact ⟨k, hk, rfl, rfl⟩
  case round =>
    obtain ⟨j, hj, rfl, he⟩ := hrel
    have HE := Lib.hid he
    clear he
    by_cases hlt : j < s.size
    · have hl : j < s.data.toList.length := by rw [LS.out]; exact hlt
      go_wp2_with fail
      refine (rinner_any s[j].toNat _).mono ?_
      rintro e w' ⟨rfl, rfl⟩
      cases hi : Pl.inner s[j].toNat
      · have HF := Lib.hid (Pl.wordEnd_no hl hi)
        clear hi
        go_wp2_with fail
        go_ret
        exact ⟨ret_int (by rw [HE.out, HF.out]), rfl⟩
      · have HF := Lib.hid (Pl.wordEnd_go hl hi)
        clear hi
        go_wp2_with fail
        go_round
        case rel => exact ⟨j + 1, by omega, by go_num, by rw [HE.out, HF.out]⟩
        case measure => simp [intOf]; omega
    · have HF := Lib.hid (Pl.wordEnd_end (l := s.data.toList) (k := j) (by rw [LS.out]; omega))
      go_wp2_with fail
      go_ret
      exact ⟨ret_int (by rw [HE.out, HF.out]), rfl⟩
theorem Pl.name_nil : Pl.name [] = false := rfl
theorem Pl.name_long {l : List UInt8} (h : 40 < l.length) : Pl.name l = false := by
  unfold Pl.name; rw [show decide (l.length ≤ 40) = false by simp; omega]; simp
theorem Pl.first_at {l : List UInt8} (h : 0 < l.length) : Pl.first l = Pl.letter (l[0]).toNat := by
  cases l with
  | nil => simp at h
  | cons c r => rfl
theorem Pl.name_at {l : List UInt8} (h : 0 < l.length) (h40 : l.length ≤ 40) : Pl.name l = (Pl.letter (l[0]).toNat && decide (Pl.wordEnd l 0 = l.length)) := by
  unfold Pl.name
  rw [Pl.first_at h, show decide (l.length ≤ 40) = true by simpa using h40, show l.isEmpty = false by cases l <;> simp at h ⊢]
  rfl
theorem notempty (s : ByteArray) (h : 0 < s.size) : s.toList.isEmpty = false := by
  have e : s.toList = s.data.toList := ByteArray.toList_eq s
  rw [e]
  have : s.data.toList.length = s.size := by simp
  cases hd : s.data.toList with
  | nil => rw [hd] at this; simp at this; omega
  | cons _ _ => rfl
set_option maxHeartbeats 1000000 in
theorem name_any (s : ByteArray) (w : World) (hs : s.size ≤ 9223372036854775806) :
    Calls Tryz.prog 59 #[.string s] w fun e w' => e = .returned (.bool (Pl.name s.data.toList)) ∧ w = w' := by
  have ls : s.data.toList.length = s.size := by simp
  by_cases h0 : s.size = 0
  · have hnil : s.data.toList = [] := List.eq_nil_of_length_eq_zero (by omega)
    obtain rfl : s = ⟨#[]⟩ := by cases s with | mk d => congr 1; simpa using hnil
    have HF := Lib.hid (show Pl.name (⟨#[]⟩ : ByteArray).data.toList = false from rfl)
    clear ls h0 hnil
    go_enter Tryz.func59, Tryz.ntmps59
    go_wp2_with fail
    go_ret
    exact ⟨ret_bool (by rw [HF.out]), rfl⟩
  have hp : 0 < s.size := by omega
  have he : s.toList.isEmpty = false := notempty s hp
  by_cases h40 : 40 < s.size
  · have HF := Lib.hid (Pl.name_long (l := s.data.toList) (by omega))
    clear ls h0
    go_enter Tryz.func59, Tryz.ntmps59
    go_wp2_with fail
    go_ret
    exact ⟨ret_bool (by rw [HF.out]), rfl⟩
  have hF : Pl.name s.data.toList = (Pl.letter s[0].toNat && decide (Pl.wordEnd s.data.toList 0 = s.size)) := by
    have h := Pl.name_at (l := s.data.toList) (by omega) (by omega)
    rw [h]; show (Pl.letter s[0].toNat && decide (Pl.wordEnd s.data.toList 0 = s.data.toList.length)) = _; rw [ls]
  have HF := Lib.hid hF
  have h40' : (s.size : Int) ≤ 40 := by omega
  have hz : (0 : Int) < (s.size : Int) := by omega
  clear ls h0 hF
  go_enter Tryz.func59, Tryz.ntmps59
  go_wp2_with fail
  refine (letter_any s[0].toNat _).mono ?_
  rintro e w' ⟨rfl, rfl⟩
  cases hl : Pl.letter s[0].toNat
  · have HG := Lib.hid (show Pl.name s.data.toList = false by rw [HF.out, hl]; rfl)
    clear hl
    go_wp2_with fail
    go_ret
    exact ⟨ret_bool (by rw [HG.out]), rfl⟩
  · have HG := Lib.hid (show Pl.name s.data.toList = decide (Pl.wordEnd s.data.toList 0 = s.size) by rw [HF.out, hl]; rfl)
    clear hl
    go_wp2_with fail
    refine (runInner_any s 0 _ hs (by omega)).mono ?_
    rintro e w' ⟨rfl, rfl⟩
    go_wp2_with fail
    all_goals (go_ret; exact ⟨ret_bool (by rw [HG.out, Bool.eq_iff_iff]; simp; omega), rfl⟩)
set_option maxHeartbeats 1000000 in
theorem rname_any (s : ByteArray) (w : World) (hs : s.size ≤ 9223372036854775806) :
    Calls Tryz.prog 67 #[.string s] w fun e w' => e = .returned (.bool (Pl.name s.data.toList)) ∧ w = w' := by
  have ls : s.data.toList.length = s.size := by simp
  by_cases h0 : s.size = 0
  · have hnil : s.data.toList = [] := List.eq_nil_of_length_eq_zero (by omega)
    obtain rfl : s = ⟨#[]⟩ := by cases s with | mk d => congr 1; simpa using hnil
    have HF := Lib.hid (show Pl.name (⟨#[]⟩ : ByteArray).data.toList = false from rfl)
    clear ls h0 hnil
    go_enter Tryz.func67, Tryz.ntmps67
    go_wp2_with fail
    go_ret
    exact ⟨ret_bool (by rw [HF.out]), rfl⟩
  have hp : 0 < s.size := by omega
  have he : s.toList.isEmpty = false := notempty s hp
  by_cases h40 : 40 < s.size
  · have HF := Lib.hid (Pl.name_long (l := s.data.toList) (by omega))
    clear ls h0
    go_enter Tryz.func67, Tryz.ntmps67
    go_wp2_with fail
    go_ret
    exact ⟨ret_bool (by rw [HF.out]), rfl⟩
  have hF : Pl.name s.data.toList = (Pl.letter s[0].toNat && decide (Pl.wordEnd s.data.toList 0 = s.size)) := by
    have h := Pl.name_at (l := s.data.toList) (by omega) (by omega)
    rw [h]; show (Pl.letter s[0].toNat && decide (Pl.wordEnd s.data.toList 0 = s.data.toList.length)) = _; rw [ls]
  have HF := Lib.hid hF
  have h40' : (s.size : Int) ≤ 40 := by omega
  have hz : (0 : Int) < (s.size : Int) := by omega
  clear ls h0 hF
  go_enter Tryz.func67, Tryz.ntmps67
  go_wp2_with fail
  refine (rletter_any s[0].toNat _).mono ?_
  rintro e w' ⟨rfl, rfl⟩
  cases hl : Pl.letter s[0].toNat
  · have HG := Lib.hid (show Pl.name s.data.toList = false by rw [HF.out, hl]; rfl)
    clear hl
    go_wp2_with fail
    go_ret
    exact ⟨ret_bool (by rw [HG.out]), rfl⟩
  · have HG := Lib.hid (show Pl.name s.data.toList = decide (Pl.wordEnd s.data.toList 0 = s.size) by rw [HF.out, hl]; rfl)
    clear hl
    go_wp2_with fail
    refine (word_any s 0 _ hs (by omega)).mono ?_
    rintro e w' ⟨rfl, rfl⟩
    go_wp2_with fail
    all_goals (go_ret; exact ⟨ret_bool (by rw [HG.out, Bool.eq_iff_iff]; simp; omega), rfl⟩)
end Go.Proofs.YtoklnpoacckbfaaGreatDoor
