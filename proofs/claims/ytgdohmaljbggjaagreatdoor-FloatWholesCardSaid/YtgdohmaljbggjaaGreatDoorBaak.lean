/- The form of a float's text: the contracts of digits and formed. Plain facts on the reading of a float's digits. The reading of a float's digits: the contract of readFloat. A large number as words: the contract of of. Words shifted to the left: the contract of left. Words shifted to the left: the contract of left. -/
import Derived.Test.YtgdohmaljbggjaaGreatDoorBaaj
import Derived.WalkMore
import Derived.Deep.LoopGhost
import Derived.RegionTactic
import Derived.ChangeAlike
namespace Go.Proofs.YtgdohmaljbggjaaGreatDoor
open Go.RowKit Go.Lib
namespace Pl
def tens : List UInt8 := [48, 49, 50, 51, 52, 53, 54, 55, 56, 57]
/-- What stands behind the digits that a text begins with; how many these are. -/
def rest (l : List UInt8) : List UInt8 := Lib.trimLeftS l tens
def ndig (l : List UInt8) : Nat := l.length - (rest l).length
theorem rest_len (l : List UInt8) : (rest l).length ≤ l.length := (List.dropWhile_suffix _).length_le
theorem drop_ndig (l : List UInt8) : l.drop (ndig l) = rest l := by
  obtain ⟨t, ht⟩ := List.dropWhile_suffix (fun x => tens.contains x) (l := l)
  have e : t ++ rest l = l := ht
  unfold ndig
  have : l.length - (rest l).length = t.length := by have := congrArg List.length e; simp at this; omega
  rw [this]
  conv => lhs; rw [← e]
  simp
def formed (l : List UInt8) : Bool :=
  if 400 < l.length then false else
  if ndig (Lib.trimPrefix l [45]) = 0 ∨ Lib.hasPrefix (rest (Lib.trimPrefix l [45])) [46] = false ∨ ndig (Lib.trimPrefix (rest (Lib.trimPrefix l [45])) [46]) = 0 then false else
  if (rest (Lib.trimPrefix (rest (Lib.trimPrefix l [45])) [46])).isEmpty then true else
  Lib.hasPrefix (rest (Lib.trimPrefix (rest (Lib.trimPrefix l [45])) [46])) [101] && !(Lib.trimPrefix (Lib.trimPrefix (rest (Lib.trimPrefix (rest (Lib.trimPrefix l [45])) [46])) [101]) [45]).isEmpty && ndig (Lib.trimPrefix (Lib.trimPrefix (rest (Lib.trimPrefix (rest (Lib.trimPrefix l [45])) [46])) [101]) [45]) == (Lib.trimPrefix (Lib.trimPrefix (rest (Lib.trimPrefix (rest (Lib.trimPrefix l [45])) [46])) [101]) [45]).length
end Pl
theorem digits_any (l : List UInt8) (w : World) (hl : l.length ≤ 400) :
    Calls Tryz.prog 85 #[.string (bs l)] w fun e w' => e = .returned (.int .i64 (Pl.ndig l)) ∧ Below w.heap.size w w' := by
  have hsz : (bs l).size = l.length := rfl
  have HT := Lib.hid (show ∀ w, Calls Tryz.prog 127 #[.string (bs l), .string (bs Pl.tens)] w fun e w' => e = .returned (.string (bs (Pl.rest l))) ∧ Below w.heap.size w w' from fun w => by
    refine Tryz.strings_TrimLeft (bs l) (bs Pl.tens) w (by decide) ?_
    intro j b hb
    have key : ∀ b ∈ Pl.tens, b.toNat < 128 := by decide
    exact key b (List.mem_of_getElem? hb))
  have hrs : (bs (Pl.rest l)).size = (Pl.rest l).length := rfl
  have hr := Pl.rest_len l
  have HN := Lib.hid (show ((Pl.ndig l : Nat) : Int) = (l.length : Int) - (Pl.rest l).length by unfold Pl.ndig; omega)
  generalize bs l = s at hsz HT ⊢
  generalize bs (Pl.rest l) = t at hrs HT ⊢
  go_enter Tryz.func85, Tryz.ntmps85
  go_wp2_with fail
  refine (HT.out _).mono ?_
  rintro e w' ⟨rfl, hB⟩
  go_wp2_with fail
  go_ret
  exact ⟨ret_int (by rw [HN.out]), hB⟩
theorem cutP (l p : List UInt8) (w : World) : Calls Tryz.prog 50 #[.string (bs l), .string (bs p)] w fun e w' => e = .returned (.tuple #[.string (bs (Lib.trimPrefix l p)), .bool (Lib.hasPrefix l p)]) ∧ w' = w := Tryz.strings_CutPrefix (bs l) (bs p) w
theorem trimP (l p : List UInt8) (w : World) : Calls Tryz.prog 84 #[.string (bs l), .string (bs p)] w fun e w' => e = .returned (.string (bs (Lib.trimPrefix l p))) ∧ w' = w := Tryz.strings_TrimPrefix (bs l) (bs p) w
theorem trimPrefix_len (l p : List UInt8) : (Lib.trimPrefix l p).length ≤ l.length := by unfold Lib.trimPrefix; split <;> simp
theorem bs_rest (l : List UInt8) : (bs l).extract (Pl.ndig l) l.length = bs (Pl.rest l) := by
  rw [bs_extract, Pl.drop_ndig, List.take_of_length_le (by rw [← Pl.drop_ndig]; simp)]
theorem bs_empty (l : List UInt8) : (bs l).toList.isEmpty = l.isEmpty := by rw [Lib.toList_data]
def FormedOk (b : Bool) (w : World) (e : Ending) (w' : World) : Prop := e = .returned (.bool b) ∧ Below w.heap.size w w'
set_option maxHeartbeats 2000000 in
theorem formed_any (l : List UInt8) (w : World) (hbig : l.length ≤ 1000000) :
    Calls Tryz.prog 43 #[.string (bs l)] w (FormedOk (Pl.formed l) w) := by
  have hsz : (bs l).size = l.length := rfl
  by_cases c1 : 400 < l.length
  · have HR := Lib.hid (show Pl.formed l = false by unfold Pl.formed; rw [if_pos c1])
    generalize bs l = S0 at *
    go_enter Tryz.func43, Tryz.ntmps43
    go_wp2_with fail
    go_ret
    exact ⟨ret_bool (by rw [HR.out]), Below.refl _ _⟩
  · have c1' : l.length ≤ 400 := by omega
    have HT1 := Lib.hid (trimP l [45])
    obtain ⟨s1, hs1⟩ : ∃ s1, Lib.trimPrefix l [45] = s1 := ⟨_, rfl⟩
    have l1 : s1.length ≤ 400 := by rw [← hs1]; exact Nat.le_trans (trimPrefix_len l [45]) c1'
    rw [hs1] at HT1
    have HD1 := Lib.hid (fun w => digits_any s1 w l1)
    have e1 := Lib.hid (bs_rest s1)
    have z1 : (bs s1).size = s1.length := rfl
    have n1 : Pl.ndig s1 ≤ s1.length := by unfold Pl.ndig; omega
    obtain ⟨t1, ht1⟩ : ∃ t1, Pl.rest s1 = t1 := ⟨_, rfl⟩
    rw [ht1] at e1
    have HC1 := Lib.hid (cutP t1 [46])
    obtain ⟨r, hr⟩ : ∃ r, Lib.trimPrefix t1 [46] = r := ⟨_, rfl⟩
    obtain ⟨pt, hpt⟩ : ∃ pt, Lib.hasPrefix t1 [46] = pt := ⟨_, rfl⟩
    rw [hr, hpt] at HC1
    have l2 : r.length ≤ 400 := by
      rw [← hr]; refine Nat.le_trans (trimPrefix_len t1 [46]) ?_
      rw [← ht1]; exact Nat.le_trans (Pl.rest_len _) l1
    have HD2 := Lib.hid (fun w => digits_any r w l2)
    have e2 := Lib.hid (bs_rest r)
    have z2 : (bs r).size = r.length := rfl
    have n2 : Pl.ndig r ≤ r.length := by unfold Pl.ndig; omega
    obtain ⟨r2, hr2⟩ : ∃ r2, Pl.rest r = r2 := ⟨_, rfl⟩
    rw [hr2] at e2
    have HC2 := Lib.hid (cutP r2 [101])
    obtain ⟨is, his⟩ : ∃ is, Lib.hasPrefix r2 [101] = is := ⟨_, rfl⟩
    obtain ⟨q, hq⟩ : ∃ q, Lib.trimPrefix r2 [101] = q := ⟨_, rfl⟩
    rw [his, hq] at HC2
    have HT2 := Lib.hid (trimP q [45])
    obtain ⟨pw, hpw⟩ : ∃ pw, Lib.trimPrefix q [45] = pw := ⟨_, rfl⟩
    rw [hpw] at HT2
    have l3 : pw.length ≤ 400 := by
      rw [← hpw, ← hq, ← hr2]
      exact Nat.le_trans (trimPrefix_len _ _) (Nat.le_trans (trimPrefix_len _ _) (Nat.le_trans (Pl.rest_len _) l2))
    have HD3 := Lib.hid (fun w => digits_any pw w l3)
    have z3 : (bs pw).size = pw.length := rfl
    have HR := Lib.hid (show Pl.formed l = if Pl.ndig s1 = 0 ∨ pt = false ∨ Pl.ndig r = 0 then false else if r2.isEmpty then true else (is && !pw.isEmpty && Pl.ndig pw == pw.length) by
      unfold Pl.formed
      rw [if_neg c1]
      simp only [hs1, ht1, hr, hpt, hr2, his, hq, hpw])
    have b2 := bs_empty r2
    have b3 := bs_empty pw
    clear hs1 ht1 hr hpt hr2 his hq hpw c1
    generalize bs l = S0 at *
    generalize bs s1 = S1 at *
    generalize bs t1 = T1 at *
    generalize bs r = R1 at *
    generalize bs r2 = R2 at *
    generalize bs q = Q1 at *
    generalize bs pw = W1 at *
    generalize Pl.ndig s1 = n at *
    generalize Pl.ndig r = k at *
    generalize Pl.ndig pw = j at *
    go_enter Tryz.func43, Tryz.ntmps43
    go_wp2_with fail
    refine (HT1.out _).mono ?_
    rintro e w' ⟨rfl, rfl⟩
    go_wp2_with fail
    refine (HD1.out _).mono ?_
    rintro e w1 ⟨rfl, hB1⟩
    have e1' := e1.out
    have e2' := e2.out
    go_wp2_with fail
    refine (HC1.out _).mono ?_
    rintro e w' ⟨rfl, rfl⟩
    go_wp2_with fail
    refine (HD2.out _).mono ?_
    rintro e w2 ⟨rfl, hB2⟩
    have hB := hB1.trans (hB2.mono hB1.size)
    clear hB1 hB2
    by_cases hn0 : n = 0
    · have hb : ((n : Int) == 0) = true := by rw [beq_iff_eq]; omega
      have HQ := Lib.hid (show Pl.formed l = false by rw [HR.out, if_pos (.inl hn0)])
      clear hn0 HR
      go_wp2_with fail
      go_ret
      exact ⟨ret_bool (by rw [HQ.out]), hB⟩
    have hb : ((n : Int) == 0) = false := by rw [beq_eq_false_iff_ne]; omega
    cases pt
    · have HQ := Lib.hid (show Pl.formed l = false by rw [HR.out, if_pos (.inr (.inl rfl))])
      clear hn0 HR
      go_wp2_with fail
      go_ret
      exact ⟨ret_bool (by rw [HQ.out]), hB⟩
    by_cases hk0 : k = 0
    · have hb2 : ((k : Int) == 0) = true := by rw [beq_iff_eq]; omega
      have HQ := Lib.hid (show Pl.formed l = false by rw [HR.out, if_pos (.inr (.inr hk0))])
      clear hn0 hk0 HR
      go_wp2_with fail
      go_ret
      exact ⟨ret_bool (by rw [HQ.out]), hB⟩
    have hb2 : ((k : Int) == 0) = false := by rw [beq_eq_false_iff_ne]; omega
    have HR2 := Lib.hid (show Pl.formed l = if r2.isEmpty then true else (is && !pw.isEmpty && j == pw.length) by rw [HR.out, if_neg (by simp [hn0, hk0])])
    clear HR hn0 hk0
    cases he2 : r2.isEmpty
    · rw [he2] at b2 HR2
      go_wp2_with fail
      refine (HC2.out _).mono ?_
      rintro e w' ⟨rfl, rfl⟩
      go_wp2_with fail
      refine (HT2.out _).mono ?_
      rintro e w' ⟨rfl, rfl⟩
      cases is
      · have HQ := Lib.hid (show Pl.formed l = false by rw [HR2.out]; simp)
        clear HR2
        go_wp2_with fail
        go_ret
        exact ⟨ret_bool (by rw [HQ.out]), hB⟩
      cases he3 : pw.isEmpty
      · rw [he3] at b3 HR2
        go_wp2_with fail
        refine (HD3.out _).mono ?_
        rintro e w3 ⟨rfl, hB3⟩
        have HQ := Lib.hid (show Pl.formed l = ((j : Int) == (pw.length : Int)) by
          rw [HR2.out, Bool.eq_iff_iff]; simp; omega)
        clear HR2
        go_wp2_with fail
        go_ret
        exact ⟨ret_bool (by rw [HQ.out]), hB.trans (hB3.mono hB.size)⟩
      · rw [he3] at b3 HR2
        have HQ := Lib.hid (show Pl.formed l = false by rw [HR2.out]; simp)
        clear HR2
        go_wp2_with fail
        go_ret
        exact ⟨ret_bool (by rw [HQ.out]), hB⟩
    · rw [he2] at b2 HR2
      have HQ := Lib.hid (show Pl.formed l = true by rw [HR2.out]; simp)
      clear HR2
      go_wp2_with fail
      go_ret
      exact ⟨ret_bool (by rw [HQ.out]), hB⟩
end Go.Proofs.YtgdohmaljbggjaaGreatDoor
namespace Go.Proofs.YtgdohmaljbggjaaGreatDoor
namespace Pl
/-- What has been read of a text's digits: the number, how many digits, how many of these are in the number, where the point stands, whether a point, a digit was seen, whether something was left out. -/
structure St where
  m : Nat
  nd : Nat
  nm : Nat
  dp : Int
  dot : Bool
  dig : Bool
  tr : Bool
def St.zero : St := ⟨0, 0, 0, 0, false, false, false⟩
def step (s : St) (c : UInt8) : St :=
  if c = 46 then ⟨s.m, s.nd, s.nm, s.nd, true, s.dig, s.tr⟩
  else if c = 48 ∧ s.nd = 0 then ⟨s.m, s.nd, s.nm, s.dp - 1, s.dot, true, s.tr⟩
  else if s.nm < 19 then ⟨s.m * 10 + (c.toNat - 48), s.nd + 1, s.nm + 1, s.dp, s.dot, true, s.tr⟩
  else ⟨s.m, s.nd + 1, s.nm, s.dp, s.dot, true, s.tr || decide (c ≠ 48)⟩
def digit (c : UInt8) : Prop := 48 ≤ c.toNat ∧ c.toNat ≤ 57
def run (l : List UInt8) : St := l.foldl step St.zero
theorem run_snoc (l : List UInt8) (c : UInt8) : run (l ++ [c]) = step (run l) c := by simp [run]
structure St.Ok (s : St) (k : Nat) : Prop where
  m : s.m < 10 ^ s.nm
  nm : s.nm ≤ 19
  nd : s.nd ≤ k
  lo : -(k : Int) ≤ s.dp
  up : s.dp ≤ k
theorem step_ok {s : St} {k : Nat} {c : UInt8} (h : s.Ok k) (hc : c = 46 ∨ digit c) : (step s c).Ok (k + 1) := by
  have h1 := h.m; have h2 := h.nm; have h3 := h.nd; have h4 := h.lo; have h5 := h.up
  unfold step
  split
  · exact ⟨h1, h2, by simp only; omega, by simp only; omega, by simp only; omega⟩
  · split
    · exact ⟨h1, h2, by simp only; omega, by simp only; omega, by simp only; omega⟩
    · split
      · rename_i h46 _ _
        have hd : digit c := by rcases hc with e | e; exact absurd e h46; exact e
        refine ⟨?_, by simp only; omega, by simp only; omega, by simp only; omega, by simp only; omega⟩
        simp only
        have := hd.2
        rw [Nat.pow_succ]; omega
      · exact ⟨h1, h2, by simp only; omega, by simp only; omega, by simp only; omega⟩
theorem fold_ok : ∀ (l : List UInt8) (s : St) (k : Nat), s.Ok k → (∀ c ∈ l, c = 46 ∨ digit c) → (l.foldl step s).Ok (k + l.length)
  | [], s, k, h, _ => h
  | c :: l, s, k, h, hl => by
    rw [List.foldl_cons, List.length_cons, show k + (l.length + 1) = k + 1 + l.length by omega]
    exact fold_ok l _ _ (step_ok h (hl c (by simp))) (fun x hx => hl x (by simp [hx]))
theorem run_ok (l : List UInt8) (h : ∀ c ∈ l, c = 46 ∨ digit c) : (run l).Ok l.length := by
  have := fold_ok l St.zero 0 ⟨by decide, by decide, by decide, by decide, by decide⟩ h
  rwa [Nat.zero_add] at this
/-- A power's digits. -/
def estep (e : Nat) (c : UInt8) : Nat := if e < 10000 then e * 10 + (c.toNat - 48) else e
def erun (l : List UInt8) : Nat := l.foldl estep 0
theorem erun_snoc (l : List UInt8) (c : UInt8) : erun (l ++ [c]) = estep (erun l) c := by simp [erun]
theorem efold_le : ∀ (l : List UInt8) (e : Nat), e ≤ 100000 → (∀ c ∈ l, digit c) → l.foldl estep e ≤ 100000
  | [], e, h, _ => h
  | c :: l, e, h, hl => by
    rw [List.foldl_cons]
    refine efold_le l _ ?_ (fun x hx => hl x (by simp [hx]))
    have h2 := hl c (by simp)
    unfold estep digit at *
    split <;> omega
theorem erun_le (l : List UInt8) (h : ∀ c ∈ l, digit c) : erun l ≤ 100000 := efold_le l 0 (by decide) h
end Pl
end Go.Proofs.YtgdohmaljbggjaaGreatDoor
namespace Go.Proofs.YtgdohmaljbggjaaGreatDoor
open Go.RowKit Go.Lib
/-- The bytes of a text at a place. -/
def At (s : ByteArray) (i : Nat) (l : List UInt8) : Prop := ∀ (k : Nat) (h : k < l.length) (h2 : i + k < s.size), s[i + k] = l[k]
theorem At.get {s : ByteArray} {i : Nat} {l : List UInt8} (h : At s i l) {k p : Nat} (hk : k < l.length) (hq : p < s.size) (hp : p = i + k) : s[p]'hq = l[k] := by
  subst hp; exact h k hk hq
def MantOk (M : List UInt8) : Prop := (∀ c ∈ M, c = 46 ∨ Pl.digit c) ∧ ∀ k (h : k < M.length), M[k] = 46 → (Pl.run (M.take k)).dot = false
def Pl.expOf (s : Pl.St) (e : Int) : Int := if s.m = 0 then 0 else s.dp + e - s.nm
/-- What a text of digits with a point, and a power, is read as. -/
def rfOk (s : Pl.St) (e : Int) (neg : Bool) (n : Nat) (w : World) (en : Ending) (w' : World) : Prop :=
  en = .returned (.tuple #[.int .u64 s.m, .int .i64 (Pl.expOf s e), .bool neg, .bool s.tr, .bool false, .int .i64 n, .bool true]) ∧ w' = w
theorem int_eq {k : IntKind} {a b : Int} (h : a = b) : Value.int k a = Value.int k b := by rw [h]
theorem Pl.step_zero {c : UInt8} {m nd nm : Nat} {dp : Int} {dot dig tr : Bool} (h1 : c.toNat = 48) (h2 : nd = 0) : Pl.step ⟨m, nd, nm, dp, dot, dig, tr⟩ c = ⟨m, nd, nm, dp - 1, dot, true, tr⟩ := by
  have hc : c = 48 := UInt8.toNat_inj.1 h1
  subst hc h2
  rfl
theorem Pl.step_in {c : UInt8} {m nd nm : Nat} {dp : Int} {dot dig tr : Bool} (h0 : 48 ≤ c.toNat) (h1 : ¬ (c.toNat = 48 ∧ nd = 0)) (h2 : nm < 19) : Pl.step ⟨m, nd, nm, dp, dot, dig, tr⟩ c = ⟨m * 10 + (c.toNat - 48), nd + 1, nm + 1, dp, dot, true, tr⟩ := by
  unfold Pl.step
  rw [if_neg (by intro e; subst e; revert h0; decide), if_neg (by rintro ⟨rfl, h⟩; exact h1 ⟨rfl, h⟩), if_pos h2]
theorem Pl.step_out {c : UInt8} {m nd nm : Nat} {dp : Int} {dot dig tr : Bool} (h0 : 48 ≤ c.toNat) (h1 : ¬ (c.toNat = 48 ∧ nd = 0)) (h2 : ¬ nm < 19) : Pl.step ⟨m, nd, nm, dp, dot, dig, tr⟩ c = ⟨m, nd + 1, nm, dp, dot, true, if c.toNat = 48 then tr else true⟩ := by
  unfold Pl.step
  rw [if_neg (by intro e; subst e; revert h0; decide), if_neg (by rintro ⟨rfl, h⟩; exact h1 ⟨rfl, h⟩), if_neg h2]
  congr 1
  by_cases h : c.toNat = 48
  · have hc : c = 48 := UInt8.toNat_inj.1 h
    subst hc; simp
  · rw [if_neg h, decide_eq_true (by intro e; subst e; exact h rfl)]; simp
theorem low_x_fin : ∀ n : Fin 58, (n.val = 46 ∨ 48 ≤ n.val) → (bits .or .u8 (n.val : Int) 32 == 120) = false := by decide +kernel
theorem low_x {c : UInt8} (h : c = 46 ∨ Pl.digit c) : (bits .or .u8 (c.toNat : Int) 32 == 120) = false := by
  have hn : c.toNat = 46 ∨ (48 ≤ c.toNat ∧ c.toNat ≤ 57) := by
    rcases h with e | e
    · left; rw [e]; rfl
    · right; exact e
  exact low_x_fin ⟨c.toNat, by omega⟩ (by simp only; omega)
end Go.Proofs.YtgdohmaljbggjaaGreatDoor
namespace Go.Proofs.YtgdohmaljbggjaaGreatDoor
open Go.RowKit Go.Lib
namespace Pl
def le : List UInt8 → Nat
  | [] => 0
  | c :: l => c.toNat + 256 * le l
theorem le_snoc : ∀ (l : List UInt8) (c : UInt8), le (l ++ [c]) = le l + 256 ^ l.length * c.toNat
  | [], c => by simp [le]
  | a :: l, c => by rw [List.cons_append, le, le_snoc l c, le, List.length_cons, Nat.pow_succ, Nat.mul_add, ← Nat.mul_assoc, Nat.mul_comm 256 (256 ^ l.length)]; omega
theorem le_lt : ∀ l : List UInt8, le l < 256 ^ l.length
  | [] => by simp [le]
  | a :: l => by rw [le, List.length_cons, Nat.pow_succ]; have := le_lt l; have := a.toNat_lt; omega
/-- The word at a place. -/
def word (l : List UInt8) (j : Nat) : Nat := le ((l.drop (4 * j)).take 4)
def words (n : Nat) (l : List UInt8) : List Nat := (List.range n).map (word l)
theorem words_len (n : Nat) (l : List UInt8) : (words n l).length = n := by simp [words]
theorem word_lt (l : List UInt8) (j : Nat) : word l j < 4294967296 := by
  have h := le_lt ((l.drop (4 * j)).take 4)
  have hl : ((l.drop (4 * j)).take 4).length ≤ 4 := List.length_take_le _ _
  have : 256 ^ ((l.drop (4 * j)).take 4).length ≤ 256 ^ 4 := Nat.pow_le_pow_right (by decide) hl
  unfold word
  exact Nat.lt_of_lt_of_le h (Nat.le_trans this (by decide))
theorem word_step {l : List UInt8} {i : Nat} (h : i < l.length) (j : Nat) : word (l.take (i + 1)) j = if j = i / 4 then word (l.take i) j + 256 ^ (i % 4) * l[i].toNat else word (l.take i) j := by
  unfold word
  rw [List.take_succ_eq_append_getElem h]
  by_cases hj : j = i / 4
  · subst hj
    rw [if_pos rfl, List.drop_append_of_le_length (by simp; omega)]
    have hl : ((l.take i).drop (4 * (i / 4))).length = i % 4 := by simp; omega
    generalize (l.take i).drop (4 * (i / 4)) = X at hl ⊢
    rw [List.take_of_length_le (show (X ++ [l[i]]).length ≤ 4 by simp; omega), List.take_of_length_le (show X.length ≤ 4 by omega), le_snoc, hl]
  · rw [if_neg hj]
    rcases Nat.lt_or_gt_of_ne hj with hj | hj
    · rw [List.drop_append_of_le_length (by simp; omega), List.take_append_of_le_length (by simp; omega)]
    · rw [List.drop_eq_nil_of_le (by simp; omega), List.drop_eq_nil_of_le (by simp; omega)]
theorem word_small {l : List UInt8} {i : Nat} (h : i ≤ l.length) : word (l.take i) (i / 4) < 256 ^ (i % 4) := by
  have := le_lt ((((l.take i).drop (4 * (i / 4)))).take 4)
  have hl : ((((l.take i).drop (4 * (i / 4)))).take 4).length = i % 4 := by simp; omega
  rw [hl] at this
  exact this
end Pl
theorem bits_or32 {a b : Nat} (k : Nat) (ha : a < 2 ^ k) (hb : b < 256) (hk : k ≤ 24) : bits .or .u32 (a : Int) (IntKind.u32.wrap ((b : Int) * 2 ^ k)) = ((a + 2 ^ k * b : Nat) : Int) := by
  have hp : 2 ^ k ≤ 2 ^ 24 := Nat.pow_le_pow_right (by decide) hk
  have hpb : 2 ^ k * b < 4294967296 := by
    have : 2 ^ k * b ≤ 2 ^ 24 * 255 := Nat.mul_le_mul hp (by omega)
    exact Nat.lt_of_le_of_lt this (by decide)
  have hw : ∀ n : Nat, n < 4294967296 → IntKind.u32.wrap (n : Int) = n := fun n hn => by rw [IntKind.wrap_u32]; omega
  have e1 : (b : Int) * 2 ^ k = ((2 ^ k * b : Nat) : Int) := by rw [Nat.mul_comm]; simp
  rw [e1, hw _ hpb]
  have h32 : (2 : Nat) ^ IntKind.u32.bits = 4294967296 := rfl
  simp only [bits, BitVec.ofInt_natCast, BitVec.toNat_or, BitVec.toNat_ofNat, h32]
  have hor : a ||| 2 ^ k * b = a + 2 ^ k * b := by
    have := Nat.two_pow_add_eq_or_of_lt (i := k) (b := a) ha b
    rw [Nat.or_comm, ← this, Nat.add_comm]
  have hlt : a + 2 ^ k * b < 4294967296 := by
    have : 2 ^ k * b + 2 ^ k ≤ 2 ^ 24 * 256 := by rw [← Nat.mul_succ]; exact Nat.mul_le_mul hp (by omega)
    have h3 : (2 : Nat) ^ 24 * 256 = 4294967296 := by decide
    omega
  rw [Nat.mod_eq_of_lt (by omega), Nat.mod_eq_of_lt hpb, hor, hw _ hlt]
theorem at_bs (l : List UInt8) : At (bs l) 0 l := fun k h h2 => by simp only [Nat.zero_add]; rfl
theorem info74 : (Tryz.prog.info? 90).map (fun i => (i.zero, i.size, i.bytes)) = some (some (.int .u32 0), 1, 4) := by kernel_rfl
def wcells (xs : List Nat) : Array Value := (xs.map fun x => Value.int .u32 (x : Nat)).toArray
theorem row_full {w : World} {base g n : Nat} {e : TypeId} {xs : List Value} (h : w.ownsRow base e 1 (.slice (some ⟨g, 0, none⟩) n n) n xs) : w.heap[g]? = some (.cells xs.toArray e (0, 0)) := by
  rcases h.2 with ⟨h1, _⟩ | ⟨g', cap, cur, h1, _, h3, _, _, h6, h7⟩
  · cases h1
  · injection h1 with e1 e2 e3
    injection e1 with e1
    injection e1 with e1
    subst e1
    rw [h3]
    have hc : cur = xs.toArray := by
      rw [Nat.mul_one, List.take_of_length_le (by rw [Array.length_toList, h6, ← e3]; omega)] at h7
      rw [← h7]
    rw [hc]
theorem made_words (n : Nat) : (madeCells #[Value.int .u32 0] n).toList.toArray = wcells (Pl.words n []) := by
  have h : Pl.words n [] = List.replicate n 0 := by
    apply List.ext_getElem
    · simp [Pl.words]
    · intro i h1 h2; simp [Pl.words, Pl.word, Pl.le]
  rw [h]
  unfold wcells
  congr 1
  apply List.ext_getElem
  · simp [madeCells]
  · intro i h1 h2; simp [madeCells, Nat.mod_one]
def OfOk (w : World) (neg : Bool) (l : List UInt8) (e : Ending) (w' : World) : Prop :=
  ∃ v, e = .returned (.agg #[v, .bool neg]) ∧ Rd w' v (Pl.words ((l.length + 3) / 4) l) ∧ Below w.heap.size w w'
set_option maxHeartbeats 2000000 in
theorem lof_any (neg : Bool) (l : List UInt8) (w : World) (hl : l.length ≤ 4096) :
    Calls Tryz.prog 107 #[lv neg l] w (OfOk w neg l) := by
  unfold lv
  obtain ⟨i0, hi, hz0, hz1, hz2⟩ := info_parts info74
  have hsz : (bs l).size = l.length := rfl
  have HAT := Lib.hid (at_bs l)
  obtain ⟨N, hN⟩ : ∃ N, l.length = N := ⟨_, rfl⟩
  rw [hN] at hsz hl
  have HN := Lib.hid hN
  clear hN
  generalize bs l = s at *
  obtain ⟨n, hn⟩ : ∃ n, (N + 3) / 4 = n := ⟨_, rfl⟩
  have hn1 : ((N : Int) + 3) / 4 = (n : Int) := by omega
  have hn2 : n ≤ 1024 := by omega
  have hn3 : N ≤ 4 * n := by omega
  have HNN := Lib.hid hn
  clear hn
  go_enter Tryz.func107, Tryz.ntmps107
  go_wp2_with (at_make; refine wpList_make_full _ rfl _ _ 92 rfl (w.heap.size + 2) 90 i0 (.int .u32 0) 1 Tryz.underlying92 hi hz0 hz1 .i64 .i64 _ _ n rfl rfl ?c9 ?c0 ?c1 ?c2 ?c3 ?_)
  case c9 => exact hn1
  case c0 => exact hn1
  case c1 => rw [hz2]; omega
  case c2 => unfold maxLen; omega
  case c3 => simp
  intro w1 ho1 hg1
  obtain ⟨W0, hW0⟩ : ∃ W0, (w.alloc (.cells #[.bool neg, .string s] 42)).alloc (.cells #[.slice none 0 0, .bool false] 112) = W0 := ⟨_, rfl⟩
  have hW1 : W0.heap.size = w.heap.size + 2 := by rw [← hW0]; simp
  have hW2 : W0.heap[w.heap.size]? = some (.cells #[.bool neg, .string s] 42) := by rw [← hW0, Below.heap_alloc _ _ _ (by simp)]; exact heap_alloc_at _ _
  have hW4 : W0.heap[w.heap.size + 1]? = some (.cells #[.slice none 0 0, .bool false] 112) := by
    rw [← hW0, show w.heap.size + 1 = (w.alloc (.cells #[.bool neg, .string s] 42)).heap.size by simp]; exact heap_alloc_at _ _
  have hW3 : Below w.heap.size w W0 := by rw [← hW0]; exact ((Below.refl _ _).alloc (Nat.le_refl _) _).alloc (by simp) _
  rw [hW0] at hg1
  obtain ⟨g, hgd⟩ : ∃ g, w.heap.size + 2 = g := ⟨_, rfl⟩
  rw [hgd] at ho1 hW1 ⊢
  have hrow : w1.heap[g]? = some (.cells (wcells (Pl.words n (l.take 0))) 90) := by
    have := row_full ho1
    rw [made_words] at this
    exact this
  have HB1 := Lib.hid (show Below g W0 w1 from (Below.refl _ _).grown hg1 (by omega) (fun k hk => by cases hk))
  have HW2 := Lib.hid hW2
  have HW3 := Lib.hid hW3
  have HW4 := Lib.hid hW4
  have HROW := Lib.hid hrow
  have hg0 : w.heap.size + 2 ≤ g := by omega
  have HGD := Lib.hid hgd
  clear ho1 hg1 hW2 hW3 hW4 hW1 hW0 hi hz0 hz1 hz2 hrow hgd
  have c1 : w1.cell? ⟨w.heap.size, 1, none⟩ = some (.string s) := by
    rw [HB1.out.cell (p := ⟨w.heap.size, 1, none⟩) (by show w.heap.size < g; omega)]; simp [World.cell?, HW2.out]
  go_wp2_with fail
  go_loopw [14] (fun i wr => ∃ k : Nat, k ≤ N ∧ i = .int .i64 k ∧ wr.heap[g]? = some (.cells (wcells (Pl.words n (l.take k))) 90) ∧ Below g W0 wr ∧ g < wr.heap.size) (fun i _ => N - (RowKit.intOf i).toNat)
  case atStart => exact ⟨0, Nat.zero_le _, rfl, HROW.out, HB1.out, (Array.getElem?_eq_some_iff.1 HROW.out).1⟩
  case round =>
    obtain ⟨k, hk, rfl, hrow, hb, hsz2⟩ := hrel
    have HROW := Lib.hid hrow
    have HB := Lib.hid hb
    have c1 : wr.cell? ⟨w.heap.size, 1, none⟩ = some (.string s) := by
      rw [hb.cell (p := ⟨w.heap.size, 1, none⟩) (by show w.heap.size < g; omega)]; simp [World.cell?, HW2.out]
    clear hrow hb
    by_cases hlt : k < N
    · have hkl : k < l.length := by rw [HN.out]; exact hlt
      have q : k < s.size := by omega
      have ak : s[k]'q = l[k] := HAT.out.get hkl q (by omega)
      obtain ⟨c, hc⟩ : ∃ c, l[k] = c := ⟨_, rfl⟩
      rw [hc] at ak
      obtain ⟨x, hx⟩ : ∃ x, Pl.word (l.take k) (k / 4) = x := ⟨_, rfl⟩
      have hk4 : k / 4 < n := by omega
      have cx : wr.cell? ⟨g, k / 4, none⟩ = some (.int .u32 (x : Nat)) := by
        simp [World.cell?, HROW.out, wcells, Pl.words, hk4, hx]
      have fx : wr.frozen? ⟨g, k / 4, none⟩ = false := by simp [World.frozen?, HROW.out]
      have hxs := Pl.word_small (l := l) (i := k) (by omega)
      rw [hx] at hxs
      have hcb := c.toNat_lt
      obtain ⟨x', hx'⟩ : ∃ x', x + 2 ^ (8 * (k % 4)) * c.toNat = x' := ⟨_, rfl⟩
      have HOR := Lib.hid (show bits .or .u32 (x : Int) ((c.toNat : Int) * 2 ^ (8 * (k % 4)) % 4294967296) = ((x' : Nat) : Int) by
        have := bits_or32 (a := x) (b := c.toNat) (8 * (k % 4)) (by rw [Nat.pow_mul]; exact hxs) (by omega) (by omega)
        rw [IntKind.wrap_u32] at this
        rw [this, hx'])
      have HNEW := Lib.hid (show wcells (Pl.words n (l.take (k + 1))) = (wcells (Pl.words n (l.take k))).setIfInBounds (k / 4) (.int .u32 (x' : Nat)) by
        unfold wcells
        apply Array.toList_inj.1
        apply List.ext_getElem
        · simp [Pl.words]
        · intro i h1 h2
          simp only [Array.toList_setIfInBounds, List.getElem_set, List.getElem_map, Pl.words, List.getElem_range]
          rw [Pl.word_step hkl]
          by_cases e : k / 4 = i
          · subst e
            rw [if_pos rfl, if_pos rfl, hx, hc, ← hx', Nat.pow_mul]
          · rw [if_neg (fun h => e h.symm), if_neg e])
      clear hx' hx hc hxs
      go_wp2_with fail
      go_region
      rw [HOR.out]
      have hrow2 : (wr.setCell ⟨g, k / 4, none⟩ (.int .u32 (x' : Nat))).drew.heap[g]? = some (.cells (wcells (Pl.words n (l.take (k + 1)))) 90) := by
        rw [HNEW.out]
        show (wr.setCell ⟨g, k / 4, none⟩ (.int .u32 (x' : Nat))).heap[g]? = _
        simp only [World.setCell, Array.getElem?_modify, if_pos, HROW.out]
        rfl
      have HROW2 := Lib.hid hrow2
      have HB2 := Lib.hid (show Below g W0 (wr.setCell ⟨g, k / 4, none⟩ (.int .u32 (x' : Nat))).drew from (HB.out.setCell (p := ⟨g, k / 4, none⟩) (Nat.le_refl g) _).drew)
      have hz2 : g < (wr.setCell ⟨g, k / 4, none⟩ (.int .u32 (x' : Nat))).drew.heap.size := by rw [show (wr.setCell ⟨g, k / 4, none⟩ (.int .u32 (x' : Nat))).drew.heap.size = wr.heap.size by simp [World.setCell]]; exact hsz2
      clear hrow2
      generalize (wr.setCell ⟨g, k / 4, none⟩ (.int .u32 (x' : Nat))).drew = w2 at HROW2 HB2 hz2 ⊢
      go_wp2_with fail
      go_roundw
      case rel => exact ⟨k + 1, by omega, by go_num, HROW2.out, HB2.out, hz2⟩
      case measure => simp [RowKit.intOf]; omega
    · obtain rfl : k = N := by omega
      have hR : wr.heap[w.heap.size + 1]? = some (.cells #[.slice none 0 0, .bool false] 112) := by rw [HB.out.block _ (by omega)]; exact HW4.out
      have hP : wr.heap[w.heap.size]? = some (.cells #[.bool neg, .string s] 42) := by rw [HB.out.block _ (by omega)]; exact HW2.out
      obtain ⟨B, hBd⟩ : ∃ B, w.heap.size + 1 = B := ⟨_, rfl⟩
      rw [hBd] at hR ⊢
      have c0 : wr.cell? ⟨w.heap.size, 0, none⟩ = some (.bool neg) := by simp [World.cell?, hP]
      have r0 : wr.cell? ⟨B, 0, none⟩ = some (.slice none 0 0) := by simp [World.cell?, hR]
      have r1 : wr.cell? ⟨B, 1, none⟩ = some (.bool false) := by simp [World.cell?, hR]
      have f0 : wr.frozen? ⟨B, 0, none⟩ = false := by simp [World.frozen?, hR]
      have f1 : wr.frozen? ⟨B, 1, none⟩ = false := by simp [World.frozen?, hR]
      have HBW := Lib.hid (show Below w.heap.size w wr from HW3.out.trans (HB.out.mono (by omega)))
      have HBd := Lib.hid hBd
      clear hR hP hlt hBd
      go_wp2_with fail
      obtain ⟨k0, k1, kB⟩ := two_set wr B (.slice (some ⟨g, 0, none⟩) n n) (.bool neg) r0 r1
      have kB' := HBW.out.trans (kB.mono (by have := HBd.out; omega))
      have hgB : B < g := by have := HBd.out; omega
      refine bodyPost_ret (v := .agg #[.slice (some ⟨g, 0, none⟩) n n, .bool neg]) (by simp [results, Tryz.results107, go_sem, k0, k1]) rfl ⟨_, rfl, ?_, kB'⟩
      rw [HN.out, HNN.out]
      refine .inr ⟨g, n, by rw [Pl.words_len], by rw [Pl.words_len]; exact Nat.le_refl _, by simp [World.setCell]; exact hsz2, fun j y hy => ?_⟩
      have n1 : (⟨B, 1, none⟩ : Addr) ≠ ⟨g, j, none⟩ := by intro e; injection e with e; omega
      have n0 : (⟨B, 0, none⟩ : Addr) ≠ ⟨g, j, none⟩ := by intro e; injection e with e; omega
      rw [World.cell?_setCell_other _ _ _ _ n1, World.cell?_setCell_other _ _ _ _ n0]
      have hrow := HROW.out
      rw [List.take_of_length_le (by rw [HN.out]; exact Nat.le_refl _)] at hrow
      simp only [World.cell?, hrow, wcells]
      simp [hy]
end Go.Proofs.YtgdohmaljbggjaaGreatDoor
namespace Go.Proofs.YtgdohmaljbggjaaGreatDoor
open Go.RowKit Go.Lib
namespace Pl
/-- A number as so many words. -/
def dn (n V : Nat) : List Nat := (List.range n).map fun j => V / 4294967296 ^ j % 4294967296
theorem dn_len (n V : Nat) : (dn n V).length = n := by simp [dn]
theorem dn_lt {n V x : Nat} (h : x ∈ dn n V) : x < 4294967296 := by
  obtain ⟨j, _, rfl⟩ := List.mem_map.1 h; exact Nat.mod_lt _ (by decide)
theorem map_div_succ (B V n : Nat) : ((List.range (n + 1)).map fun j => V / B ^ j % B) = V % B :: ((List.range n).map fun j => V / B / B ^ j % B) := by
  rw [List.range_succ_eq_map, List.map_cons, List.map_map, Nat.pow_zero, Nat.div_one, List.cons.injEq]
  refine ⟨rfl, ?_⟩
  apply List.map_congr_left
  intro j _
  simp only [Function.comp]
  rw [Nat.pow_succ, Nat.mul_comm, Nat.div_div_eq_div_mul]
theorem dn_succ (n V : Nat) : dn (n + 1) V = V % 4294967296 :: dn n (V / 4294967296) := map_div_succ 4294967296 V n
theorem num_dn (n : Nat) : ∀ V : Nat, V < 4294967296 ^ n → num (dn n V) = V := by
  induction n with
  | zero => intro V h; rw [Nat.pow_zero] at h; have : V = 0 := by omega
            subst this; rfl
  | succ n ih =>
    intro V h
    rw [dn_succ, num, ih (V / 4294967296) (by
      rw [Nat.pow_succ, Nat.mul_comm] at h
      exact Nat.div_lt_of_lt_mul h)]
    omega
theorem num_lt : ∀ (xs : List Nat), (∀ x ∈ xs, x < 4294967296) → num xs < 4294967296 ^ xs.length
  | [], _ => by simp [num]
  | x :: xs, h => by
    rw [num, List.length_cons, Nat.pow_succ]
    have h1 := num_lt xs (fun y hy => h y (by simp [hy]))
    have h2 := h x (by simp)
    omega
/-- One word more, at place m: how the words change. -/
theorem dn_step {V s m p : Nat} (hp : p < 32) (hV : V / 4294967296 ^ m < 2 ^ p) (hs : s < 18446744073709551616) (hd : s % 2 ^ p = 0) (j : Nat) :
    (V + s * 4294967296 ^ m) / 4294967296 ^ j % 4294967296 = if j = m then V / 4294967296 ^ m + s % 4294967296 else if j = m + 1 then s / 4294967296 else V / 4294967296 ^ j % 4294967296 := by
  have hB : ∀ k, 0 < 4294967296 ^ k := fun k => Nat.pow_pos (by decide)
  have hpp : 2 ^ p * 2 ^ (32 - p) = 4294967296 := by rw [← Nat.pow_add, show p + (32 - p) = 32 by omega]
  have hlow : V / 4294967296 ^ m + s % 4294967296 < 4294967296 := by
    obtain ⟨q, hq⟩ := Nat.dvd_of_mod_eq_zero hd
    have h1 : s % 4294967296 = 2 ^ p * (q % 2 ^ (32 - p)) := by rw [hq, ← hpp, Nat.mul_mod_mul_left]
    have h2 : q % 2 ^ (32 - p) < 2 ^ (32 - p) := Nat.mod_lt _ (Nat.pow_pos (by decide))
    have h3 : 2 ^ p * (q % 2 ^ (32 - p)) + 2 ^ p ≤ 2 ^ p * 2 ^ (32 - p) := by rw [← Nat.mul_succ]; exact Nat.mul_le_mul_left _ h2
    rw [h1]; omega
  have hmid : (V + s * 4294967296 ^ m) / 4294967296 ^ m = V / 4294967296 ^ m + s := Nat.add_mul_div_right _ _ (hB m)
  rcases Nat.lt_trichotomy j m with hj | hj | hj
  · rw [if_neg (by omega), if_neg (by omega)]
    have e : 4294967296 ^ m = 4294967296 ^ j * (4294967296 * 4294967296 ^ (m - j - 1)) := by
      rw [← Nat.mul_assoc, ← Nat.pow_succ, ← Nat.pow_add, show j.succ + (m - j - 1) = m by omega]
    rw [e, show s * (4294967296 ^ j * (4294967296 * 4294967296 ^ (m - j - 1))) = (4294967296 * (s * 4294967296 ^ (m - j - 1))) * 4294967296 ^ j by
      rw [Nat.mul_comm (4294967296 * (s * 4294967296 ^ (m - j - 1))), ← Nat.mul_assoc s, Nat.mul_comm s, Nat.mul_assoc, Nat.mul_left_comm s], Nat.add_mul_div_right _ _ (hB j), Nat.add_mul_mod_self_left]
  · subst hj
    rw [if_pos rfl, hmid]
    have : (V / 4294967296 ^ j + s) % 4294967296 = (V / 4294967296 ^ j + s % 4294967296) % 4294967296 := by rw [Nat.add_mod_mod]
    rw [this, Nat.mod_eq_of_lt hlow]
  · rw [if_neg (by omega)]
    have hdiv : (V + s * 4294967296 ^ m) / 4294967296 ^ (m + 1) = s / 4294967296 := by
      rw [Nat.pow_succ, ← Nat.div_div_eq_div_mul, hmid]
      have e : V / 4294967296 ^ m + s = (V / 4294967296 ^ m + s % 4294967296) + (s / 4294967296) * 4294967296 := by
        have := Nat.mod_add_div s 4294967296; omega
      rw [e, Nat.add_mul_div_right _ _ (by decide), Nat.div_eq_of_lt hlow, Nat.zero_add]
    by_cases hj2 : j = m + 1
    · subst hj2
      rw [if_pos rfl, hdiv, Nat.mod_eq_of_lt (by omega)]
    · rw [if_neg hj2]
      have e : 4294967296 ^ j = 4294967296 ^ (m + 1) * 4294967296 ^ (j - m - 1) := by rw [← Nat.pow_add, show m + 1 + (j - m - 1) = j by omega]
      have hbig : 4294967296 ≤ 4294967296 ^ (j - m - 1) := by
        have := Nat.pow_le_pow_right (n := 4294967296) (by decide) (show 1 ≤ j - m - 1 by omega)
        simpa using this
      rw [e, ← Nat.div_div_eq_div_mul, ← Nat.div_div_eq_div_mul, hdiv, Nat.pow_succ, ← Nat.div_div_eq_div_mul V]
      rw [Nat.div_eq_of_lt (Nat.lt_of_lt_of_le (show s / 4294967296 < 4294967296 by omega) hbig)]
      have hv0 : V / 4294967296 ^ m / 4294967296 = 0 := by
        apply Nat.div_eq_of_lt
        have : 2 ^ p ≤ 2 ^ 31 := Nat.pow_le_pow_right (by decide) (by omega)
        have h31 : (2 : Nat) ^ 31 = 2147483648 := by decide
        omega
      rw [hv0, Nat.zero_div]
end Pl
end Go.Proofs.YtgdohmaljbggjaaGreatDoor
namespace Go.Proofs.YtgdohmaljbggjaaGreatDoor
open Go.RowKit Go.Lib
theorem bits_or_s {a t p : Nat} (hp : p < 32) (ha : a < 2 ^ p) (ht : t < 4294967296) (hd : t % 2 ^ p = 0) : bits .or .u32 (a : Int) (t : Int) = ((a + t : Nat) : Int) := by
  obtain ⟨q, hq⟩ := Nat.dvd_of_mod_eq_zero hd
  have h32 : (2 : Nat) ^ IntKind.u32.bits = 4294967296 := rfl
  have hp2 : 2 ^ p ≤ 2 ^ 31 := Nat.pow_le_pow_right (by decide) (by omega)
  have h31 : (2 : Nat) ^ 31 = 2147483648 := by decide
  have hor : a ||| t = a + t := by
    have := Nat.two_pow_add_eq_or_of_lt (i := p) (b := a) ha q
    rw [hq, Nat.or_comm, ← this, Nat.add_comm]
  have hlt : a ||| t < 2 ^ 32 := Nat.or_lt_two_pow (by omega) (by omega)
  have hw : ∀ n : Nat, n < 4294967296 → IntKind.u32.wrap (n : Int) = n := fun n hn => by rw [IntKind.wrap_u32]; omega
  simp only [bits, BitVec.ofInt_natCast, BitVec.toNat_or, BitVec.toNat_ofNat, h32]
  have ha32 : a < 4294967296 := by omega
  rw [Nat.mod_eq_of_lt ha32, Nat.mod_eq_of_lt ht, hor, hw _ (by rw [← hor]; simpa using hlt)]
namespace Pl
theorem shift_facts {B V x k whole part : Nat} (hB : B = 4294967296) (hV : V < B ^ k) (hx : x < B) (hp : part < 32) :
    V * 2 ^ (32 * whole + part) / B ^ (whole + k) < 2 ^ part ∧ (V + B ^ k * x) * 2 ^ (32 * whole + part) = V * 2 ^ (32 * whole + part) + x * 2 ^ part * B ^ (whole + k) ∧ x * 2 ^ part < 18446744073709551616 ∧ x * 2 ^ part % 2 ^ part = 0 := by
  have e : 2 ^ (32 * whole + part) = B ^ whole * 2 ^ part := by
    rw [Nat.pow_add, Nat.pow_mul, hB]
  have hp2 : 2 ^ part ≤ 2 ^ 31 := Nat.pow_le_pow_right (by decide) (by omega)
  refine ⟨?_, ?_, ?_, Nat.mul_mod_left _ _⟩
  · rw [e, Nat.pow_add]
    apply Nat.div_lt_of_lt_mul
    have hb : 0 < B ^ whole * 2 ^ part := Nat.mul_pos (Nat.pow_pos (by omega)) (Nat.pow_pos (by decide))
    calc V * (B ^ whole * 2 ^ part) < B ^ k * (B ^ whole * 2 ^ part) := (Nat.mul_lt_mul_right hb).2 hV
      _ = B ^ whole * B ^ k * 2 ^ part := by rw [← Nat.mul_assoc, Nat.mul_comm (B ^ k)]
  · rw [e, Nat.add_mul, Nat.pow_add]
    congr 1
    generalize B ^ k = p
    generalize B ^ whole = q
    generalize 2 ^ part = r
    rw [Nat.mul_comm p x, Nat.mul_assoc, Nat.mul_assoc, Nat.mul_left_comm p q r, Nat.mul_left_comm r q p, Nat.mul_comm r p]
  · have : x * 2 ^ part ≤ 4294967295 * 2 ^ 31 := Nat.mul_le_mul (by omega) hp2
    exact Nat.lt_of_le_of_lt this (by decide)
theorem num_snoc (l : List Nat) (x : Nat) : num (l ++ [x]) = num l + 4294967296 ^ l.length * x := by rw [num_append]; simp [num]
end Pl
def LeftOk (w : World) (n V : Nat) (e : Ending) (w' : World) : Prop :=
  ∃ v, e = .returned v ∧ Rd w' v (Pl.trimW (Pl.dn n V)) ∧ Below w.heap.size w w'
set_option maxHeartbeats 2000000 in
theorem left_any (v : Value) (xs : List Nat) (sh : Nat) (w : World) (h : Rd w v xs) (hl : xs.length ≤ 2000) (hx : ∀ x ∈ xs, x < 4294967296) (hs : sh ≤ 40000) :
    Calls Tryz.prog 110 #[v, .int .u64 sh] w (LeftOk w (sh / 32 + xs.length + 1) (Pl.num xs * 2 ^ sh)) := by
  obtain ⟨i0, hi, hz0, hz1, hz2⟩ := info_parts info74
  have HRD := Lib.hid h
  have HX := Lib.hid hx
  obtain ⟨va, vc, rfl⟩ : ∃ a c, v = .slice a xs.length c := by
    rcases h with ⟨h1, h2⟩ | ⟨b, cap, h1, _⟩
    · exact ⟨none, 0, by rw [h1, h2]; rfl⟩
    · exact ⟨_, _, h1⟩
  clear h hx
  obtain ⟨N, hN⟩ : ∃ N, xs.length = N := ⟨_, rfl⟩
  rw [hN] at hl HRD ⊢
  have HN := Lib.hid hN
  clear hN
  obtain ⟨wh, hwh⟩ : ∃ wh, sh / 32 = wh := ⟨_, rfl⟩
  obtain ⟨pt, hpt⟩ : ∃ pt, sh % 32 = pt := ⟨_, rfl⟩
  have d1 : (sh : Int) / 32 = (wh : Int) := by omega
  have d2 : (sh : Int) % 32 = (pt : Int) := by omega
  have hpt2 : pt < 32 := by omega
  have hwh2 : wh ≤ 1250 := by omega
  have HSH := Lib.hid (show sh = 32 * wh + pt by omega)
  rw [hwh]
  clear hwh hpt
  obtain ⟨n, hn⟩ : ∃ n, wh + N + 1 = n := ⟨_, rfl⟩
  rw [hn]
  have HNN := Lib.hid hn
  have hn2 : n ≤ 4000 := by omega
  go_enter Tryz.func110, Tryz.ntmps110
  go_wp2_with (at_make; refine wpList_make_full _ rfl _ _ 92 rfl w.heap.size 90 i0 (.int .u32 0) 1 Tryz.underlying92 hi hz0 hz1 .i64 .i64 _ _ n rfl rfl ?c9 ?c0 ?c1 ?c2 ?c3 ?_)
  case c9 => omega
  case c0 => omega
  case c1 => rw [hz2]; omega
  case c2 => unfold maxLen; omega
  case c3 => simp
  intro w1 ho1 hg1
  obtain ⟨g, hgd⟩ : ∃ g, w.heap.size = g := ⟨_, rfl⟩
  rw [hgd] at ho1 ⊢
  have hrow : w1.heap[g]? = some (.cells (wcells (Pl.dn n (Pl.num (xs.take 0) * 2 ^ sh))) 90) := by
    have := row_full ho1
    rw [made_words] at this
    rw [this]
    have e : Pl.words n [] = Pl.dn n (Pl.num (xs.take 0) * 2 ^ sh) := by
      unfold Pl.words Pl.dn
      apply List.map_congr_left
      intro j _
      simp [Pl.word, Pl.le, Pl.num]
    rw [e]
  have HB1 := Lib.hid (show Below g w w1 from (Below.refl _ _).grown hg1 (by omega) (fun k hk => by cases hk))
  have HROW := Lib.hid hrow
  have HGD := Lib.hid hgd
  clear ho1 hg1 hi hz0 hz1 hz2 hrow hgd hn
  go_wp2_with fail
  go_loopw [24] (fun i wr => ∃ k : Nat, k ≤ N ∧ i = .int .i64 k ∧ wr.heap[g]? = some (.cells (wcells (Pl.dn n (Pl.num (xs.take k) * 2 ^ sh))) 90) ∧ Below g w wr ∧ g < wr.heap.size) (fun i _ => N - (RowKit.intOf i).toNat)
  case atStart => exact ⟨0, Nat.zero_le _, rfl, HROW.out, HB1.out, (Array.getElem?_eq_some_iff.1 HROW.out).1⟩
  case round =>
    obtain ⟨k, hk, rfl, hrow, hb, hsz2⟩ := hrel
    have HROW := Lib.hid hrow
    have HB := Lib.hid hb
    clear hrow hb
    by_cases hlt : k < N
    · have hkl : k < xs.length := by rw [HN.out]; exact hlt
      obtain ⟨b, hva, hcell⟩ : ∃ b, va = some ⟨b, 0, none⟩ ∧ wr.cell? ⟨b, k, none⟩ = some (.int .u32 (xs[k] : Nat)) := by
        rcases HRD.out with ⟨h1, h2⟩ | ⟨b, cap, h1, h2, h3, h4⟩
        · rw [h2] at hkl; simp at hkl
        · injection h1 with e1 _ _
          refine ⟨b, e1, ?_⟩
          rw [HB.out.cell (p := ⟨b, k, none⟩) (by have := HGD.out; show b < _; omega)]
          exact h4 k _ (List.getElem?_eq_getElem hkl)
      subst hva
      have hxk := HX.out xs[k] (List.getElem_mem _)
      have hVk : Pl.num (xs.take k) < 4294967296 ^ k := by
        have := Pl.num_lt (xs.take k) (fun y hy => HX.out y (List.mem_of_mem_take hy))
        rwa [List.length_take, Nat.min_eq_left (by omega)] at this
      have hnum : Pl.num (xs.take (k + 1)) = Pl.num (xs.take k) + 4294967296 ^ k * xs[k] := by
        rw [List.take_succ_eq_append_getElem hkl, Pl.num_snoc, List.length_take, Nat.min_eq_left (by omega)]
      obtain ⟨x, hx⟩ : ∃ x, xs[k] = x := ⟨_, rfl⟩
      rw [hx] at hcell hxk hnum
      obtain ⟨s1, s2, s3, s4⟩ := Pl.shift_facts (whole := wh) (part := pt) rfl hVk hxk hpt2
      rw [← HSH.out] at s1 s2
      rw [← hnum] at s2
      obtain ⟨V, hV⟩ : ∃ V, Pl.num (xs.take k) * 2 ^ sh = V := ⟨_, rfl⟩
      rw [hV] at s1 s2 HROW
      obtain ⟨s, hs'⟩ : ∃ s, x * 2 ^ pt = s := ⟨_, rfl⟩
      rw [hs'] at s2 s3 s4
      obtain ⟨a, ha⟩ : ∃ a, V / 4294967296 ^ (wh + k) = a := ⟨_, rfl⟩
      have hst : (x : Int) * 2 ^ pt = (s : Int) := by rw [← hs']; simp
      have hm1 : wh + k < n := by have := HNN.out; omega
      have hm2 : wh + k + 1 < n := by have := HNN.out; omega
      have ha2 : a < 4294967296 := by
        have hp2 : 2 ^ pt ≤ 2 ^ 31 := Nat.pow_le_pow_right (by decide) (by omega)
        have h31 : (2 : Nat) ^ 31 = 2147483648 := by decide
        omega
      have ca : wr.cell? ⟨g, wh + k, none⟩ = some (.int .u32 (a : Nat)) := by
        simp [World.cell?, HROW.out, wcells, Pl.dn, hm1, ha]; omega
      have fa : wr.frozen? ⟨g, wh + k, none⟩ = false := by simp [World.frozen?, HROW.out]
      have HSTEP := Lib.hid (fun j => Pl.dn_step hpt2 s1 s3 s4 j)
      have HOR := Lib.hid (bits_or_s hpt2 (by rw [ha] at s1; exact s1) (show s % 4294967296 < 4294967296 by omega) (by
        have h1 : 2 ^ pt * 2 ^ (32 - pt) = 4294967296 := by rw [← Nat.pow_add, show pt + (32 - pt) = 32 by omega]
        obtain ⟨q, hq⟩ := Nat.dvd_of_mod_eq_zero s4
        rw [hq, ← h1, Nat.mul_mod_mul_left, Nat.mul_mod_right]))
      have HS2 := Lib.hid s2
      obtain ⟨a', ha'⟩ : ∃ a', a + s % 4294967296 = a' := ⟨_, rfl⟩
      obtain ⟨t, ht⟩ : ∃ t, s / 4294967296 = t := ⟨_, rfl⟩
      have hor : bits .or .u32 (a : Int) ((s : Int) % 4294967296) = (a' : Int) := by have := HOR.out; rw [ha'] at this; rw [← this]; simp
      have htt : (s : Int) / 4294967296 = (t : Int) := by omega
      have HNEW := Lib.hid (show wcells (Pl.dn n (Pl.num (xs.take (k + 1)) * 2 ^ sh)) = ((wcells (Pl.dn n V)).setIfInBounds (wh + k) (.int .u32 (a' : Nat))).setIfInBounds (wh + k + 1) (.int .u32 (t : Nat)) by
        rw [HS2.out]
        unfold wcells
        apply Array.toList_inj.1
        apply List.ext_getElem
        · simp [Pl.dn]
        · intro i h1 h2
          simp only [Array.toList_setIfInBounds, List.getElem_set, List.getElem_map, Pl.dn, List.getElem_range]
          rw [HSTEP.out]
          by_cases e : i = wh + k
          · subst e
            rw [if_pos rfl, if_neg (by omega), if_pos rfl, ha, ha']
          · rw [if_neg e]
            by_cases e2 : i = wh + k + 1
            · subst e2
              rw [if_pos rfl, if_pos rfl, ht]
            · rw [if_neg e2, if_neg (fun h => e2 h.symm), if_neg (fun h => e h.symm)])
      obtain ⟨y, cb⟩ : ∃ y : Nat, wr.cell? ⟨g, wh + k + 1, none⟩ = some (.int .u32 (y : Nat)) := ⟨V / 4294967296 ^ (wh + k + 1) % 4294967296, by simp [World.cell?, HROW.out, wcells, Pl.dn, hm2]⟩
      have fb : wr.frozen? ⟨g, wh + k + 1, none⟩ = false := by simp [World.frozen?, HROW.out]
      clear s1 s2 s4 hs' hnum hVk hx hV ha ha' ht HOR HSTEP HS2
      go_wp2_with fail
      have hrow2 : ((wr.setCell ⟨g, wh + k, none⟩ (.int .u32 (a' : Nat))).setCell ⟨g, wh + k + 1, none⟩ (.int .u32 (t : Nat))).heap[g]? = some (.cells (wcells (Pl.dn n (Pl.num (xs.take (k + 1)) * 2 ^ sh))) 90) := by
        rw [HNEW.out]
        simp only [World.setCell, Array.getElem?_modify, if_pos, HROW.out]
        rfl
      have hB2 : Below g w ((wr.setCell ⟨g, wh + k, none⟩ (.int .u32 (a' : Nat))).setCell ⟨g, wh + k + 1, none⟩ (.int .u32 (t : Nat))) := (HB.out.setCell (p := ⟨g, wh + k, none⟩) (Nat.le_refl g) _).setCell (p := ⟨g, wh + k + 1, none⟩) (Nat.le_refl g) _
      have hz2 : g < ((wr.setCell ⟨g, wh + k, none⟩ (.int .u32 (a' : Nat))).setCell ⟨g, wh + k + 1, none⟩ (.int .u32 (t : Nat))).heap.size := by simp [World.setCell]; exact hsz2
      go_roundw
      case rel => exact ⟨k + 1, by omega, by go_num, hrow2, hB2, hz2⟩
      case measure => simp [RowKit.intOf]; omega
    · obtain rfl : k = N := by omega
      rw [List.take_of_length_le (by rw [HN.out]; exact Nat.le_refl _)] at HROW
      have hrd : Rd wr (.slice (some ⟨g, 0, none⟩) n n) (Pl.dn n (Pl.num xs * 2 ^ sh)) := by
        refine .inr ⟨g, n, by rw [Pl.dn_len], by rw [Pl.dn_len]; exact Nat.le_refl _, hsz2, fun j y hy => ?_⟩
        simp only [World.cell?, HROW.out, wcells]
        simp [hy]
      have HT := Lib.hid (trim_any _ _ wr hrd (by rw [Pl.dn_len]; omega))
      have HBW := Lib.hid (show Below w.heap.size w wr from by rw [HGD.out]; exact HB.out)
      clear hrd hlt
      go_wp2_with fail
      refine HT.out.mono ?_
      rintro e w' ⟨v', rfl, hrd2, rfl⟩
      have HR2 := Lib.hid hrd2
      obtain ⟨a, b, c, rfl⟩ : ∃ a b c, v' = .slice a b c := by
        rcases hrd2 with ⟨h1, _⟩ | ⟨_, _, h1, _⟩
        · exact ⟨_, _, _, h1⟩
        · exact ⟨_, _, _, h1⟩
      clear hrd2
      go_wp2_with fail
      go_ret
      exact ⟨_, rfl, HR2.out, HBW.out⟩
end Go.Proofs.YtgdohmaljbggjaaGreatDoor
