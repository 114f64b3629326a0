/- The form of a float's text: the contracts of digits and formed. Plain facts on the reading of a float's digits. The reading of a float's digits: the contract of readFloat. The reading of a float's digits: the contract of readFloat at one form of texts. The reading of a float's digits: the contract of readFloat at one form of texts. The reading of a float's digits: the contract of readFloat at one form of texts. The reading of a float's digits: the contract of readFloat at one form of texts. -/
import Derived.Test.YtpilniljhmkedaaGreatDoorRaah
import Derived.WalkMore
import Derived.Deep.LoopGhost
namespace Go.Proofs.YtpilniljhmkedaaGreatDoor
open Go.RowKit Go.Lib
namespace Pl
def tens : List UInt8 := [48, 49, 50, 51, 52, 53, 54, 55, 56, 57]
/-- What stands behind the digits that a text begins with; how many these are. -/
def rest (l : List UInt8) : List UInt8 := Lib.trimLeftS l tens
def ndig (l : List UInt8) : Nat := l.length - (rest l).length
theorem rest_len (l : List UInt8) : (rest l).length ≤ l.length := (List.dropWhile_suffix _).length_le
theorem drop_ndig (l : List UInt8) : l.drop (ndig l) = rest l := by
  obtain ⟨t, ht⟩ := List.dropWhile_suffix (fun x => tens.contains x) (l := l)
  have e : t ++ rest l = l := ht
  unfold ndig
  have : l.length - (rest l).length = t.length := by have := congrArg List.length e; simp at this; omega
  rw [this]
  conv => lhs; rw [← e]
  simp
def formed (l : List UInt8) : Bool :=
  if 400 < l.length then false else
  if ndig (Lib.trimPrefix l [45]) = 0 ∨ Lib.hasPrefix (rest (Lib.trimPrefix l [45])) [46] = false ∨ ndig (Lib.trimPrefix (rest (Lib.trimPrefix l [45])) [46]) = 0 then false else
  if (rest (Lib.trimPrefix (rest (Lib.trimPrefix l [45])) [46])).isEmpty then true else
  Lib.hasPrefix (rest (Lib.trimPrefix (rest (Lib.trimPrefix l [45])) [46])) [101] && !(Lib.trimPrefix (Lib.trimPrefix (rest (Lib.trimPrefix (rest (Lib.trimPrefix l [45])) [46])) [101]) [45]).isEmpty && ndig (Lib.trimPrefix (Lib.trimPrefix (rest (Lib.trimPrefix (rest (Lib.trimPrefix l [45])) [46])) [101]) [45]) == (Lib.trimPrefix (Lib.trimPrefix (rest (Lib.trimPrefix (rest (Lib.trimPrefix l [45])) [46])) [101]) [45]).length
end Pl
theorem digits_any (l : List UInt8) (w : World) (hl : l.length ≤ 400) :
    Calls Tryz.prog 36 #[.string (bs l)] w fun e w' => e = .returned (.int .i64 (Pl.ndig l)) ∧ Below w.heap.size w w' := by
  have hsz : (bs l).size = l.length := rfl
  have HT := Lib.hid (show ∀ w, Calls Tryz.prog 69 #[.string (bs l), .string (bs Pl.tens)] w fun e w' => e = .returned (.string (bs (Pl.rest l))) ∧ Below w.heap.size w w' from fun w => by
    refine Tryz.strings_TrimLeft (bs l) (bs Pl.tens) w (by decide) ?_
    intro j b hb
    have key : ∀ b ∈ Pl.tens, b.toNat < 128 := by decide
    exact key b (List.mem_of_getElem? hb))
  have hrs : (bs (Pl.rest l)).size = (Pl.rest l).length := rfl
  have hr := Pl.rest_len l
  have HN := Lib.hid (show ((Pl.ndig l : Nat) : Int) = (l.length : Int) - (Pl.rest l).length by unfold Pl.ndig; omega)
  generalize bs l = s at hsz HT ⊢
  generalize bs (Pl.rest l) = t at hrs HT ⊢
  go_enter Tryz.func36, Tryz.ntmps36
  go_wp2_with fail
  refine (HT.out _).mono ?_
  rintro e w' ⟨rfl, hB⟩
  go_wp2_with fail
  go_ret
  exact ⟨ret_int (by rw [HN.out]), hB⟩
theorem cutP (l p : List UInt8) (w : World) : Calls Tryz.prog 23 #[.string (bs l), .string (bs p)] w fun e w' => e = .returned (.tuple #[.string (bs (Lib.trimPrefix l p)), .bool (Lib.hasPrefix l p)]) ∧ w' = w := Tryz.strings_CutPrefix (bs l) (bs p) w
theorem trimP (l p : List UInt8) (w : World) : Calls Tryz.prog 35 #[.string (bs l), .string (bs p)] w fun e w' => e = .returned (.string (bs (Lib.trimPrefix l p))) ∧ w' = w := Tryz.strings_TrimPrefix (bs l) (bs p) w
theorem trimPrefix_len (l p : List UInt8) : (Lib.trimPrefix l p).length ≤ l.length := by unfold Lib.trimPrefix; split <;> simp
theorem bs_rest (l : List UInt8) : (bs l).extract (Pl.ndig l) l.length = bs (Pl.rest l) := by
  rw [bs_extract, Pl.drop_ndig, List.take_of_length_le (by rw [← Pl.drop_ndig]; simp)]
theorem bs_empty (l : List UInt8) : (bs l).toList.isEmpty = l.isEmpty := by rw [Lib.toList_data]
def FormedOk (b : Bool) (w : World) (e : Ending) (w' : World) : Prop := e = .returned (.bool b) ∧ Below w.heap.size w w'
set_option maxHeartbeats 2000000 in
theorem formed_any (l : List UInt8) (w : World) (hbig : l.length ≤ 1000000) :
    Calls Tryz.prog 16 #[.string (bs l)] w (FormedOk (Pl.formed l) w) := by
  have hsz : (bs l).size = l.length := rfl
  by_cases c1 : 400 < l.length
  · have HR := Lib.hid (show Pl.formed l = false by unfold Pl.formed; rw [if_pos c1])
    generalize bs l = S0 at *
    go_enter Tryz.func16, Tryz.ntmps16
    go_wp2_with fail
    go_ret
    exact ⟨ret_bool (by rw [HR.out]), Below.refl _ _⟩
  · have c1' : l.length ≤ 400 := by omega
    have HT1 := Lib.hid (trimP l [45])
    obtain ⟨s1, hs1⟩ : ∃ s1, Lib.trimPrefix l [45] = s1 := ⟨_, rfl⟩
    have l1 : s1.length ≤ 400 := by rw [← hs1]; exact Nat.le_trans (trimPrefix_len l [45]) c1'
    rw [hs1] at HT1
    have HD1 := Lib.hid (fun w => digits_any s1 w l1)
    have e1 := Lib.hid (bs_rest s1)
    have z1 : (bs s1).size = s1.length := rfl
    have n1 : Pl.ndig s1 ≤ s1.length := by unfold Pl.ndig; omega
    obtain ⟨t1, ht1⟩ : ∃ t1, Pl.rest s1 = t1 := ⟨_, rfl⟩
    rw [ht1] at e1
    have HC1 := Lib.hid (cutP t1 [46])
    obtain ⟨r, hr⟩ : ∃ r, Lib.trimPrefix t1 [46] = r := ⟨_, rfl⟩
    obtain ⟨pt, hpt⟩ : ∃ pt, Lib.hasPrefix t1 [46] = pt := ⟨_, rfl⟩
    rw [hr, hpt] at HC1
    have l2 : r.length ≤ 400 := by
      rw [← hr]; refine Nat.le_trans (trimPrefix_len t1 [46]) ?_
      rw [← ht1]; exact Nat.le_trans (Pl.rest_len _) l1
    have HD2 := Lib.hid (fun w => digits_any r w l2)
    have e2 := Lib.hid (bs_rest r)
    have z2 : (bs r).size = r.length := rfl
    have n2 : Pl.ndig r ≤ r.length := by unfold Pl.ndig; omega
    obtain ⟨r2, hr2⟩ : ∃ r2, Pl.rest r = r2 := ⟨_, rfl⟩
    rw [hr2] at e2
    have HC2 := Lib.hid (cutP r2 [101])
    obtain ⟨is, his⟩ : ∃ is, Lib.hasPrefix r2 [101] = is := ⟨_, rfl⟩
    obtain ⟨q, hq⟩ : ∃ q, Lib.trimPrefix r2 [101] = q := ⟨_, rfl⟩
    rw [his, hq] at HC2
    have HT2 := Lib.hid (trimP q [45])
    obtain ⟨pw, hpw⟩ : ∃ pw, Lib.trimPrefix q [45] = pw := ⟨_, rfl⟩
    rw [hpw] at HT2
    have l3 : pw.length ≤ 400 := by
      rw [← hpw, ← hq, ← hr2]
      exact Nat.le_trans (trimPrefix_len _ _) (Nat.le_trans (trimPrefix_len _ _) (Nat.le_trans (Pl.rest_len _) l2))
    have HD3 := Lib.hid (fun w => digits_any pw w l3)
    have z3 : (bs pw).size = pw.length := rfl
    have HR := Lib.hid (show Pl.formed l = if Pl.ndig s1 = 0 ∨ pt = false ∨ Pl.ndig r = 0 then false else if r2.isEmpty then true else (is && !pw.isEmpty && Pl.ndig pw == pw.length) by
      unfold Pl.formed
      rw [if_neg c1]
      simp only [hs1, ht1, hr, hpt, hr2, his, hq, hpw])
    have b2 := bs_empty r2
    have b3 := bs_empty pw
    clear hs1 ht1 hr hpt hr2 his hq hpw c1
    generalize bs l = S0 at *
    generalize bs s1 = S1 at *
    generalize bs t1 = T1 at *
    generalize bs r = R1 at *
    generalize bs r2 = R2 at *
    generalize bs q = Q1 at *
    generalize bs pw = W1 at *
    generalize Pl.ndig s1 = n at *
    generalize Pl.ndig r = k at *
    generalize Pl.ndig pw = j at *
    go_enter Tryz.func16, Tryz.ntmps16
    go_wp2_with fail
    refine (HT1.out _).mono ?_
    rintro e w' ⟨rfl, rfl⟩
    go_wp2_with fail
    refine (HD1.out _).mono ?_
    rintro e w1 ⟨rfl, hB1⟩
    have e1' := e1.out
    have e2' := e2.out
    go_wp2_with fail
    refine (HC1.out _).mono ?_
    rintro e w' ⟨rfl, rfl⟩
    go_wp2_with fail
    refine (HD2.out _).mono ?_
    rintro e w2 ⟨rfl, hB2⟩
    have hB := hB1.trans (hB2.mono hB1.size)
    clear hB1 hB2
    by_cases hn0 : n = 0
    · have hb : ((n : Int) == 0) = true := by rw [beq_iff_eq]; omega
      have HQ := Lib.hid (show Pl.formed l = false by rw [HR.out, if_pos (.inl hn0)])
      clear hn0 HR
      go_wp2_with fail
      go_ret
      exact ⟨ret_bool (by rw [HQ.out]), hB⟩
    have hb : ((n : Int) == 0) = false := by rw [beq_eq_false_iff_ne]; omega
    cases pt
    · have HQ := Lib.hid (show Pl.formed l = false by rw [HR.out, if_pos (.inr (.inl rfl))])
      clear hn0 HR
      go_wp2_with fail
      go_ret
      exact ⟨ret_bool (by rw [HQ.out]), hB⟩
    by_cases hk0 : k = 0
    · have hb2 : ((k : Int) == 0) = true := by rw [beq_iff_eq]; omega
      have HQ := Lib.hid (show Pl.formed l = false by rw [HR.out, if_pos (.inr (.inr hk0))])
      clear hn0 hk0 HR
      go_wp2_with fail
      go_ret
      exact ⟨ret_bool (by rw [HQ.out]), hB⟩
    have hb2 : ((k : Int) == 0) = false := by rw [beq_eq_false_iff_ne]; omega
    have HR2 := Lib.hid (show Pl.formed l = if r2.isEmpty then true else (is && !pw.isEmpty && j == pw.length) by rw [HR.out, if_neg (by simp [hn0, hk0])])
    clear HR hn0 hk0
    cases he2 : r2.isEmpty
    · rw [he2] at b2 HR2
      go_wp2_with fail
      refine (HC2.out _).mono ?_
      rintro e w' ⟨rfl, rfl⟩
      go_wp2_with fail
      refine (HT2.out _).mono ?_
      rintro e w' ⟨rfl, rfl⟩
      cases is
      · have HQ := Lib.hid (show Pl.formed l = false by rw [HR2.out]; simp)
        clear HR2
        go_wp2_with fail
        go_ret
        exact ⟨ret_bool (by rw [HQ.out]), hB⟩
      cases he3 : pw.isEmpty
      · rw [he3] at b3 HR2
        go_wp2_with fail
        refine (HD3.out _).mono ?_
        rintro e w3 ⟨rfl, hB3⟩
        have HQ := Lib.hid (show Pl.formed l = ((j : Int) == (pw.length : Int)) by
          rw [HR2.out, Bool.eq_iff_iff]; simp; omega)
        clear HR2
        go_wp2_with fail
        go_ret
        exact ⟨ret_bool (by rw [HQ.out]), hB.trans (hB3.mono hB.size)⟩
      · rw [he3] at b3 HR2
        have HQ := Lib.hid (show Pl.formed l = false by rw [HR2.out]; simp)
        clear HR2
        go_wp2_with fail
        go_ret
        exact ⟨ret_bool (by rw [HQ.out]), hB⟩
    · rw [he2] at b2 HR2
      have HQ := Lib.hid (show Pl.formed l = true by rw [HR2.out]; simp)
      clear HR2
      go_wp2_with fail
      go_ret
      exact ⟨ret_bool (by rw [HQ.out]), hB⟩
end Go.Proofs.YtpilniljhmkedaaGreatDoor
namespace Go.Proofs.YtpilniljhmkedaaGreatDoor
namespace Pl
/-- What has been read of a text's digits: the number, how many digits, how many of these are in the number, where the point stands, whether a point, a digit was seen, whether something was left out. -/
structure St where
  m : Nat
  nd : Nat
  nm : Nat
  dp : Int
  dot : Bool
  dig : Bool
  tr : Bool
def St.zero : St := ⟨0, 0, 0, 0, false, false, false⟩
def step (s : St) (c : UInt8) : St :=
  if c = 46 then ⟨s.m, s.nd, s.nm, s.nd, true, s.dig, s.tr⟩
  else if c = 48 ∧ s.nd = 0 then ⟨s.m, s.nd, s.nm, s.dp - 1, s.dot, true, s.tr⟩
  else if s.nm < 19 then ⟨s.m * 10 + (c.toNat - 48), s.nd + 1, s.nm + 1, s.dp, s.dot, true, s.tr⟩
  else ⟨s.m, s.nd + 1, s.nm, s.dp, s.dot, true, s.tr || decide (c ≠ 48)⟩
def digit (c : UInt8) : Prop := 48 ≤ c.toNat ∧ c.toNat ≤ 57
def run (l : List UInt8) : St := l.foldl step St.zero
theorem run_snoc (l : List UInt8) (c : UInt8) : run (l ++ [c]) = step (run l) c := by simp [run]
structure St.Ok (s : St) (k : Nat) : Prop where
  m : s.m < 10 ^ s.nm
  nm : s.nm ≤ 19
  nd : s.nd ≤ k
  lo : -(k : Int) ≤ s.dp
  up : s.dp ≤ k
theorem step_ok {s : St} {k : Nat} {c : UInt8} (h : s.Ok k) (hc : c = 46 ∨ digit c) : (step s c).Ok (k + 1) := by
  have h1 := h.m; have h2 := h.nm; have h3 := h.nd; have h4 := h.lo; have h5 := h.up
  unfold step
  split
  · exact ⟨h1, h2, by simp only; omega, by simp only; omega, by simp only; omega⟩
  · split
    · exact ⟨h1, h2, by simp only; omega, by simp only; omega, by simp only; omega⟩
    · split
      · rename_i h46 _ _
        have hd : digit c := by rcases hc with e | e; exact absurd e h46; exact e
        refine ⟨?_, by simp only; omega, by simp only; omega, by simp only; omega, by simp only; omega⟩
        simp only
        have := hd.2
        rw [Nat.pow_succ]; omega
      · exact ⟨h1, h2, by simp only; omega, by simp only; omega, by simp only; omega⟩
theorem fold_ok : ∀ (l : List UInt8) (s : St) (k : Nat), s.Ok k → (∀ c ∈ l, c = 46 ∨ digit c) → (l.foldl step s).Ok (k + l.length)
  | [], s, k, h, _ => h
  | c :: l, s, k, h, hl => by
    rw [List.foldl_cons, List.length_cons, show k + (l.length + 1) = k + 1 + l.length by omega]
    exact fold_ok l _ _ (step_ok h (hl c (by simp))) (fun x hx => hl x (by simp [hx]))
theorem run_ok (l : List UInt8) (h : ∀ c ∈ l, c = 46 ∨ digit c) : (run l).Ok l.length := by
  have := fold_ok l St.zero 0 ⟨by decide, by decide, by decide, by decide, by decide⟩ h
  rwa [Nat.zero_add] at this
/-- A power's digits. -/
def estep (e : Nat) (c : UInt8) : Nat := if e < 10000 then e * 10 + (c.toNat - 48) else e
def erun (l : List UInt8) : Nat := l.foldl estep 0
theorem erun_snoc (l : List UInt8) (c : UInt8) : erun (l ++ [c]) = estep (erun l) c := by simp [erun]
theorem efold_le : ∀ (l : List UInt8) (e : Nat), e ≤ 100000 → (∀ c ∈ l, digit c) → l.foldl estep e ≤ 100000
  | [], e, h, _ => h
  | c :: l, e, h, hl => by
    rw [List.foldl_cons]
    refine efold_le l _ ?_ (fun x hx => hl x (by simp [hx]))
    have h2 := hl c (by simp)
    unfold estep digit at *
    split <;> omega
theorem erun_le (l : List UInt8) (h : ∀ c ∈ l, digit c) : erun l ≤ 100000 := efold_le l 0 (by decide) h
end Pl
end Go.Proofs.YtpilniljhmkedaaGreatDoor
namespace Go.Proofs.YtpilniljhmkedaaGreatDoor
open Go.RowKit Go.Lib
/-- The bytes of a text at a place. -/
def At (s : ByteArray) (i : Nat) (l : List UInt8) : Prop := ∀ (k : Nat) (h : k < l.length) (h2 : i + k < s.size), s[i + k] = l[k]
theorem At.get {s : ByteArray} {i : Nat} {l : List UInt8} (h : At s i l) {k p : Nat} (hk : k < l.length) (hq : p < s.size) (hp : p = i + k) : s[p]'hq = l[k] := by
  subst hp; exact h k hk hq
def MantOk (M : List UInt8) : Prop := (∀ c ∈ M, c = 46 ∨ Pl.digit c) ∧ ∀ k (h : k < M.length), M[k] = 46 → (Pl.run (M.take k)).dot = false
def Pl.expOf (s : Pl.St) (e : Int) : Int := if s.m = 0 then 0 else s.dp + e - s.nm
/-- What a text of digits with a point, and a power, is read as. -/
def rfOk (s : Pl.St) (e : Int) (neg : Bool) (n : Nat) (w : World) (en : Ending) (w' : World) : Prop :=
  en = .returned (.tuple #[.int .u64 s.m, .int .i64 (Pl.expOf s e), .bool neg, .bool s.tr, .bool false, .int .i64 n, .bool true]) ∧ w' = w
theorem int_eq {k : IntKind} {a b : Int} (h : a = b) : Value.int k a = Value.int k b := by rw [h]
theorem Pl.step_zero {c : UInt8} {m nd nm : Nat} {dp : Int} {dot dig tr : Bool} (h1 : c.toNat = 48) (h2 : nd = 0) : Pl.step ⟨m, nd, nm, dp, dot, dig, tr⟩ c = ⟨m, nd, nm, dp - 1, dot, true, tr⟩ := by
  have hc : c = 48 := UInt8.toNat_inj.1 h1
  subst hc h2
  rfl
theorem Pl.step_in {c : UInt8} {m nd nm : Nat} {dp : Int} {dot dig tr : Bool} (h0 : 48 ≤ c.toNat) (h1 : ¬ (c.toNat = 48 ∧ nd = 0)) (h2 : nm < 19) : Pl.step ⟨m, nd, nm, dp, dot, dig, tr⟩ c = ⟨m * 10 + (c.toNat - 48), nd + 1, nm + 1, dp, dot, true, tr⟩ := by
  unfold Pl.step
  rw [if_neg (by intro e; subst e; revert h0; decide), if_neg (by rintro ⟨rfl, h⟩; exact h1 ⟨rfl, h⟩), if_pos h2]
theorem Pl.step_out {c : UInt8} {m nd nm : Nat} {dp : Int} {dot dig tr : Bool} (h0 : 48 ≤ c.toNat) (h1 : ¬ (c.toNat = 48 ∧ nd = 0)) (h2 : ¬ nm < 19) : Pl.step ⟨m, nd, nm, dp, dot, dig, tr⟩ c = ⟨m, nd + 1, nm, dp, dot, true, if c.toNat = 48 then tr else true⟩ := by
  unfold Pl.step
  rw [if_neg (by intro e; subst e; revert h0; decide), if_neg (by rintro ⟨rfl, h⟩; exact h1 ⟨rfl, h⟩), if_neg h2]
  congr 1
  by_cases h : c.toNat = 48
  · have hc : c = 48 := UInt8.toNat_inj.1 h
    subst hc; simp
  · rw [if_neg h, decide_eq_true (by intro e; subst e; exact h rfl)]; simp
theorem low_x_fin : ∀ n : Fin 58, (n.val = 46 ∨ 48 ≤ n.val) → (bits .or .u8 (n.val : Int) 32 == 120) = false := by decide +kernel
theorem low_x {c : UInt8} (h : c = 46 ∨ Pl.digit c) : (bits .or .u8 (c.toNat : Int) 32 == 120) = false := by
  have hn : c.toNat = 46 ∨ (48 ≤ c.toNat ∧ c.toNat ≤ 57) := by
    rcases h with e | e
    · left; rw [e]; rfl
    · right; exact e
  exact low_x_fin ⟨c.toNat, by omega⟩ (by simp only; omega)
end Go.Proofs.YtpilniljhmkedaaGreatDoor
namespace Go.Proofs.YtpilniljhmkedaaGreatDoor
open Go.RowKit Go.Lib

set_option maxHeartbeats 4000000 in
set_option maxRecDepth 100000 in
theorem read_pos_none (s : ByteArray) (M : List UInt8) (w : World) (hsz : Hid (s.size = 0 + M.length)) (hM : MantOk M) (h3 : 3 ≤ M.length) (hl : M.length ≤ 1000) (hat : At s 0 M) (hdig : (Pl.run M).dig = true) (hdot : (Pl.run M).dot = true)
    (hd0 : Pl.digit M[0]) :
    Calls Tryz.prog 131 #[.string s] w (rfOk (Pl.run M) 0 false (0 + M.length) w) := by
  have hs0 : s.size = 0 + M.length := hsz.out
  obtain ⟨N, hN⟩ : ∃ N, 0 + M.length = N := ⟨_, rfl⟩
  rw [hN] at hs0 ⊢
  have hN3 : 0 + 3 ≤ N := by omega
  have hN4 : N ≤ 2002 := by omega
  have q0 : 0 < s.size := by omega
  have q1 : 0 + 1 < s.size := by omega
  have a0 : s[0]'q0 = M[0] := hat 0 (by omega) (by omega)
  have a1 : s[0 + 1]'q1 = M[1] := hat 1 (by omega) (by omega)
  have hc1 : (bits .or .u8 (M[1].toNat : Int) 32 == 120) = false := low_x (hM.1 _ (List.getElem_mem _))
  generalize M[0] = c0 at a0 hd0
  generalize M[1] = c1 at a1 hc1
  unfold Pl.digit at hd0
  have b1 : ((c0.toNat : Int) == 43) = false := by rw [beq_eq_false_iff_ne]; omega
  have b2 : ((c0.toNat : Int) == 45) = false := by rw [beq_eq_false_iff_ne]; omega
  obtain ⟨bb, b3⟩ : ∃ bb : Bool, ((c0.toNat : Int) == 48) = bb := ⟨_, rfl⟩
  have HN := Lib.hid hN
  have hM1 := Lib.hid hl
  clear hN h3 hl hsz
  have HA := Lib.hid hat
  have HM := Lib.hid hM
  have HG := Lib.hid (show (Pl.run M).dig = true ∧ (Pl.run M).dot = true from ⟨hdig, hdot⟩)
  clear hat hM hdig hdot
  cases bb
  all_goals
    go_enter Tryz.func131, Tryz.ntmps131
    go_wp2_with fail
    go_step3
    go_wp2_with (refine (Tryz.internal_strconv_lower _ _).mono ?_; rintro e w' ⟨rfl, rfl⟩)
    go_step3
    go_wp2_with fail
    go_loop [2, 5, 7, 9, 13, 14, 15, 16, 17] (fun v2 v5 v7 v9 v13 v14 v15 v16 v17 => ∃ (i m nd nm : Nat) (dp : Int) (dot dig tr : Bool), 0 ≤ i ∧ i ≤ 0 + M.length ∧ Hid (Pl.run (M.take (i - 0)) = ⟨m, nd, nm, dp, dot, dig, tr⟩) ∧ v7 = .int .i64 i ∧ v2 = .int .u64 m ∧ v5 = .bool tr ∧ v9 = .bool false ∧ v13 = .bool dot ∧ v14 = .bool dig ∧ v15 = .int .i64 nd ∧ v16 = .int .i64 nm ∧ v17 = .int .i64 dp) (fun _ _ v7 _ _ _ _ _ _ => N - (RowKit.intOf v7).toNat)
    case atStart => exact ⟨0, 0, 0, 0, 0, false, false, false, Nat.le_refl _, by omega, Lib.hid rfl, rfl, rfl, rfl, rfl, rfl, rfl, rfl, rfl, rfl⟩
    case round =>
      obtain ⟨i, m, nd, nm, dp, dot, dig, tr, hi0, hk, hst, rfl, rfl, rfl, rfl, rfl, rfl, rfl, rfl, rfl⟩ := hrel
      have hok := Pl.run_ok (M.take (i - 0)) (fun c hc => HM.out.1 c (List.mem_of_mem_take hc))
      rw [hst.out, List.length_take, Nat.min_eq_left (by omega)] at hok
      have o1 := hok.m
      have o2 : nm ≤ 19 := hok.nm
      have o3 : nd ≤ 1001 := by have := hok.nd; have := hM1.out; simp only at *; omega
      have o4 : -1001 ≤ dp := by have := hok.lo; have := hM1.out; simp only at *; omega
      have o5 : dp ≤ 1001 := by have := hok.up; have := hM1.out; simp only at *; omega
      have hk1 : i ≤ N := by have := HN.out; omega
      have o6 : m < 10000000000000000000 := Nat.lt_of_lt_of_le o1 (Nat.pow_le_pow_right (n := 10) (by decide) o2)
      have o7 : nm < 19 → m < 1000000000000000000 := fun h => Nat.lt_of_lt_of_le o1 (Nat.pow_le_pow_right (n := 10) (j := 18) (by decide) (by simp only; omega))
      clear hok o1
      by_cases hlt : i < 0 + M.length
      · have hk2 : i < N := by have := HN.out; omega
        have qk : i < s.size := by omega
        have hlt2 : i - 0 < M.length := by omega
        have ak : s[i]'qk = M[i - 0] := HA.out.get hlt2 qk (by omega)
        have hck := HM.out.1 M[i - 0] (List.getElem_mem _)
        have hdk := Lib.hid (HM.out.2 (i - 0) hlt2)
        have HT := Lib.hid (show Pl.run (M.take (i + 1 - 0)) = Pl.step ⟨m, nd, nm, dp, dot, dig, tr⟩ M[i - 0] by rw [show i + 1 - 0 = i - 0 + 1 by omega, List.take_succ_eq_append_getElem hlt2, Pl.run_snoc, hst.out])
        generalize M[i - 0] = c at ak hck hdk HT
        rcases hck with rfl | hck
        · obtain rfl : dot = false := by have := hdk.out rfl; rw [hst.out] at this; exact this
          clear hdk o6 o7
          go_wp2_with fail
          go_round
          case rel => exact ⟨i + 1, m, nd, nm, nd, true, dig, tr, by omega, by omega, Lib.hid (by rw [HT.out]; rfl), by go_num, rfl, rfl, rfl, rfl, rfl, rfl, rfl, rfl⟩
          case measure => simp [RowKit.intOf]; omega
        · unfold Pl.digit at hck
          obtain ⟨hc1, hc2⟩ := hck
          have d95 : ((c.toNat : Int) == 95) = false := by rw [beq_eq_false_iff_ne]; omega
          have d46 : ((c.toNat : Int) == 46) = false := by rw [beq_eq_false_iff_ne]; omega
          have HC := Lib.hid (show 48 ≤ c.toNat from hc1)
          clear hdk
          by_cases e48 : c.toNat = 48
          · have d48 : ((c.toNat : Int) == 48) = true := by rw [beq_iff_eq]; omega
            have d48n : ((c.toNat : Int) != 48) = false := by simp; omega
            by_cases end0 : nd = 0
            · have n0 : ((nd : Int) == 0) = true := by rw [beq_iff_eq]; omega
              have HS := Lib.hid (HT.out.trans (Pl.step_zero e48 end0))
              clear e48 end0 HT o6 o7
              go_wp2_with fail
              go_round
              case rel => exact ⟨i + 1, m, nd, nm, dp - 1, dot, true, tr, by omega, by omega, HS, by go_num, rfl, rfl, rfl, rfl, rfl, rfl, rfl, rfl⟩
              case measure => simp [RowKit.intOf]; omega
            · have n0 : ((nd : Int) == 0) = false := by rw [beq_eq_false_iff_ne]; omega
              by_cases h19 : nm < 19
              · have o8 := o7 h19
                have HS := Lib.hid (HT.out.trans (Pl.step_in hc1 (by omega) h19))
                clear e48 end0 HT o6 o7
                go_wp2_with fail
                go_round
                case rel => exact ⟨i + 1, m * 10 + (c.toNat - 48), nd + 1, nm + 1, dp, dot, true, tr, by omega, by omega, HS, by go_num, int_eq (by have := HC.out; omega), rfl, rfl, rfl, rfl, by go_num, by go_num, rfl⟩
                case measure => simp [RowKit.intOf]; omega
              · have HS := Lib.hid (HT.out.trans (Pl.step_out hc1 (by omega) h19))
                rw [if_pos e48] at HS
                clear e48 end0 HT o6 o7
                go_wp2_with fail
                go_round
                case rel => exact ⟨i + 1, m, nd + 1, nm, dp, dot, true, tr, by omega, by omega, HS, by go_num, rfl, rfl, rfl, rfl, rfl, by go_num, rfl, rfl⟩
                case measure => simp [RowKit.intOf]; omega
          · have d48 : ((c.toNat : Int) == 48) = false := by rw [beq_eq_false_iff_ne]; omega
            have d48n : ((c.toNat : Int) != 48) = true := by simp; omega
            by_cases h19 : nm < 19
            · have o8 := o7 h19
              have HS := Lib.hid (HT.out.trans (Pl.step_in hc1 (by omega) h19))
              clear e48 HT o6 o7
              go_wp2_with fail
              go_round
              case rel => exact ⟨i + 1, m * 10 + (c.toNat - 48), nd + 1, nm + 1, dp, dot, true, tr, by omega, by omega, HS, by go_num, int_eq (by have := HC.out; omega), rfl, rfl, rfl, rfl, by go_num, by go_num, rfl⟩
              case measure => simp [RowKit.intOf]; omega
            · have HS := Lib.hid (HT.out.trans (Pl.step_out hc1 (by omega) h19))
              rw [if_neg e48] at HS
              clear e48 HT o6 o7
              go_wp2_with fail
              go_round
              case rel => exact ⟨i + 1, m, nd + 1, nm, dp, dot, true, true, by omega, by omega, HS, by go_num, rfl, rfl, rfl, rfl, rfl, by go_num, rfl, rfl⟩
              case measure => simp [RowKit.intOf]; omega
      · obtain rfl : i = 0 + M.length := by omega
        rw [show 0 + M.length - 0 = M.length by omega, List.take_length] at hst
        obtain rfl : dig = true := by have := HG.out.1; rw [hst.out] at this; exact this
        obtain rfl : dot = true := by have := HG.out.2; rw [hst.out] at this; exact this
        rw [HN.out]
        clear o7 hlt
        by_cases hm0 : m = 0
        · have g0 : ((m : Int) != 0) = false := by simp; omega
          have HM0 := Lib.hid hm0
          clear hm0
          go_wp2_with fail
          refine bodyPost_ret (v := .tuple #[.int .u64 m, .int .i64 0, .bool false, .bool tr, .bool false, .int .i64 N, .bool true]) (by simp [results, Tryz.results131, go_sem]) rfl ⟨?_, rfl⟩
          rw [hst.out, show Pl.expOf ⟨m, nd, nm, dp, true, true, tr⟩ 0 = 0 by unfold Pl.expOf; rw [if_pos HM0.out]]
        · have g0 : ((m : Int) != 0) = true := by simp; omega
          go_wp2_with fail
          refine bodyPost_ret (v := .tuple #[.int .u64 m, .int .i64 (dp - nm), .bool false, .bool tr, .bool false, .int .i64 N, .bool true]) (by simp [results, Tryz.results131, go_sem]) rfl ⟨?_, rfl⟩
          rw [hst.out, show Pl.expOf ⟨m, nd, nm, dp, true, true, tr⟩ 0 = dp - nm by unfold Pl.expOf; rw [if_neg hm0]; simp]
end Go.Proofs.YtpilniljhmkedaaGreatDoor
namespace Go.Proofs.YtpilniljhmkedaaGreatDoor
open Go.RowKit Go.Lib

set_option maxHeartbeats 4000000 in
set_option maxRecDepth 100000 in
theorem read_neg_none (s : ByteArray) (M : List UInt8) (w : World) (hsz : Hid (s.size = 1 + M.length)) (hM : MantOk M) (h3 : 3 ≤ M.length) (hl : M.length ≤ 1000) (hat : At s 1 M) (hdig : (Pl.run M).dig = true) (hdot : (Pl.run M).dot = true)
    (hd0 : Pl.digit M[0]) (q9 : 0 < s.size) (hsg : s[0]'q9 = 45) :
    Calls Tryz.prog 131 #[.string s] w (rfOk (Pl.run M) 0 true (1 + M.length) w) := by
  have hs0 : s.size = 1 + M.length := hsz.out
  obtain ⟨N, hN⟩ : ∃ N, 1 + M.length = N := ⟨_, rfl⟩
  rw [hN] at hs0 ⊢
  have hN3 : 1 + 3 ≤ N := by omega
  have hN4 : N ≤ 2002 := by omega
  have q0 : 1 < s.size := by omega
  have q1 : 1 + 1 < s.size := by omega
  have a0 : s[1]'q0 = M[0] := hat 0 (by omega) (by omega)
  have a1 : s[1 + 1]'q1 = M[1] := hat 1 (by omega) (by omega)
  have hc1 : (bits .or .u8 (M[1].toNat : Int) 32 == 120) = false := low_x (hM.1 _ (List.getElem_mem _))
  generalize M[0] = c0 at a0 hd0
  generalize M[1] = c1 at a1 hc1
  unfold Pl.digit at hd0
  have b1 : ((c0.toNat : Int) == 43) = false := by rw [beq_eq_false_iff_ne]; omega
  have b2 : ((c0.toNat : Int) == 45) = false := by rw [beq_eq_false_iff_ne]; omega
  obtain ⟨bb, b3⟩ : ∃ bb : Bool, ((c0.toNat : Int) == 48) = bb := ⟨_, rfl⟩
  have HN := Lib.hid hN
  have hM1 := Lib.hid hl
  clear hN h3 hl hsz
  have HA := Lib.hid hat
  have HM := Lib.hid hM
  have HG := Lib.hid (show (Pl.run M).dig = true ∧ (Pl.run M).dot = true from ⟨hdig, hdot⟩)
  clear hat hM hdig hdot
  cases bb
  all_goals
    go_enter Tryz.func131, Tryz.ntmps131
    go_wp2_with fail
    go_step3
    go_wp2_with (refine (Tryz.internal_strconv_lower _ _).mono ?_; rintro e w' ⟨rfl, rfl⟩)
    go_step3
    go_wp2_with fail
    go_loop [2, 5, 7, 9, 13, 14, 15, 16, 17] (fun v2 v5 v7 v9 v13 v14 v15 v16 v17 => ∃ (i m nd nm : Nat) (dp : Int) (dot dig tr : Bool), 1 ≤ i ∧ i ≤ 1 + M.length ∧ Hid (Pl.run (M.take (i - 1)) = ⟨m, nd, nm, dp, dot, dig, tr⟩) ∧ v7 = .int .i64 i ∧ v2 = .int .u64 m ∧ v5 = .bool tr ∧ v9 = .bool false ∧ v13 = .bool dot ∧ v14 = .bool dig ∧ v15 = .int .i64 nd ∧ v16 = .int .i64 nm ∧ v17 = .int .i64 dp) (fun _ _ v7 _ _ _ _ _ _ => N - (RowKit.intOf v7).toNat)
    case atStart => exact ⟨1, 0, 0, 0, 0, false, false, false, Nat.le_refl _, by omega, Lib.hid rfl, rfl, rfl, rfl, rfl, rfl, rfl, rfl, rfl, rfl⟩
    case round =>
      obtain ⟨i, m, nd, nm, dp, dot, dig, tr, hi0, hk, hst, rfl, rfl, rfl, rfl, rfl, rfl, rfl, rfl, rfl⟩ := hrel
      have hok := Pl.run_ok (M.take (i - 1)) (fun c hc => HM.out.1 c (List.mem_of_mem_take hc))
      rw [hst.out, List.length_take, Nat.min_eq_left (by omega)] at hok
      have o1 := hok.m
      have o2 : nm ≤ 19 := hok.nm
      have o3 : nd ≤ 1001 := by have := hok.nd; have := hM1.out; simp only at *; omega
      have o4 : -1001 ≤ dp := by have := hok.lo; have := hM1.out; simp only at *; omega
      have o5 : dp ≤ 1001 := by have := hok.up; have := hM1.out; simp only at *; omega
      have hk1 : i ≤ N := by have := HN.out; omega
      have o6 : m < 10000000000000000000 := Nat.lt_of_lt_of_le o1 (Nat.pow_le_pow_right (n := 10) (by decide) o2)
      have o7 : nm < 19 → m < 1000000000000000000 := fun h => Nat.lt_of_lt_of_le o1 (Nat.pow_le_pow_right (n := 10) (j := 18) (by decide) (by simp only; omega))
      clear hok o1
      by_cases hlt : i < 1 + M.length
      · have hk2 : i < N := by have := HN.out; omega
        have qk : i < s.size := by omega
        have hlt2 : i - 1 < M.length := by omega
        have ak : s[i]'qk = M[i - 1] := HA.out.get hlt2 qk (by omega)
        have hck := HM.out.1 M[i - 1] (List.getElem_mem _)
        have hdk := Lib.hid (HM.out.2 (i - 1) hlt2)
        have HT := Lib.hid (show Pl.run (M.take (i + 1 - 1)) = Pl.step ⟨m, nd, nm, dp, dot, dig, tr⟩ M[i - 1] by rw [show i + 1 - 1 = i - 1 + 1 by omega, List.take_succ_eq_append_getElem hlt2, Pl.run_snoc, hst.out])
        generalize M[i - 1] = c at ak hck hdk HT
        rcases hck with rfl | hck
        · obtain rfl : dot = false := by have := hdk.out rfl; rw [hst.out] at this; exact this
          clear hdk o6 o7
          go_wp2_with fail
          go_round
          case rel => exact ⟨i + 1, m, nd, nm, nd, true, dig, tr, by omega, by omega, Lib.hid (by rw [HT.out]; rfl), by go_num, rfl, rfl, rfl, rfl, rfl, rfl, rfl, rfl⟩
          case measure => simp [RowKit.intOf]; omega
        · unfold Pl.digit at hck
          obtain ⟨hc1, hc2⟩ := hck
          have d95 : ((c.toNat : Int) == 95) = false := by rw [beq_eq_false_iff_ne]; omega
          have d46 : ((c.toNat : Int) == 46) = false := by rw [beq_eq_false_iff_ne]; omega
          have HC := Lib.hid (show 48 ≤ c.toNat from hc1)
          clear hdk
          by_cases e48 : c.toNat = 48
          · have d48 : ((c.toNat : Int) == 48) = true := by rw [beq_iff_eq]; omega
            have d48n : ((c.toNat : Int) != 48) = false := by simp; omega
            by_cases end0 : nd = 0
            · have n0 : ((nd : Int) == 0) = true := by rw [beq_iff_eq]; omega
              have HS := Lib.hid (HT.out.trans (Pl.step_zero e48 end0))
              clear e48 end0 HT o6 o7
              go_wp2_with fail
              go_round
              case rel => exact ⟨i + 1, m, nd, nm, dp - 1, dot, true, tr, by omega, by omega, HS, by go_num, rfl, rfl, rfl, rfl, rfl, rfl, rfl, rfl⟩
              case measure => simp [RowKit.intOf]; omega
            · have n0 : ((nd : Int) == 0) = false := by rw [beq_eq_false_iff_ne]; omega
              by_cases h19 : nm < 19
              · have o8 := o7 h19
                have HS := Lib.hid (HT.out.trans (Pl.step_in hc1 (by omega) h19))
                clear e48 end0 HT o6 o7
                go_wp2_with fail
                go_round
                case rel => exact ⟨i + 1, m * 10 + (c.toNat - 48), nd + 1, nm + 1, dp, dot, true, tr, by omega, by omega, HS, by go_num, int_eq (by have := HC.out; omega), rfl, rfl, rfl, rfl, by go_num, by go_num, rfl⟩
                case measure => simp [RowKit.intOf]; omega
              · have HS := Lib.hid (HT.out.trans (Pl.step_out hc1 (by omega) h19))
                rw [if_pos e48] at HS
                clear e48 end0 HT o6 o7
                go_wp2_with fail
                go_round
                case rel => exact ⟨i + 1, m, nd + 1, nm, dp, dot, true, tr, by omega, by omega, HS, by go_num, rfl, rfl, rfl, rfl, rfl, by go_num, rfl, rfl⟩
                case measure => simp [RowKit.intOf]; omega
          · have d48 : ((c.toNat : Int) == 48) = false := by rw [beq_eq_false_iff_ne]; omega
            have d48n : ((c.toNat : Int) != 48) = true := by simp; omega
            by_cases h19 : nm < 19
            · have o8 := o7 h19
              have HS := Lib.hid (HT.out.trans (Pl.step_in hc1 (by omega) h19))
              clear e48 HT o6 o7
              go_wp2_with fail
              go_round
              case rel => exact ⟨i + 1, m * 10 + (c.toNat - 48), nd + 1, nm + 1, dp, dot, true, tr, by omega, by omega, HS, by go_num, int_eq (by have := HC.out; omega), rfl, rfl, rfl, rfl, by go_num, by go_num, rfl⟩
              case measure => simp [RowKit.intOf]; omega
            · have HS := Lib.hid (HT.out.trans (Pl.step_out hc1 (by omega) h19))
              rw [if_neg e48] at HS
              clear e48 HT o6 o7
              go_wp2_with fail
              go_round
              case rel => exact ⟨i + 1, m, nd + 1, nm, dp, dot, true, true, by omega, by omega, HS, by go_num, rfl, rfl, rfl, rfl, rfl, by go_num, rfl, rfl⟩
              case measure => simp [RowKit.intOf]; omega
      · obtain rfl : i = 1 + M.length := by omega
        rw [show 1 + M.length - 1 = M.length by omega, List.take_length] at hst
        obtain rfl : dig = true := by have := HG.out.1; rw [hst.out] at this; exact this
        obtain rfl : dot = true := by have := HG.out.2; rw [hst.out] at this; exact this
        rw [HN.out]
        clear o7 hlt
        by_cases hm0 : m = 0
        · have g0 : ((m : Int) != 0) = false := by simp; omega
          have HM0 := Lib.hid hm0
          clear hm0
          go_wp2_with fail
          refine bodyPost_ret (v := .tuple #[.int .u64 m, .int .i64 0, .bool true, .bool tr, .bool false, .int .i64 N, .bool true]) (by simp [results, Tryz.results131, go_sem]) rfl ⟨?_, rfl⟩
          rw [hst.out, show Pl.expOf ⟨m, nd, nm, dp, true, true, tr⟩ 0 = 0 by unfold Pl.expOf; rw [if_pos HM0.out]]
        · have g0 : ((m : Int) != 0) = true := by simp; omega
          go_wp2_with fail
          refine bodyPost_ret (v := .tuple #[.int .u64 m, .int .i64 (dp - nm), .bool true, .bool tr, .bool false, .int .i64 N, .bool true]) (by simp [results, Tryz.results131, go_sem]) rfl ⟨?_, rfl⟩
          rw [hst.out, show Pl.expOf ⟨m, nd, nm, dp, true, true, tr⟩ 0 = dp - nm by unfold Pl.expOf; rw [if_neg hm0]; simp]
end Go.Proofs.YtpilniljhmkedaaGreatDoor
namespace Go.Proofs.YtpilniljhmkedaaGreatDoor
open Go.RowKit Go.Lib

set_option maxHeartbeats 4000000 in
set_option maxRecDepth 100000 in
theorem read_pos_exp (s : ByteArray) (M D : List UInt8) (w : World) (hsz : Hid (s.size = 0 + M.length + 1 + D.length)) (hD : 0 < D.length) (hDl : D.length ≤ 1000) (hDd : ∀ c ∈ D, Pl.digit c) (hAD : At s (0 + M.length + 1) D) (qE : 0 + M.length < s.size) (hE : s[0 + M.length]'qE = 101) (hM : MantOk M) (h3 : 3 ≤ M.length) (hl : M.length ≤ 1000) (hat : At s 0 M) (hdig : (Pl.run M).dig = true) (hdot : (Pl.run M).dot = true)
    (hd0 : Pl.digit M[0]) :
    Calls Tryz.prog 131 #[.string s] w (rfOk (Pl.run M) (Pl.erun D : Int) false (0 + M.length + 1 + D.length) w) := by
  have hs0 : s.size = 0 + M.length + 1 + D.length := hsz.out
  obtain ⟨N, hN⟩ : ∃ N, 0 + M.length + 1 + D.length = N := ⟨_, rfl⟩
  rw [hN] at hs0 ⊢
  have hN3 : 0 + 3 ≤ N := by omega
  have hN4 : N ≤ 2002 := by omega
  have q0 : 0 < s.size := by omega
  have q1 : 0 + 1 < s.size := by omega
  have a0 : s[0]'q0 = M[0] := hat 0 (by omega) (by omega)
  have a1 : s[0 + 1]'q1 = M[1] := hat 1 (by omega) (by omega)
  have hc1 : (bits .or .u8 (M[1].toNat : Int) 32 == 120) = false := low_x (hM.1 _ (List.getElem_mem _))
  generalize M[0] = c0 at a0 hd0
  generalize M[1] = c1 at a1 hc1
  unfold Pl.digit at hd0
  have b1 : ((c0.toNat : Int) == 43) = false := by rw [beq_eq_false_iff_ne]; omega
  have b2 : ((c0.toNat : Int) == 45) = false := by rw [beq_eq_false_iff_ne]; omega
  obtain ⟨bb, b3⟩ : ∃ bb : Bool, ((c0.toNat : Int) == 48) = bb := ⟨_, rfl⟩
  have HN := Lib.hid hN
  have hM1 := Lib.hid hl
  clear hN h3 hl hsz
  have HE := Lib.hid hE
  have HAD := Lib.hid hAD
  have HD := Lib.hid hDd
  clear hE hAD hDd
  have HA := Lib.hid hat
  have HM := Lib.hid hM
  have HG := Lib.hid (show (Pl.run M).dig = true ∧ (Pl.run M).dot = true from ⟨hdig, hdot⟩)
  clear hat hM hdig hdot
  cases bb
  all_goals
    go_enter Tryz.func131, Tryz.ntmps131
    go_wp2_with fail
    go_step3
    go_wp2_with (refine (Tryz.internal_strconv_lower _ _).mono ?_; rintro e w' ⟨rfl, rfl⟩)
    go_step3
    go_wp2_with fail
    go_loop [2, 5, 7, 9, 13, 14, 15, 16, 17] (fun v2 v5 v7 v9 v13 v14 v15 v16 v17 => ∃ (i m nd nm : Nat) (dp : Int) (dot dig tr : Bool), 0 ≤ i ∧ i ≤ 0 + M.length ∧ Hid (Pl.run (M.take (i - 0)) = ⟨m, nd, nm, dp, dot, dig, tr⟩) ∧ v7 = .int .i64 i ∧ v2 = .int .u64 m ∧ v5 = .bool tr ∧ v9 = .bool false ∧ v13 = .bool dot ∧ v14 = .bool dig ∧ v15 = .int .i64 nd ∧ v16 = .int .i64 nm ∧ v17 = .int .i64 dp) (fun _ _ v7 _ _ _ _ _ _ => N - (RowKit.intOf v7).toNat)
    case atStart => exact ⟨0, 0, 0, 0, 0, false, false, false, Nat.le_refl _, by omega, Lib.hid rfl, rfl, rfl, rfl, rfl, rfl, rfl, rfl, rfl, rfl⟩
    case round =>
      obtain ⟨i, m, nd, nm, dp, dot, dig, tr, hi0, hk, hst, rfl, rfl, rfl, rfl, rfl, rfl, rfl, rfl, rfl⟩ := hrel
      have hok := Pl.run_ok (M.take (i - 0)) (fun c hc => HM.out.1 c (List.mem_of_mem_take hc))
      rw [hst.out, List.length_take, Nat.min_eq_left (by omega)] at hok
      have o1 := hok.m
      have o2 : nm ≤ 19 := hok.nm
      have o3 : nd ≤ 1001 := by have := hok.nd; have := hM1.out; simp only at *; omega
      have o4 : -1001 ≤ dp := by have := hok.lo; have := hM1.out; simp only at *; omega
      have o5 : dp ≤ 1001 := by have := hok.up; have := hM1.out; simp only at *; omega
      have hk1 : i ≤ N := by have := HN.out; omega
      have o6 : m < 10000000000000000000 := Nat.lt_of_lt_of_le o1 (Nat.pow_le_pow_right (n := 10) (by decide) o2)
      have o7 : nm < 19 → m < 1000000000000000000 := fun h => Nat.lt_of_lt_of_le o1 (Nat.pow_le_pow_right (n := 10) (j := 18) (by decide) (by simp only; omega))
      clear hok o1
      by_cases hlt : i < 0 + M.length
      · have hk2 : i < N := by have := HN.out; omega
        have qk : i < s.size := by omega
        have hlt2 : i - 0 < M.length := by omega
        have ak : s[i]'qk = M[i - 0] := HA.out.get hlt2 qk (by omega)
        have hck := HM.out.1 M[i - 0] (List.getElem_mem _)
        have hdk := Lib.hid (HM.out.2 (i - 0) hlt2)
        have HT := Lib.hid (show Pl.run (M.take (i + 1 - 0)) = Pl.step ⟨m, nd, nm, dp, dot, dig, tr⟩ M[i - 0] by rw [show i + 1 - 0 = i - 0 + 1 by omega, List.take_succ_eq_append_getElem hlt2, Pl.run_snoc, hst.out])
        generalize M[i - 0] = c at ak hck hdk HT
        rcases hck with rfl | hck
        · obtain rfl : dot = false := by have := hdk.out rfl; rw [hst.out] at this; exact this
          clear hdk o6 o7
          go_wp2_with fail
          go_round
          case rel => exact ⟨i + 1, m, nd, nm, nd, true, dig, tr, by omega, by omega, Lib.hid (by rw [HT.out]; rfl), by go_num, rfl, rfl, rfl, rfl, rfl, rfl, rfl, rfl⟩
          case measure => simp [RowKit.intOf]; omega
        · unfold Pl.digit at hck
          obtain ⟨hc1, hc2⟩ := hck
          have d95 : ((c.toNat : Int) == 95) = false := by rw [beq_eq_false_iff_ne]; omega
          have d46 : ((c.toNat : Int) == 46) = false := by rw [beq_eq_false_iff_ne]; omega
          have HC := Lib.hid (show 48 ≤ c.toNat from hc1)
          clear hdk
          by_cases e48 : c.toNat = 48
          · have d48 : ((c.toNat : Int) == 48) = true := by rw [beq_iff_eq]; omega
            have d48n : ((c.toNat : Int) != 48) = false := by simp; omega
            by_cases end0 : nd = 0
            · have n0 : ((nd : Int) == 0) = true := by rw [beq_iff_eq]; omega
              have HS := Lib.hid (HT.out.trans (Pl.step_zero e48 end0))
              clear e48 end0 HT o6 o7
              go_wp2_with fail
              go_round
              case rel => exact ⟨i + 1, m, nd, nm, dp - 1, dot, true, tr, by omega, by omega, HS, by go_num, rfl, rfl, rfl, rfl, rfl, rfl, rfl, rfl⟩
              case measure => simp [RowKit.intOf]; omega
            · have n0 : ((nd : Int) == 0) = false := by rw [beq_eq_false_iff_ne]; omega
              by_cases h19 : nm < 19
              · have o8 := o7 h19
                have HS := Lib.hid (HT.out.trans (Pl.step_in hc1 (by omega) h19))
                clear e48 end0 HT o6 o7
                go_wp2_with fail
                go_round
                case rel => exact ⟨i + 1, m * 10 + (c.toNat - 48), nd + 1, nm + 1, dp, dot, true, tr, by omega, by omega, HS, by go_num, int_eq (by have := HC.out; omega), rfl, rfl, rfl, rfl, by go_num, by go_num, rfl⟩
                case measure => simp [RowKit.intOf]; omega
              · have HS := Lib.hid (HT.out.trans (Pl.step_out hc1 (by omega) h19))
                rw [if_pos e48] at HS
                clear e48 end0 HT o6 o7
                go_wp2_with fail
                go_round
                case rel => exact ⟨i + 1, m, nd + 1, nm, dp, dot, true, tr, by omega, by omega, HS, by go_num, rfl, rfl, rfl, rfl, rfl, by go_num, rfl, rfl⟩
                case measure => simp [RowKit.intOf]; omega
          · have d48 : ((c.toNat : Int) == 48) = false := by rw [beq_eq_false_iff_ne]; omega
            have d48n : ((c.toNat : Int) != 48) = true := by simp; omega
            by_cases h19 : nm < 19
            · have o8 := o7 h19
              have HS := Lib.hid (HT.out.trans (Pl.step_in hc1 (by omega) h19))
              clear e48 HT o6 o7
              go_wp2_with fail
              go_round
              case rel => exact ⟨i + 1, m * 10 + (c.toNat - 48), nd + 1, nm + 1, dp, dot, true, tr, by omega, by omega, HS, by go_num, int_eq (by have := HC.out; omega), rfl, rfl, rfl, rfl, by go_num, by go_num, rfl⟩
              case measure => simp [RowKit.intOf]; omega
            · have HS := Lib.hid (HT.out.trans (Pl.step_out hc1 (by omega) h19))
              rw [if_neg e48] at HS
              clear e48 HT o6 o7
              go_wp2_with fail
              go_round
              case rel => exact ⟨i + 1, m, nd + 1, nm, dp, dot, true, true, by omega, by omega, HS, by go_num, rfl, rfl, rfl, rfl, rfl, by go_num, rfl, rfl⟩
              case measure => simp [RowKit.intOf]; omega
      · obtain rfl : i = 0 + M.length := by omega
        rw [show 0 + M.length - 0 = M.length by omega, List.take_length] at hst
        obtain rfl : dig = true := by have := HG.out.1; rw [hst.out] at this; exact this
        obtain rfl : dot = true := by have := HG.out.2; rw [hst.out] at this; exact this
        have hJ : 0 + M.length < N := by have := HN.out; omega
        obtain ⟨J, hJd⟩ : ∃ J, 0 + M.length = J := ⟨_, rfl⟩
        have qJ : J < s.size := by omega
        have aJ : s[J]'qJ = 101 := by subst hJd; exact HE.out
        have hJ2 : J + 1 < N := by have := HN.out; omega
        have q2 : J + 1 < s.size := by omega
        have a2 : s[J + 1]'q2 = D[0] := HAD.out.get hD q2 (by omega)
        have hd2 := HD.out D[0] (List.getElem_mem _)
        generalize D[0] = c2 at a2 hd2
        unfold Pl.digit at hd2
        have f1 : ((c2.toNat : Int) == 43) = false := by rw [beq_eq_false_iff_ne]; omega
        have f2 : ((c2.toNat : Int) == 45) = false := by rw [beq_eq_false_iff_ne]; omega
        have hlow : bits .or .u8 101 32 = 101 := by decide
        have HJ := Lib.hid (show J + 1 + D.length = N by have := HN.out; omega)
        rw [hJd]
        clear o7 hlt hk1 hk hi0
        have HJd := Lib.hid hJd
        clear hJd hJ
        go_wp2_with (refine (Tryz.internal_strconv_lower _ _).mono ?_; rintro e w' ⟨rfl, rfl⟩)
        go_loop [7, 9, 20] (fun v7 v9 v20 => ∃ i e : Nat, J + 1 ≤ i ∧ i ≤ N ∧ v7 = .int .i64 i ∧ v9 = .bool false ∧ v20 = .int .i64 e ∧ Hid (Pl.erun (D.take (i - (J + 1))) = e)) (fun v7 _ _ => N - (RowKit.intOf v7).toNat)
        case atStart => exact ⟨J + 1, 0, Nat.le_refl _, by omega, by go_num, rfl, rfl, Lib.hid (by simp [Pl.erun])⟩
        case round =>
          obtain ⟨i, e, hi1, hi2, rfl, rfl, rfl, he⟩ := hrel
          have hel := Pl.erun_le (D.take (i - (J + 1))) (fun c hc => HD.out c (List.mem_of_mem_take hc))
          rw [he.out] at hel
          by_cases hi3 : i < N
          · have qi : i < s.size := by omega
            have hi4 : i - (J + 1) < D.length := by have := HJ.out; omega
            have ai : s[i]'qi = D[i - (J + 1)] := HAD.out.get hi4 qi (by have := HJd.out; omega)
            have hci := HD.out D[i - (J + 1)] (List.getElem_mem _)
            have HT := Lib.hid (show Pl.erun (D.take (i + 1 - (J + 1))) = Pl.estep e D[i - (J + 1)] by rw [show i + 1 - (J + 1) = i - (J + 1) + 1 by omega, List.take_succ_eq_append_getElem hi4, Pl.erun_snoc, he.out])
            generalize D[i - (J + 1)] = c at ai hci HT
            unfold Pl.digit at hci
            have g95 : ((c.toNat : Int) == 95) = false := by rw [beq_eq_false_iff_ne]; omega
            obtain ⟨hci1, hci2⟩ := hci
            have HC := Lib.hid hci1
            by_cases e4 : e < 10000
            · go_wp2_with fail
              go_round
              case rel => exact ⟨i + 1, e * 10 + (c.toNat - 48), by omega, by omega, by go_num, rfl, int_eq (by have := HC.out; omega), Lib.hid (by rw [HT.out]; unfold Pl.estep; rw [if_pos e4])⟩
              case measure => simp [RowKit.intOf]; omega
            · go_wp2_with fail
              go_round
              case rel => exact ⟨i + 1, e, by omega, by omega, by go_num, rfl, rfl, Lib.hid (by rw [HT.out]; unfold Pl.estep; rw [if_neg e4])⟩
              case measure => simp [RowKit.intOf]; omega
          · obtain rfl : N = i := by omega
            have HE2 := Lib.hid (show Pl.erun D = e by rw [← he.out, List.take_of_length_le (by have := HJ.out; omega)])
            clear hi3
            by_cases hm0 : m = 0
            · have g0 : ((m : Int) != 0) = false := by simp; omega
              have HM0 := Lib.hid hm0
              clear hm0
              go_wp2_with fail
              refine bodyPost_ret (v := .tuple #[.int .u64 m, .int .i64 0, .bool false, .bool tr, .bool false, .int .i64 N, .bool true]) (by simp [results, Tryz.results131, go_sem]) rfl ⟨?_, rfl⟩
              rw [hst.out, HE2.out, show Pl.expOf ⟨m, nd, nm, dp, true, true, tr⟩ (e : Int) = 0 by unfold Pl.expOf; rw [if_pos HM0.out]]
            · have g0 : ((m : Int) != 0) = true := by simp; omega
              go_wp2_with fail
              refine bodyPost_ret (v := .tuple #[.int .u64 m, .int .i64 ((dp + e) - nm), .bool false, .bool tr, .bool false, .int .i64 N, .bool true]) (by simp [results, Tryz.results131, go_sem]) rfl ⟨?_, rfl⟩
              rw [hst.out, HE2.out, show Pl.expOf ⟨m, nd, nm, dp, true, true, tr⟩ (e : Int) = (dp + e) - nm by unfold Pl.expOf; rw [if_neg hm0]]
end Go.Proofs.YtpilniljhmkedaaGreatDoor
namespace Go.Proofs.YtpilniljhmkedaaGreatDoor
open Go.RowKit Go.Lib

set_option maxHeartbeats 4000000 in
set_option maxRecDepth 100000 in
theorem read_neg_exp (s : ByteArray) (M D : List UInt8) (w : World) (hsz : Hid (s.size = 1 + M.length + 1 + D.length)) (hD : 0 < D.length) (hDl : D.length ≤ 1000) (hDd : ∀ c ∈ D, Pl.digit c) (hAD : At s (1 + M.length + 1) D) (qE : 1 + M.length < s.size) (hE : s[1 + M.length]'qE = 101) (hM : MantOk M) (h3 : 3 ≤ M.length) (hl : M.length ≤ 1000) (hat : At s 1 M) (hdig : (Pl.run M).dig = true) (hdot : (Pl.run M).dot = true)
    (hd0 : Pl.digit M[0]) (q9 : 0 < s.size) (hsg : s[0]'q9 = 45) :
    Calls Tryz.prog 131 #[.string s] w (rfOk (Pl.run M) (Pl.erun D : Int) true (1 + M.length + 1 + D.length) w) := by
  have hs0 : s.size = 1 + M.length + 1 + D.length := hsz.out
  obtain ⟨N, hN⟩ : ∃ N, 1 + M.length + 1 + D.length = N := ⟨_, rfl⟩
  rw [hN] at hs0 ⊢
  have hN3 : 1 + 3 ≤ N := by omega
  have hN4 : N ≤ 2002 := by omega
  have q0 : 1 < s.size := by omega
  have q1 : 1 + 1 < s.size := by omega
  have a0 : s[1]'q0 = M[0] := hat 0 (by omega) (by omega)
  have a1 : s[1 + 1]'q1 = M[1] := hat 1 (by omega) (by omega)
  have hc1 : (bits .or .u8 (M[1].toNat : Int) 32 == 120) = false := low_x (hM.1 _ (List.getElem_mem _))
  generalize M[0] = c0 at a0 hd0
  generalize M[1] = c1 at a1 hc1
  unfold Pl.digit at hd0
  have b1 : ((c0.toNat : Int) == 43) = false := by rw [beq_eq_false_iff_ne]; omega
  have b2 : ((c0.toNat : Int) == 45) = false := by rw [beq_eq_false_iff_ne]; omega
  obtain ⟨bb, b3⟩ : ∃ bb : Bool, ((c0.toNat : Int) == 48) = bb := ⟨_, rfl⟩
  have HN := Lib.hid hN
  have hM1 := Lib.hid hl
  clear hN h3 hl hsz
  have HE := Lib.hid hE
  have HAD := Lib.hid hAD
  have HD := Lib.hid hDd
  clear hE hAD hDd
  have HA := Lib.hid hat
  have HM := Lib.hid hM
  have HG := Lib.hid (show (Pl.run M).dig = true ∧ (Pl.run M).dot = true from ⟨hdig, hdot⟩)
  clear hat hM hdig hdot
  cases bb
  all_goals
    go_enter Tryz.func131, Tryz.ntmps131
    go_wp2_with fail
    go_step3
    go_wp2_with (refine (Tryz.internal_strconv_lower _ _).mono ?_; rintro e w' ⟨rfl, rfl⟩)
    go_step3
    go_wp2_with fail
    go_loop [2, 5, 7, 9, 13, 14, 15, 16, 17] (fun v2 v5 v7 v9 v13 v14 v15 v16 v17 => ∃ (i m nd nm : Nat) (dp : Int) (dot dig tr : Bool), 1 ≤ i ∧ i ≤ 1 + M.length ∧ Hid (Pl.run (M.take (i - 1)) = ⟨m, nd, nm, dp, dot, dig, tr⟩) ∧ v7 = .int .i64 i ∧ v2 = .int .u64 m ∧ v5 = .bool tr ∧ v9 = .bool false ∧ v13 = .bool dot ∧ v14 = .bool dig ∧ v15 = .int .i64 nd ∧ v16 = .int .i64 nm ∧ v17 = .int .i64 dp) (fun _ _ v7 _ _ _ _ _ _ => N - (RowKit.intOf v7).toNat)
    case atStart => exact ⟨1, 0, 0, 0, 0, false, false, false, Nat.le_refl _, by omega, Lib.hid rfl, rfl, rfl, rfl, rfl, rfl, rfl, rfl, rfl, rfl⟩
    case round =>
      obtain ⟨i, m, nd, nm, dp, dot, dig, tr, hi0, hk, hst, rfl, rfl, rfl, rfl, rfl, rfl, rfl, rfl, rfl⟩ := hrel
      have hok := Pl.run_ok (M.take (i - 1)) (fun c hc => HM.out.1 c (List.mem_of_mem_take hc))
      rw [hst.out, List.length_take, Nat.min_eq_left (by omega)] at hok
      have o1 := hok.m
      have o2 : nm ≤ 19 := hok.nm
      have o3 : nd ≤ 1001 := by have := hok.nd; have := hM1.out; simp only at *; omega
      have o4 : -1001 ≤ dp := by have := hok.lo; have := hM1.out; simp only at *; omega
      have o5 : dp ≤ 1001 := by have := hok.up; have := hM1.out; simp only at *; omega
      have hk1 : i ≤ N := by have := HN.out; omega
      have o6 : m < 10000000000000000000 := Nat.lt_of_lt_of_le o1 (Nat.pow_le_pow_right (n := 10) (by decide) o2)
      have o7 : nm < 19 → m < 1000000000000000000 := fun h => Nat.lt_of_lt_of_le o1 (Nat.pow_le_pow_right (n := 10) (j := 18) (by decide) (by simp only; omega))
      clear hok o1
      by_cases hlt : i < 1 + M.length
      · have hk2 : i < N := by have := HN.out; omega
        have qk : i < s.size := by omega
        have hlt2 : i - 1 < M.length := by omega
        have ak : s[i]'qk = M[i - 1] := HA.out.get hlt2 qk (by omega)
        have hck := HM.out.1 M[i - 1] (List.getElem_mem _)
        have hdk := Lib.hid (HM.out.2 (i - 1) hlt2)
        have HT := Lib.hid (show Pl.run (M.take (i + 1 - 1)) = Pl.step ⟨m, nd, nm, dp, dot, dig, tr⟩ M[i - 1] by rw [show i + 1 - 1 = i - 1 + 1 by omega, List.take_succ_eq_append_getElem hlt2, Pl.run_snoc, hst.out])
        generalize M[i - 1] = c at ak hck hdk HT
        rcases hck with rfl | hck
        · obtain rfl : dot = false := by have := hdk.out rfl; rw [hst.out] at this; exact this
          clear hdk o6 o7
          go_wp2_with fail
          go_round
          case rel => exact ⟨i + 1, m, nd, nm, nd, true, dig, tr, by omega, by omega, Lib.hid (by rw [HT.out]; rfl), by go_num, rfl, rfl, rfl, rfl, rfl, rfl, rfl, rfl⟩
          case measure => simp [RowKit.intOf]; omega
        · unfold Pl.digit at hck
          obtain ⟨hc1, hc2⟩ := hck
          have d95 : ((c.toNat : Int) == 95) = false := by rw [beq_eq_false_iff_ne]; omega
          have d46 : ((c.toNat : Int) == 46) = false := by rw [beq_eq_false_iff_ne]; omega
          have HC := Lib.hid (show 48 ≤ c.toNat from hc1)
          clear hdk
          by_cases e48 : c.toNat = 48
          · have d48 : ((c.toNat : Int) == 48) = true := by rw [beq_iff_eq]; omega
            have d48n : ((c.toNat : Int) != 48) = false := by simp; omega
            by_cases end0 : nd = 0
            · have n0 : ((nd : Int) == 0) = true := by rw [beq_iff_eq]; omega
              have HS := Lib.hid (HT.out.trans (Pl.step_zero e48 end0))
              clear e48 end0 HT o6 o7
              go_wp2_with fail
              go_round
              case rel => exact ⟨i + 1, m, nd, nm, dp - 1, dot, true, tr, by omega, by omega, HS, by go_num, rfl, rfl, rfl, rfl, rfl, rfl, rfl, rfl⟩
              case measure => simp [RowKit.intOf]; omega
            · have n0 : ((nd : Int) == 0) = false := by rw [beq_eq_false_iff_ne]; omega
              by_cases h19 : nm < 19
              · have o8 := o7 h19
                have HS := Lib.hid (HT.out.trans (Pl.step_in hc1 (by omega) h19))
                clear e48 end0 HT o6 o7
                go_wp2_with fail
                go_round
                case rel => exact ⟨i + 1, m * 10 + (c.toNat - 48), nd + 1, nm + 1, dp, dot, true, tr, by omega, by omega, HS, by go_num, int_eq (by have := HC.out; omega), rfl, rfl, rfl, rfl, by go_num, by go_num, rfl⟩
                case measure => simp [RowKit.intOf]; omega
              · have HS := Lib.hid (HT.out.trans (Pl.step_out hc1 (by omega) h19))
                rw [if_pos e48] at HS
                clear e48 end0 HT o6 o7
                go_wp2_with fail
                go_round
                case rel => exact ⟨i + 1, m, nd + 1, nm, dp, dot, true, tr, by omega, by omega, HS, by go_num, rfl, rfl, rfl, rfl, rfl, by go_num, rfl, rfl⟩
                case measure => simp [RowKit.intOf]; omega
          · have d48 : ((c.toNat : Int) == 48) = false := by rw [beq_eq_false_iff_ne]; omega
            have d48n : ((c.toNat : Int) != 48) = true := by simp; omega
            by_cases h19 : nm < 19
            · have o8 := o7 h19
              have HS := Lib.hid (HT.out.trans (Pl.step_in hc1 (by omega) h19))
              clear e48 HT o6 o7
              go_wp2_with fail
              go_round
              case rel => exact ⟨i + 1, m * 10 + (c.toNat - 48), nd + 1, nm + 1, dp, dot, true, tr, by omega, by omega, HS, by go_num, int_eq (by have := HC.out; omega), rfl, rfl, rfl, rfl, by go_num, by go_num, rfl⟩
              case measure => simp [RowKit.intOf]; omega
            · have HS := Lib.hid (HT.out.trans (Pl.step_out hc1 (by omega) h19))
              rw [if_neg e48] at HS
              clear e48 HT o6 o7
              go_wp2_with fail
              go_round
              case rel => exact ⟨i + 1, m, nd + 1, nm, dp, dot, true, true, by omega, by omega, HS, by go_num, rfl, rfl, rfl, rfl, rfl, by go_num, rfl, rfl⟩
              case measure => simp [RowKit.intOf]; omega
      · obtain rfl : i = 1 + M.length := by omega
        rw [show 1 + M.length - 1 = M.length by omega, List.take_length] at hst
        obtain rfl : dig = true := by have := HG.out.1; rw [hst.out] at this; exact this
        obtain rfl : dot = true := by have := HG.out.2; rw [hst.out] at this; exact this
        have hJ : 1 + M.length < N := by have := HN.out; omega
        obtain ⟨J, hJd⟩ : ∃ J, 1 + M.length = J := ⟨_, rfl⟩
        have qJ : J < s.size := by omega
        have aJ : s[J]'qJ = 101 := by subst hJd; exact HE.out
        have hJ2 : J + 1 < N := by have := HN.out; omega
        have q2 : J + 1 < s.size := by omega
        have a2 : s[J + 1]'q2 = D[0] := HAD.out.get hD q2 (by omega)
        have hd2 := HD.out D[0] (List.getElem_mem _)
        generalize D[0] = c2 at a2 hd2
        unfold Pl.digit at hd2
        have f1 : ((c2.toNat : Int) == 43) = false := by rw [beq_eq_false_iff_ne]; omega
        have f2 : ((c2.toNat : Int) == 45) = false := by rw [beq_eq_false_iff_ne]; omega
        have hlow : bits .or .u8 101 32 = 101 := by decide
        have HJ := Lib.hid (show J + 1 + D.length = N by have := HN.out; omega)
        rw [hJd]
        clear o7 hlt hk1 hk hi0
        have HJd := Lib.hid hJd
        clear hJd hJ
        go_wp2_with (refine (Tryz.internal_strconv_lower _ _).mono ?_; rintro e w' ⟨rfl, rfl⟩)
        go_loop [7, 9, 20] (fun v7 v9 v20 => ∃ i e : Nat, J + 1 ≤ i ∧ i ≤ N ∧ v7 = .int .i64 i ∧ v9 = .bool false ∧ v20 = .int .i64 e ∧ Hid (Pl.erun (D.take (i - (J + 1))) = e)) (fun v7 _ _ => N - (RowKit.intOf v7).toNat)
        case atStart => exact ⟨J + 1, 0, Nat.le_refl _, by omega, by go_num, rfl, rfl, Lib.hid (by simp [Pl.erun])⟩
        case round =>
          obtain ⟨i, e, hi1, hi2, rfl, rfl, rfl, he⟩ := hrel
          have hel := Pl.erun_le (D.take (i - (J + 1))) (fun c hc => HD.out c (List.mem_of_mem_take hc))
          rw [he.out] at hel
          by_cases hi3 : i < N
          · have qi : i < s.size := by omega
            have hi4 : i - (J + 1) < D.length := by have := HJ.out; omega
            have ai : s[i]'qi = D[i - (J + 1)] := HAD.out.get hi4 qi (by have := HJd.out; omega)
            have hci := HD.out D[i - (J + 1)] (List.getElem_mem _)
            have HT := Lib.hid (show Pl.erun (D.take (i + 1 - (J + 1))) = Pl.estep e D[i - (J + 1)] by rw [show i + 1 - (J + 1) = i - (J + 1) + 1 by omega, List.take_succ_eq_append_getElem hi4, Pl.erun_snoc, he.out])
            generalize D[i - (J + 1)] = c at ai hci HT
            unfold Pl.digit at hci
            have g95 : ((c.toNat : Int) == 95) = false := by rw [beq_eq_false_iff_ne]; omega
            obtain ⟨hci1, hci2⟩ := hci
            have HC := Lib.hid hci1
            by_cases e4 : e < 10000
            · go_wp2_with fail
              go_round
              case rel => exact ⟨i + 1, e * 10 + (c.toNat - 48), by omega, by omega, by go_num, rfl, int_eq (by have := HC.out; omega), Lib.hid (by rw [HT.out]; unfold Pl.estep; rw [if_pos e4])⟩
              case measure => simp [RowKit.intOf]; omega
            · go_wp2_with fail
              go_round
              case rel => exact ⟨i + 1, e, by omega, by omega, by go_num, rfl, rfl, Lib.hid (by rw [HT.out]; unfold Pl.estep; rw [if_neg e4])⟩
              case measure => simp [RowKit.intOf]; omega
          · obtain rfl : N = i := by omega
            have HE2 := Lib.hid (show Pl.erun D = e by rw [← he.out, List.take_of_length_le (by have := HJ.out; omega)])
            clear hi3
            by_cases hm0 : m = 0
            · have g0 : ((m : Int) != 0) = false := by simp; omega
              have HM0 := Lib.hid hm0
              clear hm0
              go_wp2_with fail
              refine bodyPost_ret (v := .tuple #[.int .u64 m, .int .i64 0, .bool true, .bool tr, .bool false, .int .i64 N, .bool true]) (by simp [results, Tryz.results131, go_sem]) rfl ⟨?_, rfl⟩
              rw [hst.out, HE2.out, show Pl.expOf ⟨m, nd, nm, dp, true, true, tr⟩ (e : Int) = 0 by unfold Pl.expOf; rw [if_pos HM0.out]]
            · have g0 : ((m : Int) != 0) = true := by simp; omega
              go_wp2_with fail
              refine bodyPost_ret (v := .tuple #[.int .u64 m, .int .i64 ((dp + e) - nm), .bool true, .bool tr, .bool false, .int .i64 N, .bool true]) (by simp [results, Tryz.results131, go_sem]) rfl ⟨?_, rfl⟩
              rw [hst.out, HE2.out, show Pl.expOf ⟨m, nd, nm, dp, true, true, tr⟩ (e : Int) = (dp + e) - nm by unfold Pl.expOf; rw [if_neg hm0]]
end Go.Proofs.YtpilniljhmkedaaGreatDoor
