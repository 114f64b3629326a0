/- Plain: digits as a number; what a text of digits with a point is read as. Floats times powers of two: the contracts of normalize and ldexp. Floats times powers of two: the contract of ldexp. Floats times powers of two: the contracts of ldexp, Ldexp and Scale. The contracts of Ldexp and Scale. Whole numbers of floats: the contracts of Trunc, Frexp and Fraction. The contract of Truncate, where the parts are told. Texts that are no infinity: the contract of special at digits. A number divided by a power of ten: the contract of atof64exact at powers below nought; that of atof64 there, and where the power is too great. The contracts of ParseFloat and Read. Fixed floats, written and read. Texts of the form of a float, taken apart: what readFloat reads of them. Plain: the texts that are formed are the texts of digits with a point, maybe a sign, maybe a power. A whole number's text read by scan.Integer. -/
import Derived.Test.YtlodbibagmblkaaGreatDoorTaah
import Derived.Test.YtlodbibagmblkaaGreatDoorTaaf
import Derived.Test.YtlodbibagmblkaaGreatDoorTaam
import Derived.Test.YtlodbibagmblkaaGreatDoorTaaj
import Derived.Test.YtlodbibagmblkaaGreatDoorTaai
import Derived.Test.YtlodbibagmblkaaGreatDoorTaab
import Derived.LaidEql
import Derived.Test.YtlodbibagmblkaaGreatDoorTaau
import Derived.Test.YtlodbibagmblkaaGreatDoorTaav
import Derived.Test.YtlodbibagmblkaaGreatDoorTaaw
import Derived.Test.YtlodbibagmblkaaGreatDoorTaax
import Derived.Test.YtlodbibagmblkaaGreatDoorTaay
import Derived.Test.YtlodbibagmblkaaGreatDoorTaaz
import Derived.Test.YtlodbibagmblkaaGreatDoorTaag
import Derived.Test.YtlodbibagmblkaaGreatDoorTaat
import Derived.Test.YtlodbibagmblkaaGreatDoorTaan
namespace Go.Proofs.YtlodbibagmblkaaGreatDoor
open Go Go.Lib
namespace Pl
theorem snocRec {α : Type} {P : List α → Prop} (nil : P []) (snoc : ∀ l c, P l → P (l ++ [c])) (l : List α) : P l := by
  have h : ∀ l : List α, P l.reverse := by
    intro l
    induction l with
    | nil => exact nil
    | cons c l ih => rw [List.reverse_cons]; exact snoc _ _ ih
  have := h l.reverse
  rwa [List.reverse_reverse] at this
/-- the number that digits are -/
def vl (l : List UInt8) : Nat := l.foldl (fun n c => n * 10 + (c.toNat - 48)) 0
theorem vl_snoc (l : List UInt8) (c : UInt8) : vl (l ++ [c]) = vl l * 10 + (c.toNat - 48) := by simp [vl]
theorem vl_append (a b : List UInt8) : vl (a ++ b) = vl a * 10 ^ b.length + vl b := by
  induction b using snocRec with
  | nil => simp [vl]
  | snoc b c ih =>
    rw [← List.append_assoc, vl_snoc, vl_snoc, ih, List.length_append, List.length_singleton, Nat.pow_succ, Nat.add_mul, Nat.mul_assoc, Nat.add_assoc]
theorem vl_zeros (k : Nat) : vl (List.replicate k 48) = 0 := by
  induction k with
  | zero => rfl
  | succ k ih => rw [List.replicate_succ', vl_snoc, ih]; rfl
theorem vl_dec (u : Nat) : vl (decDigits u) = u := by
  induction u using Nat.strongRecOn with
  | _ u ih =>
    rw [decDigits]
    by_cases h10 : u < 10
    · rw [dif_pos h10]
      show 0 * 10 + ((UInt8.ofNat (48 + u)).toNat - 48) = u
      rw [UInt8.toNat_ofNat', Nat.mod_eq_of_lt (by omega)]; omega
    · rw [dif_neg h10, vl_snoc, ih (u / 10) (by omega), UInt8.toNat_ofNat', Nat.mod_eq_of_lt (by omega)]; omega
theorem trim_split (l : List UInt8) : l = trimZ l ++ List.replicate (l.length - (trimZ l).length) 48 := by
  induction l using snocRec with
  | nil => rfl
  | snoc l c ih =>
    by_cases hc : c = 48
    · have e : trimZ (l ++ [c]) = trimZ l := by subst hc; simp [trimZ]
      have hle : (trimZ l).length ≤ l.length := by
        have := congrArg List.length ih
        rw [List.length_append] at this; omega
      rw [e, List.length_append, List.length_singleton, show l.length + 1 - (trimZ l).length = l.length - (trimZ l).length + 1 by omega, List.replicate_succ', ← List.append_assoc, ← ih, hc]
    · have e : trimZ (l ++ [c]) = l ++ [c] := by simp [trimZ, hc]
      rw [e]; simp
theorem vl_sig (d : Nat) : vl (sig d) * 10 ^ (nDigits d - (sig d).length) = d ∧ (sig d).length ≤ nDigits d := by
  have h := trim_split (decDigits d)
  have hl := congrArg List.length h
  rw [List.length_append, decDigits_length] at hl
  have e := congrArg vl h
  rw [vl_dec, vl_append, vl_zeros, List.length_replicate, Nat.add_zero, decDigits_length] at e
  exact ⟨e.symm, by unfold sig; omega⟩
/-- how many digits there are from the first one on that is not nought -/
def cnt (l : List UInt8) : Nat := l.foldl (fun n c => if c = 48 ∧ n = 0 then 0 else n + 1) 0
theorem cnt_snoc (l : List UInt8) (c : UInt8) : cnt (l ++ [c]) = if c = 48 ∧ cnt l = 0 then 0 else cnt l + 1 := by unfold cnt; rw [List.foldl_append]; rfl
theorem cnt_le (l : List UInt8) (c : UInt8) : cnt l ≤ cnt (l ++ [c]) := by
  rw [cnt_snoc]; split <;> omega
theorem cnt_vl (l : List UInt8) (h : ∀ c ∈ l, digit c) : cnt l = 0 ∧ vl l = 0 ∨ ∃ n, cnt l = n + 1 ∧ 10 ^ n ≤ vl l := by
  induction l using snocRec with
  | nil => exact .inl ⟨rfl, rfl⟩
  | snoc l c ih =>
    have hc := h c (by simp)
    rw [cnt_snoc, vl_snoc]
    rcases ih (fun x hx => h x (by simp [hx])) with ⟨h1, h2⟩ | ⟨n, h1, h2⟩
    · rw [h1, h2]
      by_cases e : c = 48
      · left; subst e; simp
      · right
        refine ⟨0, by rw [if_neg (fun h => e h.1)], ?_⟩
        have : c.toNat ≠ 48 := fun h => e (UInt8.toNat_inj.1 h)
        unfold digit at hc
        omega
    · right
      refine ⟨n + 1, by rw [if_neg (by omega), h1], ?_⟩
      rw [Nat.pow_succ]; omega
theorem cnt_19 {l : List UInt8} (h : ∀ c ∈ l, digit c) (hv : vl l < 10000000000000000000) : cnt l ≤ 19 := by
  rcases cnt_vl l h with ⟨h1, _⟩ | ⟨n, h1, h2⟩
  · omega
  · rw [h1]
    rcases Nat.lt_or_ge n 19 with h' | h'
    · omega
    · exfalso
      have : 10 ^ 19 ≤ 10 ^ n := Nat.pow_le_pow_right (by decide) h'
      have e : (10 : Nat) ^ 19 = 10000000000000000000 := rfl
      omega
theorem digit_ne46 {c : UInt8} (h : digit c) : c ≠ 46 := by
  intro e; subst e; exact absurd h.1 (by decide)
theorem run_ahead (X : List UInt8) (hX : ∀ c ∈ X, digit c) (h : cnt X ≤ 19) : ∃ dp, run X = ⟨vl X, cnt X, cnt X, dp, false, decide (X ≠ []), false⟩ := by
  induction X using snocRec with
  | nil => exact ⟨0, rfl⟩
  | snoc X c ih =>
    have hc := hX c (by simp)
    have h1 := cnt_le X c
    obtain ⟨dp, e⟩ := ih (fun x hx => hX x (by simp [hx])) (by omega)
    have er : run (X ++ [c]) = step (run X) c := by simp [run]
    rw [er, e]
    unfold step
    rw [if_neg (digit_ne46 hc), cnt_snoc, vl_snoc]
    simp only
    by_cases h0 : c = 48 ∧ cnt X = 0
    · rw [if_pos h0, if_pos h0]
      have hv : vl X = 0 := by
        rcases cnt_vl X (fun x hx => hX x (by simp [hx])) with ⟨_, h⟩ | ⟨n, h, _⟩
        · exact h
        · omega
      refine ⟨dp - 1, ?_⟩
      rw [hv, h0.1, h0.2]
      simp
    · rw [if_neg h0, if_neg h0]
      have : cnt X < 19 := by rw [cnt_snoc, if_neg h0] at h; omega
      rw [if_pos this]
      exact ⟨dp, by simp⟩
theorem run_behind (X Y : List UInt8) (hX : ∀ c ∈ X, digit c) (hX0 : X ≠ []) (hY : ∀ c ∈ Y, digit c) (h : cnt (X ++ Y) ≤ 19) : run (X ++ 46 :: Y) = ⟨vl (X ++ Y), cnt (X ++ Y), cnt (X ++ Y), (cnt (X ++ Y) : Int) - Y.length, true, true, false⟩ := by
  induction Y using snocRec with
  | nil =>
    obtain ⟨dp, e⟩ := run_ahead X hX (by simpa using h)
    have er : run (X ++ [46]) = step (run X) 46 := by simp [run]
    rw [er, e]
    simp [step, hX0]
  | snoc Y c ih =>
    have hc := hY c (by simp)
    have ea : X ++ (Y ++ [c]) = (X ++ Y) ++ [c] := by simp
    rw [ea] at h ⊢
    have h1 := cnt_le (X ++ Y) c
    have e := ih (fun x hx => hY x (by simp [hx])) (by omega)
    have er : run (X ++ 46 :: (Y ++ [c])) = step (run (X ++ 46 :: Y)) c := by simp [run]
    rw [er, e]
    unfold step
    rw [if_neg (digit_ne46 hc), cnt_snoc, vl_snoc]
    simp only
    have hall : ∀ x ∈ X ++ Y, digit x := fun x hx => (List.mem_append.1 hx).elim (hX x) (fun hx => hY x (by simp [hx]))
    by_cases h0 : c = 48 ∧ cnt (X ++ Y) = 0
    · rw [if_pos h0, if_pos h0]
      have hv : vl (X ++ Y) = 0 := by
        rcases cnt_vl _ hall with ⟨_, h⟩ | ⟨n, h, _⟩
        · exact h
        · omega
      rw [hv, h0.1, h0.2]
      simp
      omega
    · rw [if_neg h0, if_neg h0]
      have : cnt (X ++ Y) < 19 := by rw [cnt_snoc, if_neg h0] at h; omega
      rw [if_pos this]
      simp
      omega
end Pl
end Go.Proofs.YtlodbibagmblkaaGreatDoor
namespace Go.Proofs.YtlodbibagmblkaaGreatDoor.Fl
open Ieee
end Go.Proofs.YtlodbibagmblkaaGreatDoor.Fl
namespace Go.Proofs.YtlodbibagmblkaaGreatDoor
open Go.RowKit Go.Lib
end Go.Proofs.YtlodbibagmblkaaGreatDoor
namespace Go.Proofs.YtlodbibagmblkaaGreatDoor
open Go.RowKit Go.Lib
namespace Fl
open Ieee
end Fl
end Go.Proofs.YtlodbibagmblkaaGreatDoor
namespace Go.Proofs.YtlodbibagmblkaaGreatDoor
open Go.RowKit Go.Lib
end Go.Proofs.YtlodbibagmblkaaGreatDoor
namespace Go.Proofs.YtlodbibagmblkaaGreatDoor.Fl
open Ieee
end Go.Proofs.YtlodbibagmblkaaGreatDoor.Fl
namespace Go.Proofs.YtlodbibagmblkaaGreatDoor
open Go.RowKit Go.Lib
end Go.Proofs.YtlodbibagmblkaaGreatDoor
namespace Go.Proofs.YtlodbibagmblkaaGreatDoor
open Go.RowKit Go.Lib
end Go.Proofs.YtlodbibagmblkaaGreatDoor
namespace Go.Proofs.YtlodbibagmblkaaGreatDoor
open Go.RowKit Go.Lib
end Go.Proofs.YtlodbibagmblkaaGreatDoor
namespace Go.Proofs.YtlodbibagmblkaaGreatDoor
open Go.RowKit Go.Lib
set_option maxHeartbeats 1000000 in
theorem common_zero (t : ByteArray) (w : World) (q : 0 < t.size) (hs : t.size ≤ 100000) (hd : 48 ≤ (t[0]'q).toNat ∧ (t[0]'q).toNat ≤ 57) :
    Calls Tryz.prog 298 #[.string t, .string ⟨#[105, 110, 102, 105, 110, 105, 116, 121]⟩] w fun e w' => e = .returned (.int .i64 0) ∧ w = w' := by
  obtain ⟨c, hc⟩ : ∃ c, t[0]'q = c := ⟨_, rfl⟩
  rw [hc] at hd
  obtain ⟨h1, h2⟩ := hd
  have b1 : ((c.toNat : Int) != ((((⟨#[105, 110, 102, 105, 110, 105, 116, 121]⟩ : ByteArray)[0]'(by decide)).toNat : Nat) : Int)) = true := by rw [bne_iff_ne]; show (c.toNat : Int) ≠ 105; omega
  obtain ⟨N, hN⟩ : ∃ N, t.size = N := ⟨_, rfl⟩
  have hn1 : 0 < N := by omega
  have hn2 : N ≤ 100000 := by omega
  obtain ⟨k, hk⟩ : ∃ k : Int, min 8 (N : Int) = k := ⟨_, rfl⟩
  have hk1 : 0 < k := by omega
  go_enter Tryz.func298, Tryz.ntmps298
  go_wp2_with fail
  refine wp_loop_rounds 1 ?_
  rw [rounds_succ]
  go_wp2_with fail
  go_ret
  exact ⟨rfl, rfl⟩
set_option maxHeartbeats 1000000 in
theorem special_pos (s : ByteArray) (w : World) (q : 0 < s.size) (hs : s.size ≤ 100000) (hd : 48 ≤ (s[0]'q).toNat ∧ (s[0]'q).toNat ≤ 57) :
    Calls Tryz.prog 280 #[.string s] w fun e w' => e = .returned (.tuple #[.float .f64 0, .int .i64 0, .bool false]) ∧ w = w' := by
  obtain ⟨c, hc⟩ : ∃ c, s[0]'q = c := ⟨_, rfl⟩
  rw [hc] at hd
  obtain ⟨h1, h2⟩ := hd
  have b1 : ((c.toNat : Int) == 43) = false := by rw [beq_eq_false_iff_ne]; omega
  have b2 : ((c.toNat : Int) == 45) = false := by rw [beq_eq_false_iff_ne]; omega
  have b3 : ((c.toNat : Int) == 105) = false := by rw [beq_eq_false_iff_ne]; omega
  have b4 : ((c.toNat : Int) == 73) = false := by rw [beq_eq_false_iff_ne]; omega
  have b5 : ((c.toNat : Int) == 110) = false := by rw [beq_eq_false_iff_ne]; omega
  have b6 : ((c.toNat : Int) == 78) = false := by rw [beq_eq_false_iff_ne]; omega
  obtain ⟨N, hN⟩ : ∃ N, s.size = N := ⟨_, rfl⟩
  have hn0 : ((N : Int) == 0) = false := by rw [beq_eq_false_iff_ne]; omega
  have hn1 : 0 < N := by omega
  go_enter Tryz.func280, Tryz.ntmps280
  go_wp2_with fail
  go_ret3
  exact ⟨rfl, rfl⟩
set_option maxHeartbeats 1000000 in
theorem special_neg (s : ByteArray) (w : World) (q0 : 0 < s.size) (q : 1 < s.size) (hs : s.size ≤ 100000) (h0 : s[0]'q0 = 45) (hd : 48 ≤ (s[1]'q).toNat ∧ (s[1]'q).toNat ≤ 57) :
    Calls Tryz.prog 280 #[.string s] w fun e w' => e = .returned (.tuple #[.float .f64 0, .int .i64 0, .bool false]) ∧ w = w' := by
  have HC := Lib.hid (fun (w : World) => common_zero (s.extract 1 s.size) w (by rw [ByteArray.size_extract]; omega) (by rw [ByteArray.size_extract]; omega) (by rw [ByteArray.getElem_extract]; exact hd))
  obtain ⟨N, hN⟩ : ∃ N, s.size = N := ⟨_, rfl⟩
  have hn0 : ((N : Int) == 0) = false := by rw [beq_eq_false_iff_ne]; omega
  have hn1 : 1 < N := by omega
  have hn2 : N ≤ 100000 := by omega
  rw [hN] at HC
  clear hd q
  go_enter Tryz.func280, Tryz.ntmps280
  go_wp2_with fail
  refine (HC.out _).mono ?_
  rintro e w' ⟨rfl, rfl⟩
  go_wp2_with fail
  go_ret3
  exact ⟨rfl, rfl⟩
end Go.Proofs.YtlodbibagmblkaaGreatDoor
namespace Go.Proofs.YtlodbibagmblkaaGreatDoor
open Go.RowKit Go.Lib
def IsSpecial (s : ByteArray) : Prop := ∀ w, Calls Tryz.prog 280 #[.string s] w fun e w' => e = .returned (.tuple #[.float .f64 0, .int .i64 0, .bool false]) ∧ w = w'
def ReadsAs (s : ByteArray) (m : Nat) (e : Int) (neg tr : Bool) (n : Nat) : Prop := ∀ w, Calls Tryz.prog 281 #[.string s] w fun en w' => en = .returned (.tuple #[.int .u64 m, .int .i64 e, .bool neg, .bool tr, .bool false, .int .i64 n, .bool true]) ∧ w' = w
end Go.Proofs.YtlodbibagmblkaaGreatDoor
namespace Go.Proofs.YtlodbibagmblkaaGreatDoor
open Go.RowKit Go.Lib
theorem info140 : (Tryz.prog.info? 190).map (fun i => i.comparable) = some true := by kernel_rfl
theorem run_err_eq (w : World) (a b : Int) : (binOp .eql 158 (.iface 190 (.int .i64 a)) (.iface 190 (.int .i64 b))).run Tryz.prog w = .ok (.bool (a == b)) w := by
  have hi := Tryz.underlying158
  have hn := Tryz.underlying190
  have h0 := info140
  cases hinfo : Tryz.prog.info? 190 with
  | none => rw [hinfo] at h0; cases h0
  | some i =>
    rw [hinfo] at h0
    have hcomp : i.comparable = true := by simpa using h0
    have key : ∀ d, (Op.equalIn (d + 2) 158 (.iface 190 (.int .i64 a)) (.iface 190 (.int .i64 b))).run Tryz.prog w = .ok (a == b) w := by
      intro d
      simp [Op.equalIn, run_underlying hi, run_underlying hn, typeInfo, hinfo, hcomp]
    simp only [binOp]
    simp [Op.equal, Op.maxDepth, key 9998]
set_option maxHeartbeats 1000000 in
theorem toError_range (fn s : ByteArray) (w : World) (hs : s.size ≤ 100000) (he : Env w) :
    Calls Tryz.prog 185 #[.string fn, .string s, .int .i64 0, .int .i64 64, .iface 190 (.int .i64 1)] w fun e w' => ∃ a, e = .returned (.iface 191 (.pointer (some a))) ∧ Below w.heap.size w w' := by
  obtain ⟨ev, hv1, hv2⟩ := he.err
  have HR := Lib.hid (Tryz.strconv_rangeError fn s ev w (by omega) hv1 hv2)
  have h1 := run_err_eq
  clear hv1 hv2
  go_enter Tryz.func185, Tryz.ntmps185
  go_wp2_with fail
  refine HR.out.mono ?_
  rintro e w1 ⟨N, rfl, _, _, hB⟩
  go_wp2_with fail
  go_ret
  exact ⟨_, rfl, hB⟩
theorem read_no (l : List UInt8) (w : World) (hl : l.length ≤ 1000000) (hf : Pl.formed l = false) :
    Calls Tryz.prog 123 #[.string (bs l)] w fun e w' => e = .returned (.tuple #[.int .u64 0, .int .i64 100]) ∧ Below w.heap.size w w' := by
  have HF := Lib.hid (formed_any l w hl)
  rw [hf] at HF
  generalize bs l = s at *
  go_enter Tryz.func123, Tryz.ntmps123
  go_wp2_with fail
  refine HF.out.mono ?_
  rintro e w1 ⟨rfl, hB⟩
  go_wp2_with fail
  go_ret2
  exact ⟨rfl, hB⟩
end Go.Proofs.YtlodbibagmblkaaGreatDoor
namespace Go.Proofs.YtlodbibagmblkaaGreatDoor
open Go.RowKit Go.Lib
theorem special_bs (M : List UInt8) (h : 0 < M.length) (hl : M.length ≤ 1000) (hd : 48 ≤ M[0].toNat ∧ M[0].toNat ≤ 57) : IsSpecial (bs M) := fun w => special_pos (bs M) w (by rw [bs_size]; exact h) (by rw [bs_size]; omega) hd
theorem special_minus (M : List UInt8) (h : 0 < M.length) (hl : M.length ≤ 1000) (hd : 48 ≤ M[0].toNat ∧ M[0].toNat ≤ 57) : IsSpecial (bs (45 :: M)) := fun w => special_neg (bs (45 :: M)) w (by rw [bs_size]; simp) (by rw [bs_size]; simp; exact h) (by rw [bs_size]; simp; omega) rfl hd
end Go.Proofs.YtlodbibagmblkaaGreatDoor
namespace Go.Proofs.YtlodbibagmblkaaGreatDoor
open Go.RowKit Go.Lib
/-- a text of digits with a point, maybe a sign, maybe a power -/
structure Txt where
  neg : Bool
  X : List UInt8
  Y : List UInt8
  ex : Option (Bool × List UInt8)
namespace Txt
def body (t : Txt) : List UInt8 := t.X ++ 46 :: t.Y
def tail (t : Txt) : List UInt8 := match t.ex with | none => [] | some (false, D) => 101 :: D | some (true, D) => 101 :: 45 :: D
def text (t : Txt) : List UInt8 := (if t.neg then [45] else []) ++ (t.body ++ t.tail)
def exp (t : Txt) : Int := match t.ex with | none => 0 | some (false, D) => Pl.erun D | some (true, D) => -(Pl.erun D : Int)
structure Ok (t : Txt) : Prop where
  x0 : t.X ≠ []
  y0 : t.Y ≠ []
  xd : ∀ c ∈ t.X, Pl.digit c
  yd : ∀ c ∈ t.Y, Pl.digit c
  ed : ∀ s D, t.ex = some (s, D) → D ≠ [] ∧ ∀ c ∈ D, Pl.digit c
  len : t.text.length ≤ 400
end Txt
theorem run_flags (X : List UInt8) (hX : ∀ c ∈ X, Pl.digit c) : (Pl.run X).dot = false ∧ (X ≠ [] → (Pl.run X).dig = true) := by
  induction X using Pl.snocRec with
  | nil => exact ⟨rfl, fun h => absurd rfl h⟩
  | snoc X c ih =>
    have hc := hX c (by simp)
    obtain ⟨i1, i2⟩ := ih (fun x hx => hX x (by simp [hx]))
    rw [Pl.run_snoc]
    unfold Pl.step
    rw [if_neg (Pl.digit_ne46 hc)]
    constructor
    · split
      · exact i1
      · split <;> exact i1
    · intro _
      split
      · rfl
      · split <;> rfl
theorem run_flags2 (X Y : List UInt8) (hX : ∀ c ∈ X, Pl.digit c) (hX0 : X ≠ []) (hY : ∀ c ∈ Y, Pl.digit c) : (Pl.run (X ++ 46 :: Y)).dot = true ∧ (Pl.run (X ++ 46 :: Y)).dig = true := by
  induction Y using Pl.snocRec with
  | nil =>
    have e : X ++ 46 :: [] = X ++ [46] := rfl
    rw [e, Pl.run_snoc]
    unfold Pl.step
    rw [if_pos rfl]
    exact ⟨rfl, (run_flags X hX).2 hX0⟩
  | snoc Y c ih =>
    have hc := hY c (by simp)
    obtain ⟨i1, i2⟩ := ih (fun x hx => hY x (by simp [hx]))
    have e : X ++ 46 :: (Y ++ [c]) = (X ++ 46 :: Y) ++ [c] := by simp
    rw [e, Pl.run_snoc]
    unfold Pl.step
    rw [if_neg (Pl.digit_ne46 hc)]
    constructor
    · split
      · exact i1
      · split <;> exact i1
    · split
      · rfl
      · split <;> rfl
theorem mant_ok {X Y : List UInt8} (hX : ∀ c ∈ X, Pl.digit c) (hY : ∀ c ∈ Y, Pl.digit c) : MantOk (X ++ 46 :: Y) := by
  constructor
  · intro c hc
    rcases List.mem_append.1 hc with hc | hc
    · exact .inr (hX c hc)
    · rcases List.mem_cons.1 hc with hc | hc
      · exact .inl hc
      · exact .inr (hY c hc)
  · intro k hk e
    have hke : k = X.length := by
      rcases Nat.lt_trichotomy k X.length with h1 | h1 | h1
      · exfalso
        have := hX X[k] (List.getElem_mem _)
        rw [List.getElem_append_left h1] at e
        exact Pl.digit_ne46 this e
      · exact h1
      · exfalso
        rw [List.getElem_append_right (by omega)] at e
        obtain ⟨j, hj⟩ : ∃ j, k - X.length = j + 1 := ⟨k - X.length - 1, by omega⟩
        simp only [hj, List.getElem_cons_succ] at e
        exact Pl.digit_ne46 (hY _ (List.getElem_mem _)) e
    subst hke
    rw [List.take_left' rfl]
    exact (run_flags X hX).1
theorem mant_head {X Y : List UInt8} (hX : ∀ c ∈ X, Pl.digit c) (h0 : X ≠ []) (q : 0 < (X ++ 46 :: Y).length) : Pl.digit (X ++ 46 :: Y)[0] := by
  have h1 := List.length_pos_iff.2 h0
  rw [List.getElem_append_left h1]
  exact hX _ (List.getElem_mem _)
theorem at_mid (A B C : List UInt8) : At (bs (A ++ (B ++ C))) A.length B := fun k h h2 => by
  have := at_bs (A ++ (B ++ C)) (A.length + k) (by simp; omega) (by simpa using h2)
  simp only [Nat.zero_add] at this
  rw [this, List.getElem_append_right (by omega)]
  simp only [Nat.add_sub_cancel_left]
  rw [List.getElem_append_left h]
theorem get_mid (A : List UInt8) (c : UInt8) (C : List UInt8) (q : A.length < (bs (A ++ c :: C)).size) : (bs (A ++ c :: C))[A.length]'q = c := by
  have := at_mid A [c] C 0 (by simp) (by simpa using q)
  simpa using this
theorem txt_reads {t : Txt} (h : t.Ok) : ReadsAs (bs t.text) (Pl.run t.body).m (Pl.expOf (Pl.run t.body) t.exp) t.neg (Pl.run t.body).tr t.text.length := by
  have hM := mant_ok h.xd h.yd
  have h3 : 3 ≤ (t.X ++ 46 :: t.Y).length := by
    have h1 := List.length_pos_iff.2 h.x0
    have h2 := List.length_pos_iff.2 h.y0
    simp
    omega
  have hd0 := mant_head (Y := t.Y) h.xd h.x0
  obtain ⟨f1, f2⟩ := run_flags2 t.X t.Y h.xd h.x0 h.yd
  have hl := h.len
  have hed := h.ed
  obtain ⟨neg, X, Y, ex⟩ := t
  simp only at hM h3 hd0 f1 f2 hl hed
  unfold Txt.text Txt.body at hl
  simp only at hl
  show ReadsAs (bs ((if neg = true then [45] else []) ++ ((X ++ 46 :: Y) ++ Txt.tail ⟨neg, X, Y, ex⟩))) (Pl.run (X ++ 46 :: Y)).m (Pl.expOf (Pl.run (X ++ 46 :: Y)) (Txt.exp ⟨neg, X, Y, ex⟩)) neg (Pl.run (X ++ 46 :: Y)).tr ((if neg = true then [45] else []) ++ ((X ++ 46 :: Y) ++ Txt.tail ⟨neg, X, Y, ex⟩)).length
  generalize X ++ 46 :: Y = M at hM h3 hd0 f1 f2 hl ⊢
  have hd0 := hd0 (by omega)
  cases neg
  · rcases ex with _ | ⟨_ | _, D⟩
    · have hl' : M.length ≤ 400 := by simp [Txt.tail] at hl; omega
      simp only [Txt.tail, Txt.exp, Bool.false_eq_true, if_false, if_true, List.nil_append, List.append_nil, List.cons_append]
      intro w
      have r := read_pos_none (bs (M)) M w (Lib.hid (by rw [bs_size]; simp)) hM h3 (by omega) (by have := at_mid [] M []; simpa using this) f2 f1 hd0
      have e : 0 + M.length = (M).length := by simp
      rw [e] at r
      exact r
    · obtain ⟨e0, ed⟩ := hed false D rfl
      have hD := List.length_pos_iff.2 e0
      have hl' : M.length + (D.length + 1) ≤ 400 := by simp [Txt.tail] at hl; omega
      simp only [Txt.tail, Txt.exp, Bool.false_eq_true, if_false, if_true, List.nil_append, List.append_nil, List.cons_append]
      intro w
      have r := read_pos_exp (bs ((M ++ 101 :: D))) M D w (Lib.hid (by rw [bs_size]; simp <;> omega)) hD (by omega) ed (by have := at_mid (M ++ [101]) D []; simpa [Nat.add_assoc, Nat.add_comm, Nat.add_left_comm] using this) (by rw [bs_size]; simp <;> omega) (by have := get_mid (M) 101 (D) (by rw [bs_size]; simp); simpa [Nat.add_comm] using this) hM h3 (by omega) (by have := at_mid [] M (101 :: D); simpa using this) f2 f1 hd0
      have e : 0 + M.length + 1 + D.length = ((M ++ 101 :: D)).length := by simp <;> omega
      rw [e] at r
      exact r
    · obtain ⟨e0, ed⟩ := hed true D rfl
      have hD := List.length_pos_iff.2 e0
      have hl' : M.length + (D.length + 2) ≤ 400 := by simp [Txt.tail] at hl; omega
      simp only [Txt.tail, Txt.exp, Bool.false_eq_true, if_false, if_true, List.nil_append, List.append_nil, List.cons_append]
      intro w
      have r := read_pos_nexp (bs ((M ++ 101 :: 45 :: D))) M D w (Lib.hid (by rw [bs_size]; simp <;> omega)) hD (by omega) ed (by have := at_mid (M ++ [101, 45]) D []; simpa [Nat.add_assoc, Nat.add_comm, Nat.add_left_comm] using this) (by rw [bs_size]; simp <;> omega) (by have := get_mid (M) 101 (45 :: D) (by rw [bs_size]; simp); simpa [Nat.add_comm] using this) (by rw [bs_size]; simp <;> omega) (by have := get_mid (M ++ [101]) 45 D (by rw [bs_size]; simp); simpa [Nat.add_assoc, Nat.add_comm, Nat.add_left_comm] using this) hM h3 (by omega) (by have := at_mid [] M (101 :: 45 :: D); simpa using this) f2 f1 hd0
      have e : 0 + M.length + 2 + D.length = ((M ++ 101 :: 45 :: D)).length := by simp <;> omega
      rw [e] at r
      exact r
  · rcases ex with _ | ⟨_ | _, D⟩
    · have hl' : M.length + 1 ≤ 400 := by simp [Txt.tail] at hl; omega
      simp only [Txt.tail, Txt.exp, Bool.false_eq_true, if_false, if_true, List.nil_append, List.append_nil, List.cons_append]
      intro w
      have r := read_neg_none (bs (45 :: M)) M w (Lib.hid (by rw [bs_size]; simp <;> omega)) hM h3 (by omega) (by have := at_mid [45] M []; simpa using this) f2 f1 hd0 (by rw [bs_size]; simp) rfl
      have e : 1 + M.length = (45 :: M).length := by simp <;> omega
      rw [e] at r
      exact r
    · obtain ⟨e0, ed⟩ := hed false D rfl
      have hD := List.length_pos_iff.2 e0
      have hl' : M.length + (D.length + 2) ≤ 400 := by simp [Txt.tail] at hl; omega
      simp only [Txt.tail, Txt.exp, Bool.false_eq_true, if_false, if_true, List.nil_append, List.append_nil, List.cons_append]
      intro w
      have r := read_neg_exp (bs (45 :: (M ++ 101 :: D))) M D w (Lib.hid (by rw [bs_size]; simp <;> omega)) hD (by omega) ed (by have := at_mid ([45] ++ M ++ [101]) D []; simpa [Nat.add_assoc, Nat.add_comm, Nat.add_left_comm] using this) (by rw [bs_size]; simp <;> omega) (by have := get_mid ([45] ++ M) 101 (D) (by rw [bs_size]; simp); simpa [Nat.add_comm] using this) hM h3 (by omega) (by have := at_mid [45] M (101 :: D); simpa using this) f2 f1 hd0 (by rw [bs_size]; simp) rfl
      have e : 1 + M.length + 1 + D.length = (45 :: (M ++ 101 :: D)).length := by simp <;> omega
      rw [e] at r
      exact r
    · obtain ⟨e0, ed⟩ := hed true D rfl
      have hD := List.length_pos_iff.2 e0
      have hl' : M.length + (D.length + 3) ≤ 400 := by simp [Txt.tail] at hl; omega
      simp only [Txt.tail, Txt.exp, Bool.false_eq_true, if_false, if_true, List.nil_append, List.append_nil, List.cons_append]
      intro w
      have r := read_neg_nexp (bs (45 :: (M ++ 101 :: 45 :: D))) M D w (Lib.hid (by rw [bs_size]; simp <;> omega)) hD (by omega) ed (by have := at_mid ([45] ++ M ++ [101, 45]) D []; simpa [Nat.add_assoc, Nat.add_comm, Nat.add_left_comm] using this) (by rw [bs_size]; simp <;> omega) (by have := get_mid ([45] ++ M) 101 (45 :: D) (by rw [bs_size]; simp); simpa [Nat.add_comm] using this) (by rw [bs_size]; simp <;> omega) (by have := get_mid ([45] ++ M ++ [101]) 45 D (by rw [bs_size]; simp); simpa [Nat.add_assoc, Nat.add_comm, Nat.add_left_comm] using this) hM h3 (by omega) (by have := at_mid [45] M (101 :: 45 :: D); simpa using this) f2 f1 hd0 (by rw [bs_size]; simp) rfl
      have e : 1 + M.length + 2 + D.length = (45 :: (M ++ 101 :: 45 :: D)).length := by simp <;> omega
      rw [e] at r
      exact r
end Go.Proofs.YtlodbibagmblkaaGreatDoor
namespace Go.Proofs.YtlodbibagmblkaaGreatDoor
open Go.RowKit Go.Lib
theorem tens_fin : ∀ n : Fin 256, Pl.tens.contains (UInt8.ofNat n.val) = decide (48 ≤ n.val ∧ n.val ≤ 57) := by decide +kernel
theorem tens_iff (c : UInt8) : Pl.tens.contains c = true ↔ Pl.digit c := by
  have h := tens_fin ⟨c.toNat, UInt8.toNat_lt c⟩
  simp only [UInt8.ofNat_toNat] at h
  rw [h, decide_eq_true_iff]
  exact Iff.rfl
theorem rest_digits (X Z : List UInt8) (hX : ∀ c ∈ X, Pl.digit c) (hZ : ∀ c r, Z = c :: r → ¬ Pl.digit c) : Pl.rest (X ++ Z) = Z := by
  unfold Pl.rest Lib.trimLeftS
  induction X with
  | nil =>
    cases Z with
    | nil => rfl
    | cons c r =>
      have := hZ c r rfl
      rw [List.nil_append, List.dropWhile_cons, if_neg (fun h => this ((tens_iff c).1 h))]
  | cons x X ih =>
    rw [List.cons_append, List.dropWhile_cons, if_pos ((tens_iff x).2 (hX x (by simp)))]
    exact ih (fun c hc => hX c (by simp [hc]))
theorem prefix_one (c : UInt8) (l : List UInt8) : (Lib.hasPrefix l [c] = true ∧ ∃ r, l = c :: r ∧ Lib.trimPrefix l [c] = r) ∨ (Lib.hasPrefix l [c] = false ∧ Lib.trimPrefix l [c] = l ∧ ∀ r, l ≠ c :: r) := by
  cases l with
  | nil => right; exact ⟨rfl, rfl, by intro r h; cases h⟩
  | cons a r =>
    by_cases h : a = c
    · subst h
      left
      have hp : Lib.hasPrefix (a :: r) [a] = true := by simp [Lib.hasPrefix, List.isPrefixOf]
      exact ⟨hp, r, rfl, by unfold Lib.trimPrefix; rw [hp]; rfl⟩
    · right
      have hp : Lib.hasPrefix (a :: r) [c] = false := by simp [Lib.hasPrefix, List.isPrefixOf]; exact fun e => h e.symm
      refine ⟨hp, by unfold Lib.trimPrefix; rw [hp]; rfl, ?_⟩
      intro r' e
      exact h (by injection e)
theorem txt_formed {t : Txt} (h : t.Ok) : Pl.formed t.text = true := by
  obtain ⟨neg, X, Y, ex⟩ := t
  obtain ⟨x0, y0, hX, hY, ed, hl⟩ := h
  simp only at x0 y0 hX hY ed
  unfold Pl.formed
  rw [if_neg (by omega)]
  have hx1 := List.length_pos_iff.2 x0
  have hy1 := List.length_pos_iff.2 y0
  obtain ⟨Z, hZ⟩ : ∃ Z, Txt.tail ⟨neg, X, Y, ex⟩ = Z := ⟨_, rfl⟩
  have e1 : Lib.trimPrefix (Txt.text ⟨neg, X, Y, ex⟩) [45] = X ++ (46 :: (Y ++ Z)) := by
    unfold Txt.text Txt.body
    rw [hZ]
    cases neg
    · rcases prefix_one 45 ((if false = true then [45] else []) ++ ((X ++ 46 :: Y) ++ Z)) with ⟨_, r, e, _⟩ | ⟨_, e, _⟩
      · exfalso
        cases X with
        | nil => exact x0 rfl
        | cons a X' =>
          simp at e
          have := hX a (by simp)
          rw [e.1] at this
          exact absurd this.1 (by decide)
      · rw [e]; simp
    · rcases prefix_one 45 ((if true = true then [45] else []) ++ ((X ++ 46 :: Y) ++ Z)) with ⟨_, r, e, e2⟩ | ⟨_, _, e⟩
      · rw [e2]
        simp at e
        rw [← e]
      · exact absurd rfl (e ((X ++ 46 :: Y) ++ Z))
  have e2 : Pl.rest (X ++ (46 :: (Y ++ Z))) = 46 :: (Y ++ Z) := rest_digits X _ hX (fun c r e hd => by
    injection e with e _
    subst e
    exact absurd hd.1 (by decide))
  have e3 : Lib.trimPrefix (46 :: (Y ++ Z)) [46] = Y ++ Z := by
    rcases prefix_one 46 (46 :: (Y ++ Z)) with ⟨_, r, e, e'⟩ | ⟨_, _, e⟩
    · rw [e']; injection e with _ e; exact e.symm
    · exact absurd rfl (e (Y ++ Z))
  have e3p : Lib.hasPrefix (46 :: (Y ++ Z)) [46] = true := by simp [Lib.hasPrefix, List.isPrefixOf]
  have hZn : ∀ c r, Z = c :: r → ¬ Pl.digit c := by
    intro c r e hd
    rw [← hZ] at e
    unfold Txt.tail at e
    rcases ex with _ | ⟨_ | _, D⟩
    · cases e
    · injection e with e _; subst e; exact absurd hd.2 (by decide)
    · injection e with e _; subst e; exact absurd hd.2 (by decide)
  have e4 : Pl.rest (Y ++ Z) = Z := rest_digits Y Z hY hZn
  have n1 : Pl.ndig (X ++ (46 :: (Y ++ Z))) = X.length := by unfold Pl.ndig; rw [e2]; simp <;> omega
  have n2 : Pl.ndig (Y ++ Z) = Y.length := by unfold Pl.ndig; rw [e4]; simp
  rw [e1, e2, e3, e4, e3p, n1, n2, if_neg (by
    rintro (h | h | h)
    · omega
    · cases h
    · omega)]
  rcases ex with _ | ⟨sg, D⟩
  · have : Z = [] := hZ.symm
    rw [this]; rfl
  · obtain ⟨d0, hD⟩ := ed sg D rfl
    have eZ : Z = 101 :: ((if sg then [45] else []) ++ D) := by rw [← hZ]; cases sg <;> rfl
    have hD1 := List.length_pos_iff.2 d0
    have p1 : Lib.hasPrefix Z [101] = true := by rw [eZ]; simp [Lib.hasPrefix, List.isPrefixOf]
    have p2 : Lib.trimPrefix Z [101] = (if sg then [45] else []) ++ D := by
      unfold Lib.trimPrefix
      rw [p1, eZ]; rfl
    have p3 : Lib.trimPrefix ((if sg then [45] else []) ++ D) [45] = D := by
      cases sg
      · rcases prefix_one 45 ((if false = true then [45] else []) ++ D) with ⟨_, r, e, _⟩ | ⟨_, e, _⟩
        · exfalso
          simp at e
          have := hD 45 (by rw [e]; simp)
          exact absurd this.1 (by decide)
        · rw [e]; simp
      · rcases prefix_one 45 ((if true = true then [45] else []) ++ D) with ⟨_, r, e, e2⟩ | ⟨_, _, e⟩
        · rw [e2]; simp at e; exact e.symm
        · exact absurd rfl (e D)
    have p4 : Pl.rest D = [] := by
      have := rest_digits D [] hD (fun c r e => by cases e)
      rwa [List.append_nil] at this
    have p5 : Pl.ndig D = D.length := by unfold Pl.ndig; rw [p4]; simp
    rw [if_neg (by rw [eZ]; simp), p1, p2, p3, p5]
    simp
    exact d0
end Go.Proofs.YtlodbibagmblkaaGreatDoor
namespace Go.Proofs.YtlodbibagmblkaaGreatDoor
open Go Go.RowKit Go.Lib
set_option maxHeartbeats 1000000 in
theorem sdigit_any (c : UInt8) (w : World) : Calls Tryz.prog 165 #[.int .u8 c.toNat] w fun e w' => e = .returned (.bool (decide (48 ≤ c.toNat ∧ c.toNat ≤ 57))) ∧ w = w' := by
  have h1 := c.toNat_lt
  generalize c.toNat = n at *
  obtain ⟨q, hq⟩ : ∃ q, decide (48 ≤ n ∧ n ≤ 57) = q := ⟨_, rfl⟩
  have hd : (decide ((48 : Int) ≤ (n : Int)) = false ∧ q = false) ∨ (decide ((48 : Int) ≤ (n : Int)) = true ∧ decide ((n : Int) ≤ 57) = q) := by
    rw [← hq]
    by_cases h : 48 ≤ n
    · right
      refine ⟨decide_eq_true (by omega), ?_⟩
      rw [Bool.eq_iff_iff, decide_eq_true_iff, decide_eq_true_iff]
      omega
    · left
      exact ⟨decide_eq_false (by omega), decide_eq_false (by omega)⟩
  rw [hq]
  clear hq
  rcases hd with ⟨d1, rfl⟩ | ⟨d1, d2⟩
  · go_enter Tryz.func165, Tryz.ntmps165
    go_wp2_with fail
    go_ret
    exact ⟨rfl, rfl⟩
  · go_enter Tryz.func165, Tryz.ntmps165
    go_wp2_with fail
    go_ret
    exact ⟨rfl, rfl⟩
set_option maxHeartbeats 2000000 in
/-- digits are run over -/
theorem srun_digits (l : List UInt8) (w : World) (hl : l.length ≤ 1000000000) (hd : ∀ c ∈ l, 48 ≤ c.toNat ∧ c.toNat ≤ 57) :
    Calls Tryz.prog 164 #[.string (bs l), .int .i64 0, .func (.func 165) #[] #[]] w fun e w' => e = .returned (.int .i64 l.length) ∧ w = w' := by
  obtain ⟨N, hN⟩ : ∃ N, l.length = N := ⟨_, rfl⟩
  have hsz : (bs l).size = N := by rw [← hN]; rfl
  have HC : Hid (∀ i, (h : i < N) → ∃ c : UInt8, ((bs l).size = N → ∀ q : i < (bs l).size, (bs l)[i]'q = c) ∧ ∀ W, Calls Tryz.prog 165 #[.int .u8 c.toNat] W fun e w' => e = .returned (.bool true) ∧ W = w') := Lib.hid (fun i h => by
    refine ⟨l[i]'(by omega), fun _ q => rfl, fun W => ?_⟩
    have := sdigit_any (l[i]'(by omega)) W
    rwa [decide_eq_true (hd _ (List.getElem_mem _))] at this)
  rw [hN] at hl ⊢
  generalize bs l = S at *
  clear hd hN
  go_enter Tryz.func164, Tryz.ntmps164
  go_wp2_with fail
  go_loopw [1] (fun s1 wr => ∃ i : Nat, i ≤ N ∧ s1 = .int .i64 i ∧ wr = w) (fun s1 _ => N - (RowKit.intOf s1).toNat)
  case atStart => exact ⟨0, Nat.zero_le _, rfl, rfl⟩
  case round =>
    obtain ⟨i, hi, rfl, rfl⟩ := hrel
    by_cases hlt : i < N
    · obtain ⟨c, hc, hcall⟩ := HC.out i hlt
      have hq : i < S.size := by omega
      have hcc := hc hsz hq
      have HCALL := Lib.hid hcall
      clear hc hcall
      go_wp2_with fail
      refine (HCALL.out _).mono ?_
      rintro e w' ⟨rfl, rfl⟩
      go_wp2_with fail
      go_roundw
      case rel => exact ⟨i + 1, by omega, by go_num, trivial⟩
      case measure => simp [RowKit.intOf]; omega
    · obtain rfl : i = N := by omega
      go_wp2_with fail
      go_ret
      exact ⟨rfl, rfl⟩
/-- digits without noughts ahead stay as they are -/
theorem splain_any (l : List UInt8) (w : World) (hl : l.length ≤ 1000000000) (h0 : l ≠ []) (hh : l.head? = some 48 → l = [48]) :
    Calls Tryz.prog 163 #[.string (bs l)] w fun e w' => e = .returned (.string (bs l)) ∧ w = w' := by
  have hne : (bs l).toList.isEmpty = false := by
    rw [ByteArray.toList_eq]
    cases l with
    | nil => exact absurd rfl h0
    | cons c r => rfl
  obtain ⟨t, ht, hcase⟩ : ∃ t : List UInt8, Lib.trimLeftB l 48 = t ∧ ((t = l ∧ (bs t).toList.isEmpty = false) ∨ (t = [] ∧ l = [48])) := by
    refine ⟨_, rfl, ?_⟩
    by_cases h : l.head? = some 48
    · right
      obtain rfl := hh h
      exact ⟨by decide, rfl⟩
    · left
      have e : Lib.trimLeftB l 48 = l := by
        cases l with
        | nil => rfl
        | cons c r =>
          have hc : c ≠ 48 := fun e => h (by rw [e]; rfl)
          unfold Lib.trimLeftB
          rw [List.dropWhile_cons_of_neg (by simpa using hc)]
      rw [e]
      exact ⟨rfl, hne⟩
  have HT := Lib.hid (fun W => Any.strings_TrimLeft_one Tryz.lays161 (bs l) 48 (by decide) W)
  have e2 : (⟨(Lib.trimLeftB (bs l).data.toList 48).toArray⟩ : ByteArray) = bs t := by rw [← ht]
  rw [e2] at HT
  change Hid (∀ W, Calls Tryz.prog 196 #[.string (bs l), .string ⟨#[48]⟩] W fun e w' => e = .returned (.string (bs t)) ∧ w' = W) at HT
  clear e2 ht h0 hh
  rcases hcase with ⟨rfl, h2⟩ | ⟨rfl, rfl⟩
  · generalize bs t = S at *
    go_enter Tryz.func163, Tryz.ntmps163
    go_wp2_with fail
    refine (HT.out _).mono ?_
    rintro e w' ⟨rfl, rfl⟩
    go_wp2_with fail
    go_ret
    exact ⟨rfl, rfl⟩
  · have h3 : (bs ([] : List UInt8)).toList.isEmpty = true := by rw [ByteArray.toList_eq]; rfl
    have HF := Lib.hid (show bs [48] = ⟨#[48]⟩ from rfl)
    generalize bs [48] = S at *
    generalize bs ([] : List UInt8) = S0 at *
    go_enter Tryz.func163, Tryz.ntmps163
    go_wp2_with fail
    refine (HT.out _).mono ?_
    rintro e w' ⟨rfl, rfl⟩
    go_wp2_with fail
    go_ret
    exact ⟨by rw [HF.out]; rfl, rfl⟩
namespace Pl
theorem pm_digits : ∀ (l : List UInt8) (k acc : Nat), (∀ c ∈ l, 48 ≤ c.toNat ∧ c.toNat ≤ 57) → acc < 10 ^ k → k + l.length ≤ 19 → Lib.parseUintM (2 ^ 64 - 1) acc l = .ok (l.foldl (fun a c => a * 10 + (c.toNat - 48)) acc)
  | [], _, _, _, _, _ => rfl
  | c :: r, k, acc, hd, ha, hk => by
    have hc := hd c (by simp)
    simp only [List.length_cons] at hk
    have h1 : acc < 10 ^ 18 := Nat.lt_of_lt_of_le ha (Nat.pow_le_pow_right (by decide) (by omega))
    have h2 : acc * 10 + (c.toNat - 48) < 10 ^ (k + 1) := by rw [Nat.pow_succ]; omega
    unfold Lib.parseUintM
    rw [if_pos hc, if_neg (by omega), if_neg (by omega)]
    exact pm_digits r (k + 1) _ (fun x hx => hd x (by simp [hx])) h2 (by omega)
theorem dg_digit {c : UInt8} (h : 48 ≤ c.toNat ∧ c.toNat ≤ 57) : dg c = c.toNat - 48 := by
  unfold dg
  rw [if_pos h]
theorem fold_val (l : List UInt8) (hd : ∀ c ∈ l, 48 ≤ c.toNat ∧ c.toNat ≤ 57) : l.foldl (fun a c => a * 10 + (c.toNat - 48)) 0 = valB 10 (l.map dg) := by
  unfold valB
  rw [List.foldl_map]
  have key : ∀ (m : List UInt8) (a : Nat), (∀ c ∈ m, 48 ≤ c.toNat ∧ c.toNat ≤ 57) → m.foldl (fun a c => a * 10 + (c.toNat - 48)) a = m.foldl (fun a c => a * 10 + dg c) a := by
    intro m
    induction m with
    | nil => intro a _; rfl
    | cons c r ih =>
      intro a h
      rw [List.foldl_cons, List.foldl_cons, dg_digit (h c (by simp))]
      exact ih _ (fun x hx => h x (by simp [hx]))
  exact key l 0 hd
theorem parse_digits {l : List UInt8} {V : Nat} (h : CanT 10 l V) (hd : ∀ c ∈ l, 48 ≤ c.toNat ∧ c.toNat ≤ 57) (hl : l.length ≤ 19) : Lib.parseIntB 64 l = if 9223372036854775808 ≤ V then .range else .ok (V : Int) := by
  have h0 : l ≠ [] := fun e => h.ne (by rw [e]; rfl)
  have hu : Lib.parseUintB 64 l = .ok V := by
    unfold Lib.parseUintB
    rw [if_neg h0, pm_digits l 0 0 hd (by decide) (by omega), fold_val l hd, h.val]
  cases l with
  | nil => exact absurd rfl h0
  | cons c r =>
    have hc := hd c (by simp)
    have n43 : ¬ (c.toNat = 43 ∨ c.toNat = 45) := by omega
    have n45 : ¬ c.toNat = 45 := by omega
    have e : Lib.parseIntB 64 (c :: r) = (match Lib.parseUintB 64 (if c.toNat = 43 ∨ c.toNat = 45 then r else c :: r) with | .syntax => .syntax | .range => .range | .ok u => if ¬ (c.toNat = 45) ∧ 2 ^ (64 - 1) ≤ u then .range else if c.toNat = 45 ∧ 2 ^ (64 - 1) < u then .range else .ok (if c.toNat = 45 then -(u : Int) else u)) := rfl
    rw [e, if_neg n43, hu]
    simp only
    by_cases hV : 9223372036854775808 ≤ V
    · rw [if_pos ⟨n45, hV⟩, if_pos hV]
    · rw [if_neg (fun h => hV h.2), if_neg (fun h => n45 h.1), if_neg n45, if_neg hV]
/-- the digits of a number to the base ten -/
theorem canT_digits {l : List UInt8} {V : Nat} (h : CanT 10 l V) : ∀ c ∈ l, 48 ≤ c.toNat ∧ c.toNat ≤ 57 := by
  intro c hc
  have h1 := h.lt (dg c) (List.mem_map.2 ⟨c, hc, rfl⟩)
  have h2 := (d10_iff c).2 h1
  unfold D10 at h2
  simp only [List.mem_cons, List.not_mem_nil, or_false] at h2
  rcases h2 with rfl | rfl | rfl | rfl | rfl | rfl | rfl | rfl | rfl | rfl <;> decide
theorem canT_big {l : List UInt8} {V : Nat} (h : CanT 10 l V) (hl : 19 < l.length) : 10000000000000000000 ≤ V := by
  cases l with
  | nil => simp at hl
  | cons c r =>
    have h1 : dg c ≠ 0 := fun e => by
      have := h.head (by rw [List.map_cons, e]; rfl)
      rw [List.length_map] at this
      omega
    have h2 := valB_append 10 [dg c] (r.map dg)
    have h3 : valB 10 [dg c] = dg c := by simp [valB]
    rw [h3, List.singleton_append, List.length_map, ← List.map_cons, h.val] at h2
    simp only [List.length_cons] at hl
    have h4 : (10 : Nat) ^ 19 ≤ 10 ^ r.length := Nat.pow_le_pow_right (by decide) (by omega)
    have h5 : 1 * 10 ^ r.length ≤ dg c * 10 ^ r.length := Nat.mul_le_mul_right _ (by omega)
    have h6 : (10 : Nat) ^ 19 = 10000000000000000000 := by decide
    omega
theorem canT_head48 {l : List UInt8} {V : Nat} (h : CanT 10 l V) (h2 : l.head? = some 48) : l = [48] := by
  cases l with
  | nil => cases h2
  | cons c r =>
    have hc : c = 48 := by simpa using h2
    subst hc
    exact (canT_nought h).1 ▸ rfl
end Pl
theorem bytesWorld_low (w : World) (t : TypeId) (W : World) (h : W = w ∨ ∃ x, W = Lib.bytesWorld w t x) : Below w.heap.size w W := by
  rcases h with rfl | ⟨x, rfl⟩
  · exact Below.refl _ _
  · exact bytesWorld_below _ _ _
end Go.Proofs.YtlodbibagmblkaaGreatDoor
