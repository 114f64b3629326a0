/- The contracts of ParseFloat and Read. -/
import Derived.Test.YtgdohmaljbggjaaGreatDoorBaan
import Derived.Test.YtgdohmaljbggjaaGreatDoorBaak
import Derived.LaidEql
namespace Go.Proofs.YtgdohmaljbggjaaGreatDoor
open Go.RowKit Go.Lib
/-- What atof64 answers of a text. -/
def AtofAs (s : ByteArray) (w : World) (r n : Nat) (v : Value) : Prop := Calls Tryz.prog 163 #[.string s] w fun e w' => e = .returned (.tuple #[.float .f64 r, .int .i64 n, v]) ∧ w = w'
theorem pre_any (s : ByteArray) (w : World) (r n : Nat) (v : Value) (h : AtofAs s w r n v) :
    Calls Tryz.prog 128 #[.string s, .int .i64 64] w fun e w' => e = .returned (.tuple #[.float .f64 r, .int .i64 n, v]) ∧ w = w' := by
  go_enter Tryz.func128, Tryz.ntmps128
  go_wp2_with fail
  refine h.mono ?_
  rintro e w' ⟨rfl, rfl⟩
  go_wp2_with fail
  go_ret3
  exact ⟨rfl, rfl⟩
theorem iparse_any (s : ByteArray) (w : World) (r n : Nat) (v : Value) (h : AtofAs s w r n v) (hn : Hid (s.size = n)) :
    Calls Tryz.prog 86 #[.string s, .int .i64 64] w fun e w' => e = .returned (.tuple #[.float .f64 r, v]) ∧ w = w' := by
  have hn' := hn.out
  have b1 : ((n : Int) != (n : Int)) = false := by simp
  go_enter Tryz.func86, Tryz.ntmps86
  go_wp2_with fail
  refine (pre_any s _ r n v h).mono ?_
  rintro e w' ⟨rfl, rfl⟩
  go_wp2_with fail
  go_ret2
  exact ⟨rfl, rfl⟩
theorem parse_ok (s : ByteArray) (w : World) (r n : Nat) (h : AtofAs s w r n .nilIface) (hn : Hid (s.size = n)) :
    Calls Tryz.prog 44 #[.string s, .int .i64 64] w fun e w' => e = .returned (.tuple #[.float .f64 r, .nilIface]) ∧ w = w' := by
  go_enter Tryz.func44, Tryz.ntmps44
  go_wp2_with fail
  refine (iparse_any s _ r n _ h hn).mono ?_
  rintro e w' ⟨rfl, rfl⟩
  go_wp2_with fail
  go_ret2
  exact ⟨rfl, rfl⟩
theorem info140 : (Tryz.prog.info? 129).map (fun i => i.comparable) = some true := by kernel_rfl
theorem run_err_eq (w : World) (a b : Int) : (binOp .eql 53 (.iface 129 (.int .i64 a)) (.iface 129 (.int .i64 b))).run Tryz.prog w = .ok (.bool (a == b)) w := by
  have hi := Tryz.underlying53
  have hn := Tryz.underlying129
  have h0 := info140
  cases hinfo : Tryz.prog.info? 129 with
  | none => rw [hinfo] at h0; cases h0
  | some i =>
    rw [hinfo] at h0
    have hcomp : i.comparable = true := by simpa using h0
    have key : ∀ d, (Op.equalIn (d + 2) 53 (.iface 129 (.int .i64 a)) (.iface 129 (.int .i64 b))).run Tryz.prog w = .ok (a == b) w := by
      intro d
      simp [Op.equalIn, run_underlying hi, run_underlying hn, typeInfo, hinfo, hcomp]
    simp only [binOp]
    simp [Op.equal, Op.maxDepth, key 9998]
set_option maxHeartbeats 1000000 in
theorem toError_range (fn s : ByteArray) (w : World) (hs : s.size ≤ 100000) (he : Env w) :
    Calls Tryz.prog 87 #[.string fn, .string s, .int .i64 0, .int .i64 64, .iface 129 (.int .i64 1)] w fun e w' => ∃ a, e = .returned (.iface 130 (.pointer (some a))) ∧ Below w.heap.size w w' := by
  obtain ⟨ev, hv1, hv2⟩ := he.err
  have HR := Lib.hid (Tryz.strconv_rangeError fn s ev w (by omega) hv1 hv2)
  have h1 := run_err_eq
  clear hv1 hv2
  go_enter Tryz.func87, Tryz.ntmps87
  go_wp2_with fail
  refine HR.out.mono ?_
  rintro e w1 ⟨N, rfl, _, _, hB⟩
  go_wp2_with fail
  go_ret
  exact ⟨_, rfl, hB⟩
set_option maxHeartbeats 1000000 in
theorem parse_far (s : ByteArray) (w : World) (r n : Nat) (h : AtofAs s w r n (.iface 129 (.int .i64 1))) (hn : Hid (s.size = n)) (hs : s.size ≤ 100000) (he : Env w) :
    Calls Tryz.prog 44 #[.string s, .int .i64 64] w fun e w' => ∃ a, e = .returned (.tuple #[.float .f64 r, .iface 130 (.pointer (some a))]) ∧ Below w.heap.size w w' := by
  go_enter Tryz.func44, Tryz.ntmps44
  go_wp2_with fail
  refine (iparse_any s _ r n _ h hn).mono ?_
  rintro e w' ⟨rfl, rfl⟩
  go_wp2_with fail
  refine (toError_range _ s _ hs he).mono ?_
  rintro e w1 ⟨a, rfl, hB⟩
  go_wp2_with fail
  go_ret2
  exact ⟨_, rfl, hB⟩
theorem read_no (l : List UInt8) (w : World) (hl : l.length ≤ 1000000) (hf : Pl.formed l = false) :
    Calls Tryz.prog 13 #[.string (bs l)] w fun e w' => e = .returned (.tuple #[.int .u64 0, .int .i64 100]) ∧ Below w.heap.size w w' := by
  have HF := Lib.hid (formed_any l w hl)
  rw [hf] at HF
  generalize bs l = s at *
  go_enter Tryz.func13, Tryz.ntmps13
  go_wp2_with fail
  refine HF.out.mono ?_
  rintro e w1 ⟨rfl, hB⟩
  go_wp2_with fail
  go_ret2
  exact ⟨rfl, hB⟩
theorem read_far (l : List UInt8) (w : World) (hl : l.length ≤ 1000) (hf : Pl.formed l = true) (he : Env w) (r : Nat) (h : ∀ w, Env w → AtofAs (bs l) w r l.length (.iface 129 (.int .i64 1))) :
    Calls Tryz.prog 13 #[.string (bs l)] w fun e w' => e = .returned (.tuple #[.int .u64 0, .int .i64 101]) ∧ Below w.heap.size w w' := by
  have HF := Lib.hid (formed_any l w (by omega))
  have HP := Lib.hid (fun w he => parse_far (bs l) w r l.length (h w he) (Lib.hid rfl) (by rw [bs_size]; omega) he)
  rw [hf] at HF
  clear h
  generalize bs l = s at *
  go_enter Tryz.func13, Tryz.ntmps13
  go_wp2_with fail
  refine HF.out.mono ?_
  rintro e w1 ⟨rfl, hB⟩
  go_wp2_with fail
  refine (HP.out _ (he.below hB)).mono ?_
  rintro e w2 ⟨a, rfl, hB2⟩
  go_wp2_with fail
  go_ret2
  exact ⟨rfl, hB.trans (hB2.mono hB.size)⟩
theorem read_ok (l : List UInt8) (w : World) (hl : l.length ≤ 1000) (hf : Pl.formed l = true) (he : Env w) (r : Nat) (h : ∀ w, Env w → AtofAs (bs l) w r l.length .nilIface) :
    Calls Tryz.prog 13 #[.string (bs l)] w fun e w' => e = .returned (.tuple #[.int .u64 (Fl.told r), .int .i64 0]) ∧ Below w.heap.size w w' := by
  have HF := Lib.hid (formed_any l w (by omega))
  have HP := Lib.hid (fun w he => parse_ok (bs l) w r l.length (h w he) (Lib.hid rfl))
  rw [hf] at HF
  clear h
  generalize bs l = s at *
  go_enter Tryz.func13, Tryz.ntmps13
  go_wp2_with fail
  refine HF.out.mono ?_
  rintro e w1 ⟨rfl, hB⟩
  go_wp2_with fail
  refine (HP.out _ (he.below hB)).mono ?_
  rintro e w2 ⟨rfl, rfl⟩
  go_wp2_with fail
  refine (told_any _ _).mono ?_
  rintro e w2 ⟨rfl, rfl⟩
  go_wp2_with fail
  go_ret2
  exact ⟨rfl, hB⟩
end Go.Proofs.YtgdohmaljbggjaaGreatDoor
