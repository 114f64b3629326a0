/- Contracts of the wire's functions that make bytes: put, low, Put and the document's Put. -/
import Derived.Test.YtidflgagcamdpaaB
import Derived.Test.YtidflgagcamdpaaOwn
namespace Go.Proofs.Ytidflgagcamdpaa
open Go.RowKit Go.Lib
def bc (l : List UInt8) : List Value := l.map fun b => Value.int .u8 b.toNat
theorem bc_app (a b : List UInt8) : bc (a ++ b) = bc a ++ bc b := by simp [bc]
theorem bc_len (a : List UInt8) : (bc a).length = a.length := by simp [bc]
theorem info5 : (Try.prog.info? 5).map (fun i => (i.zero, i.size, i.bytes)) = some (some (.int .u8 0), 1, 1) := by kernel_rfl
theorem leBytes_len : ∀ k n, (Pl.leBytes k n).length = k
  | 0, _ => rfl
  | k + 1, n => by simp [Pl.leBytes, leBytes_len k]
theorem leBytes_succ : ∀ k n, Pl.leBytes (k + 1) n = Pl.leBytes k n ++ [UInt8.ofNat (n / 256 ^ k)]
  | 0, n => by simp [Pl.leBytes]
  | k + 1, n => by
    have h := leBytes_succ k (n / 256)
    rw [Pl.leBytes, h, Pl.leBytes, Nat.div_div_eq_div_mul, Nat.pow_succ, Nat.mul_comm 256]
    rfl
theorem one_new (w : World) (u : Value) (t : TypeId) : ∀ j x, [u][j]? = some x → (w.alloc (.cells #[u] t)).cell? ((⟨w.heap.size, 0, none⟩ : Addr).add j) = some x := by
  intro j x hj
  match j, hj with
  | 0, hj => simp at hj; subst hj; simp [Addr.add]
/-- What 'put' leaves: a value that owns the bytes. -/
def PutOk (base : Nat) (v : Value) (w : World) (l : List UInt8) (e : Ending) (w' : World) : Prop :=
  ∃ v', e = .returned v' ∧ Owns w' base 5 1 v' l.length (bc l) ∧ Grow w v w' v'
set_option maxHeartbeats 400000 in
theorem put_any (base : Nat) (v : Value) (l : List UInt8) (n many : Nat) (w : World) (hown : Owns w base 5 1 v l.length (bc l)) (hb : base ≤ w.heap.size) (hn : n < 18446744073709551616) (hl : l.length + many ≤ 140737488355328) :
    Calls Try.prog 26 #[v, .int .u64 n, .int .i64 many] w (PutOk base v w (l ++ Pl.leBytes many n)) := by
  obtain ⟨i0, hi, hz0, hz1, hz2⟩ := info_parts info5
  obtain ⟨a0, c0, rfl⟩ := hown.form
  go_enter Try.func26, Try.ntmps26
  go_wp2
  go_loopw [0, 1, 8] (fun s0 m i wr => ∃ k : Nat, k ≤ many ∧ i = .int .i64 k ∧ m = .int .u64 ((n / 256 ^ k : Nat) : Int) ∧ Owns wr base 5 1 s0 (l.length + k) (bc (l ++ Pl.leBytes k n)) ∧ Grow w (.slice a0 l.length c0) wr s0) (fun _ _ i _ => many - (intOf i).toNat)
  case atStart => exact ⟨0, Nat.zero_le _, rfl, by simp, by simpa [Pl.leBytes] using hown, Grow.refl _ _⟩
  case round =>
    obtain ⟨k, hk, rfl, rfl, ho, hg⟩ := hrel
    obtain ⟨a1, c1, rfl⟩ := ho.form
    have HO := Lib.hid ho
    have HG := Lib.hid hg
    have hsz := hg.1.size
    have hx : n / 256 ^ k < 18446744073709551616 := Nat.lt_of_le_of_lt (Nat.div_le_self _ _) hn
    clear ho hg hown
    generalize hX : n / 256 ^ k = x at hx
    have HX := Lib.hid hX
    clear hX
    by_cases hlt : k < many
    · go_wp2_with (at_builtin; refine wpList_append_owns rfl (.tmp 10) (.tmp 13) 40 rfl base 5 i0 (.int .u8 0) 1 1 Try.underlying40 hi hz0 hz1 hz2 rfl _ _ _ rfl (HO.out.alloc _) ⟨wr.heap.size, 0, none⟩ 1 1 [.int .u8 (↑x % 256)] rfl rfl ?c1 ?c2 ?c3 ?c4 ?c5 ?_)
      case c1 => exact one_new _ _ _
      case c2 => intro u hu; simp at hu; subst hu; rfl
      case c3 => unfold maxLen; omega
      case c4 => omega
      case c5 => simp; omega
      · intro v' w1 hown' hgrow
        have HO' := Lib.hid hown'
        have HG' := Lib.hid hgrow
        have hz := hgrow.1.size
        obtain ⟨a2, c2, rfl⟩ := hown'.form
        clear hown' hgrow
        go_wp2
        go_roundw
        case rel =>
          refine ⟨k + 1, by omega, by go_num, ?_, ?_, (HG.out.trans (Grow.alloc _ _ _)).trans HG'.out⟩
          · rw [Nat.pow_succ, ← Nat.div_div_eq_div_mul, HX.out]; congr 1
          · have h := HO'.out
            rw [leBytes_succ, HX.out, ← List.append_assoc, bc_app]
            rw [show bc [UInt8.ofNat x] = [.int .u8 (↑x % 256)] from by simp [bc]]
            exact h
        case measure => simp [intOf]; omega
    · obtain rfl : k = many := by omega
      go_wp2
      go_ret
      exact ⟨_, rfl, by rw [List.length_append, leBytes_len]; exact HO.out, HG.out⟩
end Go.Proofs.Ytidflgagcamdpaa
