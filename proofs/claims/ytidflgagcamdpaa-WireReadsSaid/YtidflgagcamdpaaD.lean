/- Contracts of the wire's functions that make bytes, second part: low, Put and the document's Put. -/
import Derived.Test.YtidflgagcamdpaaC
namespace Go.Proofs.Ytidflgagcamdpaa
open Go.RowKit Go.Lib
def bs (l : List UInt8) : ByteArray := ⟨l.toArray⟩
theorem bs_size (l : List UInt8) : (bs l).size = l.length := by simp [bs, ByteArray.size]
theorem bs_list (l : List UInt8) : (bs l).data.toList = l := by simp [bs]
theorem bs_of (s : ByteArray) : bs s.data.toList = s := by simp [bs]
theorem bs_app (a b : List UInt8) : bs (a ++ b) = bs a ++ bs b := by
  apply ByteArray.ext; simp [bs]
theorem ret_str {a b : List UInt8} (h : a = b) : Ending.returned (.string ⟨a.toArray⟩) = .returned (.string (bs b)) := by rw [h]; rfl
set_option maxHeartbeats 400000 in
theorem low_any (n many : Nat) (w : World) (hn : n < 18446744073709551616) (hl : many ≤ 140737488355328) :
    Calls Try.prog 28 #[.int .u64 n, .int .i64 many] w fun e w' => e = .returned (.string (bs (Pl.leBytes many n))) ∧ Below w.heap.size w w' := by
  obtain ⟨i0, hi, hz0, hz1, hz2⟩ := info_parts info5
  go_enter Try.func28, Try.ntmps28
  go_wp2
  go_loopw [0, 5, 6] (fun m s0 i wr => ∃ k : Nat, k ≤ many ∧ i = .int .i64 k ∧ m = .int .u64 ((n / 256 ^ k : Nat) : Int) ∧ Owns wr w.heap.size 5 1 s0 k (bc (Pl.leBytes k n)) ∧ Below w.heap.size w wr) (fun _ _ i _ => many - (intOf i).toNat)
  case atStart => exact ⟨0, Nat.zero_le _, rfl, by simp, Owns.nil _ _ _ _, Below.refl _ _⟩
  case round =>
    obtain ⟨k, hk, rfl, rfl, ho, hg⟩ := hrel
    obtain ⟨a1, c1, rfl⟩ := ho.form
    have HO := Lib.hid ho
    have HG := Lib.hid hg
    have hsz := hg.size
    have hx : n / 256 ^ k < 18446744073709551616 := Nat.lt_of_le_of_lt (Nat.div_le_self _ _) hn
    clear ho hg
    generalize hX : n / 256 ^ k = x at hx
    have HX := Lib.hid hX
    clear hX
    by_cases hlt : k < many
    · go_wp2_with (at_builtin; refine wpList_append_owns rfl (.tmp 12) (.tmp 16) 40 rfl w.heap.size 5 i0 (.int .u8 0) 1 1 Try.underlying40 hi hz0 hz1 hz2 rfl _ _ _ rfl (HO.out.alloc _) ⟨wr.heap.size, 0, none⟩ 1 1 [.int .u8 (↑x % 256)] rfl rfl ?c1 ?c2 ?c3 ?c4 ?c5 ?_)
      case c1 => exact one_new _ _ _
      case c2 => intro u hu; simp at hu; subst hu; rfl
      case c3 => unfold maxLen; omega
      case c4 => omega
      case c5 => simp; omega
      · intro v' w1 hown' hgrow
        have HO' := Lib.hid hown'
        have HG' := Lib.hid hgrow
        have hz := hgrow.1.size
        obtain ⟨a2, c2, rfl⟩ := hown'.form
        clear hown' hgrow
        go_wp2
        go_roundw
        case rel =>
          refine ⟨k + 1, by omega, by go_num, ?_, ?_, ?_⟩
          · rw [Nat.pow_succ, ← Nat.div_div_eq_div_mul, HX.out]; congr 1
          · have h := HO'.out
            rw [leBytes_succ, HX.out, bc_app]
            rw [show bc [UInt8.ofNat x] = [.int .u8 (↑x % 256)] from by simp [bc]]
            exact h
          · exact HG'.out.below ((HG.out).alloc hsz _) (by simp; omega) (fun j hj => (HO.out.lt j hj).1)
        case measure => simp [intOf]; omega
    · obtain rfl : k = many := by omega
      have hcv := run_string_of_owns (P := Try.prog) 40 9 Try.underlying40 Try.underlying5 Try.underlying9 HO.out
      go_wp2
      go_ret
      exact ⟨rfl, HG.out⟩
/-- A slice of words: nothing, or a row of cells. -/
def Words (w : World) (a : Option Addr) (zs : List Nat) : Prop :=
  zs = [] ∨ ∃ b off, a = some ⟨b, off, none⟩ ∧ b < w.heap.size ∧ ∀ i (h : i < zs.length), w.cell? ⟨b, off + i, none⟩ = some (.int .u64 (zs[i] : Nat)) ∧ zs[i] < 18446744073709551616
def putAll (zs : List Nat) : List UInt8 := zs.flatMap (Pl.leBytes 8)
theorem putAll_len : ∀ zs, (putAll zs).length = 8 * zs.length
  | [] => rfl
  | z :: r => by have := putAll_len r; simp only [putAll] at this; simp [putAll, leBytes_len, this]; omega
theorem putAll_snoc (zs : List Nat) (k : Nat) (h : k < zs.length) : putAll (zs.take (k + 1)) = putAll (zs.take k) ++ Pl.leBytes 8 zs[k] := by
  rw [List.take_succ_eq_append_getElem h]; unfold putAll; rw [List.flatMap_append, List.flatMap_singleton]
theorem Words.at {w wr : World} {a : Option Addr} {zs : List Nat} (h : Words w a zs) (hb : Below w.heap.size w wr) {k : Nat} (hk : k < zs.length) :
    ∃ b off, a = some ⟨b, off, none⟩ ∧ wr.cell? ⟨b, off + k, none⟩ = some (.int .u64 (zs[k] : Nat)) ∧ zs[k] < 18446744073709551616 := by
  rcases h with rfl | ⟨b, off, rfl, hlt, hc⟩
  · simp at hk
  · exact ⟨b, off, rfl, (hb.cell hlt).trans (hc k hk).1, (hc k hk).2⟩
set_option maxHeartbeats 400000 in
theorem rput_any (s : ByteArray) (a : Option Addr) (cap : Nat) (zs : List Nat) (w : World) (hz : Words w a zs) (hs : s.size + 8 * zs.length ≤ 1099511627776) :
    Calls Try.prog 12 #[.string s, .slice a zs.length cap] w fun e w' => e = .returned (.string (bs (s.data.toList ++ putAll zs))) ∧ Below w.heap.size w w' := by
  have HZ := Lib.hid hz
  clear hz
  go_enter Try.func12, Try.ntmps12
  go_wp2
  go_loopw [0, 5] (fun t i wr => ∃ k : Nat, k ≤ zs.length ∧ i = .int .i64 k ∧ t = .string (bs (s.data.toList ++ putAll (zs.take k))) ∧ Below w.heap.size w wr) (fun _ i _ => zs.length - (intOf i).toNat)
  case atStart => exact ⟨0, Nat.zero_le _, rfl, by simp [putAll, bs_of], Below.refl _ _⟩
  case round =>
    obtain ⟨k, hk, rfl, rfl, hg⟩ := hrel
    have HG := Lib.hid hg
    clear hg
    by_cases hlt : k < zs.length
    · obtain ⟨b, off, rfl, hc, hx⟩ := HZ.out.at HG.out hlt
      have HS := Lib.hid (putAll_snoc zs k hlt)
      generalize zs[k] = x at hc hx HS
      go_wp2_with fail
      refine (low_any x 8 _ hx (by omega)).mono ?_
      rintro e w' ⟨rfl, hb⟩
      have HB := Lib.hid hb
      clear hb
      have hsum : (bs (s.data.toList ++ putAll (zs.take k))).size + (bs (Pl.leBytes 8 x)).size ≤ 9223372036854775807 := by
        rw [bs_size, bs_size, List.length_append, putAll_len, leBytes_len, List.length_take]; simp; omega
      go_wp2
      go_roundw
      case rel => exact ⟨k + 1, by omega, by go_num, by rw [HS.out, ← List.append_assoc, bs_app (s.data.toList ++ putAll (zs.take k))], HG.out.trans (HB.out.mono HG.out.size)⟩
      case measure => simp [intOf]; omega
    · obtain rfl : k = zs.length := by omega
      go_wp2
      go_ret
      exact ⟨by rw [List.take_length]; rfl, HG.out⟩
set_option maxHeartbeats 400000 in
theorem wput_any (s : ByteArray) (a : Option Addr) (cap : Nat) (zs : List Nat) (w : World) (hz : Words w a zs) (hs : s.size + 8 * zs.length ≤ 1099511627776) :
    Calls Try.prog 10 #[.string s, .slice a zs.length cap] w fun e w' => e = .returned (.string (bs (s.data.toList ++ putAll zs))) ∧ Below w.heap.size w w' := by
  have HZ := Lib.hid hz
  clear hz
  have HO := Lib.hid (Owns.ofString w w.heap.size 5 s (by unfold maxLen; omega) (Nat.le_refl _))
  have HB := Lib.hid (bytesWorld_below w 5 s)
  go_enter Try.func10, Try.ntmps10
  go_wp2_with (refine wpList_bytes_of_string rfl (.tmp 8) 9 40 rfl s rfl 5 Try.underlying9 Try.underlying40 Try.underlying5 ?_)
  generalize bytesWorld w 5 s = w1 at *
  generalize grownCap w s.size 0 5 = c1 at *
  go_wp2_with fail
  go_loopw [5, 12] (fun t i wr => ∃ k : Nat, k ≤ zs.length ∧ i = .int .i64 k ∧ Owns wr w.heap.size 5 1 t (s.data.toList ++ putAll (zs.take k)).length (bc (s.data.toList ++ putAll (zs.take k))) ∧ Below w.heap.size w wr) (fun _ i _ => zs.length - (intOf i).toNat)
  case atStart =>
    refine ⟨0, Nat.zero_le _, rfl, ?_, HB.out⟩
    have h := HO.out
    rw [List.take_zero, show putAll [] = [] from rfl, List.append_nil, show s.data.toList.length = s.size by simp]
    exact h
  case round =>
    obtain ⟨k, hk, rfl, ho, hg⟩ := hrel
    have hll : (s.data.toList ++ putAll (zs.take k)).length + 8 ≤ 140737488355328 := by
      rw [List.length_append, putAll_len, List.length_take]; simp; omega
    generalize hL : s.data.toList ++ putAll (zs.take k) = l at ho hll
    have HL := Lib.hid hL
    obtain ⟨a1, c1, rfl⟩ := ho.form
    have HO := Lib.hid ho
    have HG := Lib.hid hg
    clear ho hg hL
    by_cases hlt : k < zs.length
    · obtain ⟨b, off, rfl, hc, hx⟩ := HZ.out.at HG.out hlt
      have HS := Lib.hid (putAll_snoc zs k hlt)
      generalize zs[k] = x at hc hx HS
      go_wp2_with fail
      refine (put_any w.heap.size _ l x 8 _ HO.out HG.out.size hx hll).mono ?_
      rintro e w' ⟨v', rfl, ho', hg'⟩
      obtain ⟨a2, c2, rfl⟩ := ho'.form
      have HO' := Lib.hid ho'
      have HG' := Lib.hid hg'
      clear ho' hg'
      go_wp2
      go_roundw
      case rel =>
        refine ⟨k + 1, by omega, by go_num, ?_, HG'.out.below HG.out HG.out.size (fun j hj => (HO.out.lt j hj).1)⟩
        rw [HS.out, ← List.append_assoc, HL.out]; simpa only [List.length_append] using HO'.out
      case measure => simp [intOf]; omega
    · obtain rfl : k = zs.length := by omega
      have hcv := run_string_of_owns (P := Try.prog) 40 9 Try.underlying40 Try.underlying5 Try.underlying9 HO.out
      go_wp2
      go_ret
      have h := HL.out
      rw [List.take_length] at h
      exact ⟨by rw [h]; rfl, HG.out⟩
end Go.Proofs.Ytidflgagcamdpaa
