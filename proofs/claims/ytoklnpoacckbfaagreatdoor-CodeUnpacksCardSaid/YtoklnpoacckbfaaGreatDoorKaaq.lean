/- The document's literal and Integer. The document's Integer. (Printed by gen_inr.py.) -/
import Derived.Test.YtoklnpoacckbfaaGreatDoorKaak
namespace Go.Proofs.YtoklnpoacckbfaaGreatDoor
open Go.RowKit
theorem eq48 {s : ByteArray} : (s.toList == [48]) = decide (s.data.toList = [48]) := by
  rw [ByteArray.toList_eq, Bool.eq_iff_iff]; simp
set_option maxRecDepth 100000 in
set_option maxHeartbeats 2000000 in
theorem rliteral_any (s : ByteArray) (m : Bool) (w : World) (hb : Pl.bare s.data.toList = s.data.toList) (hd : Pl.digs s.data.toList = true) (h0 : s.data.toList ≠ []) (hs : s.size ≤ 1000) :
    Calls Tryz.prog 164 #[.string s, .bool m] w fun e w' => e = .returned (.agg (Pl.numV (Pl.whole s.data.toList m))) ∧ Below w.heap.size w w' := by
  have LS := Lib.hid (size_list s)
  have E48 := Lib.hid (eq48 (s := s))
  by_cases hz : s.data.toList = [48]
  · have h48 : (s.toList == [48]) = true := by rw [eq48]; simpa using hz
    have HR := Lib.hid (show Pl.whole s.data.toList m = .small 0 by rw [hz]; cases m <;> rfl)
    clear hb hd h0 hz
    go_enter Tryz.func164, Tryz.ntmps164
    go_wp2_with fail
    refine bodyPost_ret (v := .agg (Pl.numV (.small 0))) (by simp [results, Tryz.results164, go_sem, Pl.numV]) rfl ⟨by rw [HR.out], (Below.refl _ _).alloc (Nat.le_refl _) _⟩
  · have h48 : (s.toList == [48]) = false := by rw [eq48]; simpa using hz
    by_cases hv : Pl.top m < Pl.val s.data.toList
    · have HR := Lib.hid (Pl.whole_large hv)
      have HL : Hid (Pl.longerB s.data.toList (if m = true then Pl.d76 else Pl.d75) = true) := by
        cases m
        · exact (Pl.longer_75 hb hd).trans (by simpa using hv)
        · exact (Pl.longer_76 hb hd).trans (by simpa using hv)
      clear hb hd h0 hz hv
      cases m
      · go_enter Tryz.func164, Tryz.ntmps164
        go_wp2_with fail
        refine (longer_any _ _ _).mono ?_
        rintro e w2 ⟨rfl, rfl⟩
        rw [show Pl.longerB s.data.toList (⟨#[49, 49, 53, 50, 57, 50, 49, 53, 48, 52, 54, 48, 54, 56, 52, 54, 57, 55, 53]⟩ : ByteArray).data.toList = true from HL.out]
        go_wp2_with fail
        refine bodyPost_ret (v := .agg #[.int .u8 5, .int .i64 0, .int .u64 0, .string s, .slice none 0 0]) (by simp [results, Tryz.results164, go_sem]) rfl ⟨?_, (Below.refl _ _).alloc (Nat.le_refl _) _⟩
        rw [HR.out]
        show _ = Ending.returned (.agg #[.int .u8 5, .int .i64 0, .int .u64 0, .string ⟨s.data.toList.toArray⟩, .slice none 0 0])
        rw [bytes_eta]
      · go_enter Tryz.func164, Tryz.ntmps164
        go_wp2_with fail
        refine (longer_any _ _ _).mono ?_
        rintro e w2 ⟨rfl, rfl⟩
        rw [show Pl.longerB s.data.toList (⟨#[49, 49, 53, 50, 57, 50, 49, 53, 48, 52, 54, 48, 54, 56, 52, 54, 57, 55, 54]⟩ : ByteArray).data.toList = true from HL.out]
        go_wp2_with fail
        refine bodyPost_ret (v := .agg #[.int .u8 5, .int .i64 0, .int .u64 0, .string (⟨#[45]⟩ ++ s), .slice none 0 0]) (by simp [results, Tryz.results164, go_sem]) rfl ⟨?_, (Below.refl _ _).alloc (Nat.le_refl _) _⟩
        rw [HR.out]
        show _ = Ending.returned (.agg #[.int .u8 5, .int .i64 0, .int .u64 0, .string ⟨(45 :: s.data.toList).toArray⟩, .slice none 0 0])
        rw [minus_eta]
    · have hle : Pl.val s.data.toList ≤ Pl.top m := by omega
      have hlen := Pl.small_len hb hd hle
      have htop : Pl.top m ≤ 1152921504606846976 := by unfold Pl.top; split <;> omega
      have HP := Lib.hid ((Pl.atoi_digs h0 hd hlen).trans (if_pos (by omega)))
      have HR := Lib.hid (Pl.whole_small hle)
      have HL : Hid (Pl.longerB s.data.toList (if m = true then Pl.d76 else Pl.d75) = false) := by
        cases m
        · exact (Pl.longer_75 hb hd).trans (by simpa using hle)
        · exact (Pl.longer_76 hb hd).trans (by simpa using hle)
      have hv0 : (Pl.val s.data.toList : Int) ≤ 1152921504606846976 := by omega
      obtain ⟨v, hvv⟩ : ∃ v : Int, v = (Pl.val s.data.toList : Int) := ⟨_, rfl⟩
      have HV := Lib.hid hvv
      have hv1 : v ≤ 1152921504606846976 := by omega
      have hv2 : 0 ≤ v := by omega
      clear hb hd h0 hz hv hle hlen htop hv0 hvv
      cases m
      · go_enter Tryz.func164, Tryz.ntmps164
        go_wp2_with fail
        refine (longer_any _ _ _).mono ?_
        rintro e w2 ⟨rfl, rfl⟩
        rw [show Pl.longerB s.data.toList (⟨#[49, 49, 53, 50, 57, 50, 49, 53, 48, 52, 54, 48, 54, 56, 52, 54, 57, 55, 53]⟩ : ByteArray).data.toList = false from HL.out]
        go_wp2_with fail
        refine (Tryz.strconv_ParseInt_10_at64_ok s (by omega) v (by rw [HP.out, HV.out]) _).mono ?_
        rintro e w2 ⟨rfl, hw2⟩
        have hb2 := bytesWorld_or hw2
        clear hw2
        obtain ⟨⟨d0, d1, d2, d3, d4⟩, ⟨f0, f1, f2, f3, f4⟩, hlt⟩ := newLit (hb2.mono (by simp)) rfl
        have HB := Lib.hid hb2
        clear hb2
        go_wp2_with fail
        refine bodyPost_ret (v := .agg #[.int .u8 4, .int .i64 v, .int .u64 0, .string ⟨#[]⟩, .slice none 0 0]) (by simp [results, Tryz.results164, go_sem, d0, d1, d2, d3, d4]) rfl ⟨?_, ?_⟩
        · rw [HR.out, HV.out]; rfl
        · exact ((((((((Below.refl _ _).alloc (Nat.le_refl _) _).trans (HB.out.mono (by simp))).setCell (Nat.le_refl _) _).setCell (Nat.le_refl _) _).setCell (Nat.le_refl _) _).setCell (Nat.le_refl _) _).setCell (Nat.le_refl _) _)
      · go_enter Tryz.func164, Tryz.ntmps164
        go_wp2_with fail
        refine (longer_any _ _ _).mono ?_
        rintro e w2 ⟨rfl, rfl⟩
        rw [show Pl.longerB s.data.toList (⟨#[49, 49, 53, 50, 57, 50, 49, 53, 48, 52, 54, 48, 54, 56, 52, 54, 57, 55, 54]⟩ : ByteArray).data.toList = false from HL.out]
        go_wp2_with fail
        refine (Tryz.strconv_ParseInt_10_at64_ok s (by omega) v (by rw [HP.out, HV.out]) _).mono ?_
        rintro e w2 ⟨rfl, hw2⟩
        have hb2 := bytesWorld_or hw2
        clear hw2
        obtain ⟨⟨d0, d1, d2, d3, d4⟩, ⟨f0, f1, f2, f3, f4⟩, hlt⟩ := newLit (hb2.mono (by simp)) rfl
        have HB := Lib.hid hb2
        clear hb2
        go_wp2_with fail
        refine bodyPost_ret (v := .agg #[.int .u8 4, .int .i64 (-v), .int .u64 0, .string ⟨#[]⟩, .slice none 0 0]) (by simp [results, Tryz.results164, go_sem, d0, d1, d2, d3, d4]) rfl ⟨?_, ?_⟩
        · rw [HR.out, HV.out]; rfl
        · exact ((((((((Below.refl _ _).alloc (Nat.le_refl _) _).trans (HB.out.mono (by simp))).setCell (Nat.le_refl _) _).setCell (Nat.le_refl _) _).setCell (Nat.le_refl _) _).setCell (Nat.le_refl _) _).setCell (Nat.le_refl _) _)
end Go.Proofs.YtoklnpoacckbfaaGreatDoor
namespace Go.Proofs.YtoklnpoacckbfaaGreatDoor
open Go.RowKit
def zeroLit : Array Value := #[.int .u8 0, .int .i64 0, .int .u64 0, .string ⟨#[]⟩, .slice none 0 0]
namespace Pl
def intV (o : Option Num) : Array Value := match o with
  | none => #[.agg zeroLit, .int .i64 144]
  | some x => #[.agg (numV x), .int .i64 0]
theorem integer_none {l : List UInt8} (h : unsigned l = [] ∨ digs (unsigned l) = false ∨ 255 < (bare (unsigned l)).length) : integer l = none := by unfold integer; rw [if_pos h]
theorem integer_some {l : List UInt8} (h0 : unsigned l ≠ []) (h1 : digs (unsigned l) = true) (h2 : (bare (unsigned l)).length ≤ 255) : integer l = some (whole (bare (unsigned l)) (minus l)) := by
  unfold integer; rw [if_neg]
  rintro (h | h | h)
  · exact h0 h
  · rw [h1] at h; cases h
  · omega
theorem minus_peek {l : List UInt8} : minus l = decide (peek l 0 = 45) := by
  unfold minus peek
  cases l with
  | nil => rfl
  | cons c r =>
    rw [Bool.eq_iff_iff]
    simp only [List.head?_cons, beq_iff_eq, Option.some.injEq, decide_eq_true_eq, List.getElem?_cons_zero, Option.getD_some]
    exact ⟨fun h => by rw [h]; rfl, fun h => UInt8.toNat_inj.1 h⟩
theorem minus_pos {l : List UInt8} (h : peek l 0 = 45) : 0 < l.length := by
  cases l with
  | nil => simp [peek] at h
  | cons _ _ => simp
theorem digs_take {l : List UInt8} {k : Nat} (hk : k < l.length) (h : digs (l.take k) = true) (hc : dig l[k] = true) : digs (l.take (k + 1)) = true := by
  unfold digs at h ⊢
  rw [List.take_add_one, List.getElem?_eq_getElem hk, List.all_append, h]
  simp [hc]
theorem digs_no {l : List UInt8} {k : Nat} (hk : k < l.length) (hc : dig l[k] = false) : digs l = false := by
  unfold digs
  rw [List.all_eq_false]
  exact ⟨l[k], List.getElem_mem hk, by rw [hc]; simp⟩
end Pl
set_option maxRecDepth 100000 in
set_option maxHeartbeats 2000000 in
theorem rinteger_minus (s : ByteArray) (w : World) (hs : s.size ≤ 140737488355328) (hm : Pl.peek s.data.toList 0 = 45) :
    Calls Tryz.prog 117 #[.string s] w fun e w' => e = .returned (.tuple (Pl.intV (Pl.integer s.data.toList))) ∧ Below w.heap.size w w' := by
  have LS := Lib.hid (size_list s)
  have hp := Pl.minus_pos hm
  have hpos : 1 ≤ s.size := by rw [size_list] at hp; omega
  have HMI := Lib.hid (show Pl.minus s.data.toList = true by rw [Pl.minus_peek]; simpa using hm)
  have hmI : ((Pl.peek s.data.toList 0 : Int) == 45) = true := by rw [hm]; rfl
  clear hp hm
  go_enter Tryz.func117, Tryz.ntmps117
  go_wp2_with fail
  refine (at_any s 0 _).mono ?_
  rintro e w2 ⟨rfl, rfl⟩
  go_wp2_with fail
  obtain ⟨t, ht⟩ : ∃ t, s.extract 1 s.size = t := ⟨_, rfl⟩
  have HU := Lib.hid (show t.data.toList = Pl.unsigned s.data.toList by rw [← ht, drop1]; unfold Pl.unsigned; rw [HMI.out]; rfl)
  have hts : t.size ≤ s.size := by rw [← ht, size_drop1]; omega
  rw [ht]
  clear ht
  have LT := Lib.hid (size_list t)
  go_loop [5] (fun v => ∃ k : Nat, v = .int .i64 k ∧ k ≤ t.size ∧ Pl.digs (t.data.toList.take k) = true) (fun v => t.size - (intOf v).toNat)
  case atStart => exact ⟨0, rfl, Nat.zero_le _, rfl⟩
  case round =>
    obtain ⟨k, rfl, hk, hdk⟩ := hrel
    have HD := Lib.hid hdk
    clear hdk
    by_cases hlt : k < t.size
    · have hl : k < t.data.toList.length := by rw [LT.out]; exact hlt
      go_wp2_with fail
      refine (rdigit_any t[k].toNat _).mono ?_
      rintro e w' ⟨rfl, rfl⟩
      cases hc : Pl.digit t[k].toNat
      · have HF := Lib.hid (Pl.integer_none (l := s.data.toList) (.inr (.inl (by rw [← HU.out]; exact Pl.digs_no hl hc))))
        clear hc
        go_wp2_with fail
        refine bodyPost_ret (v := .tuple #[.agg zeroLit, .int .i64 144]) (by simp [results, Tryz.results117, go_sem, zeroLit]) rfl ⟨by rw [HF.out]; rfl, (Below.refl _ _).alloc (Nat.le_refl _) _⟩
      · have HF := Lib.hid (Pl.digs_take hl HD.out hc)
        clear hc
        go_wp2_with fail
        go_round
        case rel => exact ⟨k + 1, by go_num, by omega, HF.out⟩
        case measure => simp [intOf]; omega
    · have HA := Lib.hid (show Pl.digs t.data.toList = true by
        have h := HD.out
        rwa [List.take_of_length_le (by rw [LT.out]; omega)] at h)
      go_wp2_with fail
      refine (rplain_any t _).mono ?_
      rintro e w' ⟨⟨q, rfl, hq⟩, rfl⟩
      have HQ := Lib.hid hq
      have LQ := Lib.hid (size_list q)
      clear hq
      by_cases h1 : q.size < 1
      · have HF := Lib.hid (Pl.integer_none (l := s.data.toList) (.inl (by
          have h : q.data.toList = [] := List.eq_nil_of_length_eq_zero (by rw [LQ.out]; omega)
          rw [HQ.out] at h
          rw [← HU.out]; exact Pl.bare_nil.1 h)))
        go_wp2_with fail
        refine bodyPost_ret (v := .tuple #[.agg zeroLit, .int .i64 144]) (by simp [results, Tryz.results117, go_sem, zeroLit]) rfl ⟨by rw [HF.out]; rfl, (Below.refl _ _).alloc (Nat.le_refl _) _⟩
      · by_cases h2 : 255 < q.size
        · have HF := Lib.hid (Pl.integer_none (l := s.data.toList) (.inr (.inr (by rw [← HU.out, ← HQ.out, LQ.out]; exact h2))))
          go_wp2_with fail
          refine bodyPost_ret (v := .tuple #[.agg zeroLit, .int .i64 144]) (by simp [results, Tryz.results117, go_sem, zeroLit]) rfl ⟨by rw [HF.out]; rfl, (Below.refl _ _).alloc (Nat.le_refl _) _⟩
        · have h3 : q.data.toList ≠ [] := by intro e; have h := LQ.out; rw [e] at h; simp at h; omega
          have h4 : t.data.toList ≠ [] := by intro e; apply h3; rw [HQ.out, e]; rfl
          have HF := Lib.hid (Pl.integer_some (l := s.data.toList) (by rw [← HU.out]; exact h4) (by rw [← HU.out]; exact HA.out) (by rw [← HU.out, ← HQ.out, LQ.out]; omega))
          have CL := Lib.hid (fun w => rliteral_any q true w (by rw [HQ.out]; exact Pl.bare_bare _) (by rw [HQ.out]; exact Pl.bare_digs HA.out) h3 (by omega))
          clear h3 h4
          go_wp2_with fail
          refine (CL.out _).mono ?_
          rintro e w2 ⟨rfl, hb2⟩
          have HR := Lib.hid (show Pl.integer s.data.toList = some (Pl.whole q.data.toList true) by rw [HF.out, ← HU.out, ← HQ.out, HMI.out])
          obtain ⟨⟨d0, d1, d2, d3, d4⟩, ⟨f0, f1, f2, f3, f4⟩, hlt2⟩ := newLit (hb2.mono (by simp)) rfl
          have HB := Lib.hid hb2
          clear hb2
          cases hn : Pl.whole q.data.toList true
          all_goals
            rw [hn] at HR
            simp only [Pl.numV]
            go_wp2_with fail
          · refine bodyPost_ret (v := .tuple (Pl.intV (Pl.integer s.data.toList))) (by rw [HR.out]; simp [results, Tryz.results117, go_sem, d0, d1, d2, d3, d4, Pl.intV, Pl.numV]) rfl ⟨rfl, ?_⟩
            exact ((((((((Below.refl _ _).alloc (Nat.le_refl _) _).trans (HB.out.mono (by simp))).setCell (Nat.le_refl _) _).setCell (Nat.le_refl _) _).setCell (Nat.le_refl _) _).setCell (Nat.le_refl _) _).setCell (Nat.le_refl _) _)
          · refine bodyPost_ret (v := .tuple (Pl.intV (Pl.integer s.data.toList))) (by rw [HR.out]; simp [results, Tryz.results117, go_sem, d0, d1, d2, d3, d4, Pl.intV, Pl.numV]) rfl ⟨rfl, ?_⟩
            exact ((((((((Below.refl _ _).alloc (Nat.le_refl _) _).trans (HB.out.mono (by simp))).setCell (Nat.le_refl _) _).setCell (Nat.le_refl _) _).setCell (Nat.le_refl _) _).setCell (Nat.le_refl _) _).setCell (Nat.le_refl _) _)
set_option maxRecDepth 100000 in
set_option maxHeartbeats 2000000 in
theorem rinteger_plus (s : ByteArray) (w : World) (hs : s.size ≤ 140737488355328) (hm : Pl.peek s.data.toList 0 ≠ 45) :
    Calls Tryz.prog 117 #[.string s] w fun e w' => e = .returned (.tuple (Pl.intV (Pl.integer s.data.toList))) ∧ Below w.heap.size w w' := by
  have LS := Lib.hid (size_list s)
  have HMI := Lib.hid (show Pl.minus s.data.toList = false by rw [Pl.minus_peek]; simpa using hm)
  have hmI : ((Pl.peek s.data.toList 0 : Int) == 45) = false := by simp; omega
  clear hm
  go_enter Tryz.func117, Tryz.ntmps117
  go_wp2_with fail
  refine (at_any s 0 _).mono ?_
  rintro e w2 ⟨rfl, rfl⟩
  go_wp2_with fail
  obtain ⟨t, ht⟩ : ∃ t, s = t := ⟨_, rfl⟩
  have HU := Lib.hid (show t.data.toList = Pl.unsigned s.data.toList by rw [← ht]; unfold Pl.unsigned; rw [HMI.out]; rfl)
  have hts : t.size ≤ s.size := by rw [← ht]; exact Nat.le_refl _
  subst ht
  have LT := Lib.hid (size_list s)
  go_loop [5] (fun v => ∃ k : Nat, v = .int .i64 k ∧ k ≤ s.size ∧ Pl.digs (s.data.toList.take k) = true) (fun v => s.size - (intOf v).toNat)
  case atStart => exact ⟨0, rfl, Nat.zero_le _, rfl⟩
  case round =>
    obtain ⟨k, rfl, hk, hdk⟩ := hrel
    have HD := Lib.hid hdk
    clear hdk
    by_cases hlt : k < s.size
    · have hl : k < s.data.toList.length := by rw [LT.out]; exact hlt
      go_wp2_with fail
      refine (rdigit_any s[k].toNat _).mono ?_
      rintro e w' ⟨rfl, rfl⟩
      cases hc : Pl.digit s[k].toNat
      · have HF := Lib.hid (Pl.integer_none (l := s.data.toList) (.inr (.inl (by rw [← HU.out]; exact Pl.digs_no hl hc))))
        clear hc
        go_wp2_with fail
        refine bodyPost_ret (v := .tuple #[.agg zeroLit, .int .i64 144]) (by simp [results, Tryz.results117, go_sem, zeroLit]) rfl ⟨by rw [HF.out]; rfl, (Below.refl _ _).alloc (Nat.le_refl _) _⟩
      · have HF := Lib.hid (Pl.digs_take hl HD.out hc)
        clear hc
        go_wp2_with fail
        go_round
        case rel => exact ⟨k + 1, by go_num, by omega, HF.out⟩
        case measure => simp [intOf]; omega
    · have HA := Lib.hid (show Pl.digs s.data.toList = true by
        have h := HD.out
        rwa [List.take_of_length_le (by rw [LT.out]; omega)] at h)
      go_wp2_with fail
      refine (rplain_any s _).mono ?_
      rintro e w' ⟨⟨q, rfl, hq⟩, rfl⟩
      have HQ := Lib.hid hq
      have LQ := Lib.hid (size_list q)
      clear hq
      by_cases h1 : q.size < 1
      · have HF := Lib.hid (Pl.integer_none (l := s.data.toList) (.inl (by
          have h : q.data.toList = [] := List.eq_nil_of_length_eq_zero (by rw [LQ.out]; omega)
          rw [HQ.out] at h
          rw [← HU.out]; exact Pl.bare_nil.1 h)))
        go_wp2_with fail
        refine bodyPost_ret (v := .tuple #[.agg zeroLit, .int .i64 144]) (by simp [results, Tryz.results117, go_sem, zeroLit]) rfl ⟨by rw [HF.out]; rfl, (Below.refl _ _).alloc (Nat.le_refl _) _⟩
      · by_cases h2 : 255 < q.size
        · have HF := Lib.hid (Pl.integer_none (l := s.data.toList) (.inr (.inr (by rw [← HU.out, ← HQ.out, LQ.out]; exact h2))))
          go_wp2_with fail
          refine bodyPost_ret (v := .tuple #[.agg zeroLit, .int .i64 144]) (by simp [results, Tryz.results117, go_sem, zeroLit]) rfl ⟨by rw [HF.out]; rfl, (Below.refl _ _).alloc (Nat.le_refl _) _⟩
        · have h3 : q.data.toList ≠ [] := by intro e; have h := LQ.out; rw [e] at h; simp at h; omega
          have h4 : s.data.toList ≠ [] := by intro e; apply h3; rw [HQ.out, e]; rfl
          have HF := Lib.hid (Pl.integer_some (l := s.data.toList) (by rw [← HU.out]; exact h4) (by rw [← HU.out]; exact HA.out) (by rw [← HU.out, ← HQ.out, LQ.out]; omega))
          have CL := Lib.hid (fun w => rliteral_any q false w (by rw [HQ.out]; exact Pl.bare_bare _) (by rw [HQ.out]; exact Pl.bare_digs HA.out) h3 (by omega))
          clear h3 h4
          go_wp2_with fail
          refine (CL.out _).mono ?_
          rintro e w2 ⟨rfl, hb2⟩
          have HR := Lib.hid (show Pl.integer s.data.toList = some (Pl.whole q.data.toList false) by rw [HF.out, ← HU.out, ← HQ.out, HMI.out])
          obtain ⟨⟨d0, d1, d2, d3, d4⟩, ⟨f0, f1, f2, f3, f4⟩, hlt2⟩ := newLit (hb2.mono (by simp)) rfl
          have HB := Lib.hid hb2
          clear hb2
          cases hn : Pl.whole q.data.toList false
          all_goals
            rw [hn] at HR
            simp only [Pl.numV]
            go_wp2_with fail
          · refine bodyPost_ret (v := .tuple (Pl.intV (Pl.integer s.data.toList))) (by rw [HR.out]; simp [results, Tryz.results117, go_sem, d0, d1, d2, d3, d4, Pl.intV, Pl.numV]) rfl ⟨rfl, ?_⟩
            exact ((((((((Below.refl _ _).alloc (Nat.le_refl _) _).trans (HB.out.mono (by simp))).setCell (Nat.le_refl _) _).setCell (Nat.le_refl _) _).setCell (Nat.le_refl _) _).setCell (Nat.le_refl _) _).setCell (Nat.le_refl _) _)
          · refine bodyPost_ret (v := .tuple (Pl.intV (Pl.integer s.data.toList))) (by rw [HR.out]; simp [results, Tryz.results117, go_sem, d0, d1, d2, d3, d4, Pl.intV, Pl.numV]) rfl ⟨rfl, ?_⟩
            exact ((((((((Below.refl _ _).alloc (Nat.le_refl _) _).trans (HB.out.mono (by simp))).setCell (Nat.le_refl _) _).setCell (Nat.le_refl _) _).setCell (Nat.le_refl _) _).setCell (Nat.le_refl _) _).setCell (Nat.le_refl _) _)
theorem rinteger_any (s : ByteArray) (w : World) (hs : s.size ≤ 140737488355328) :
    Calls Tryz.prog 117 #[.string s] w fun e w' => e = .returned (.tuple (Pl.intV (Pl.integer s.data.toList))) ∧ Below w.heap.size w w' := by
  by_cases hm : Pl.peek s.data.toList 0 = 45
  · exact rinteger_minus s w hs hm
  · exact rinteger_plus s w hs hm
end Go.Proofs.YtoklnpoacckbfaaGreatDoor
