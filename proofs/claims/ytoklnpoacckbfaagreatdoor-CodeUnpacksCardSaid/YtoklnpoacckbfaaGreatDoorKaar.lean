/- scan.plain, scan.whole. (Printed by gen_whl.py.) scan.run at digits, scan.Integer. -/
import Derived.Test.YtoklnpoacckbfaaGreatDoorKaaq
namespace Go.Proofs.YtoklnpoacckbfaaGreatDoor
open Go.RowKit
set_option maxRecDepth 100000 in
set_option maxHeartbeats 1000000 in
theorem plain_any (s : ByteArray) (w : World) :
    Calls Tryz.prog 295 #[.string s] w fun e w' => (∃ t : ByteArray, e = .returned (.string t) ∧ t.data.toList = Pl.bare s.data.toList) ∧ w = w' := by
  obtain ⟨q, hq⟩ : ∃ q : ByteArray, (⟨(Lib.trimLeftB s.data.toList 48).toArray⟩ : ByteArray) = q := ⟨_, rfl⟩
  have hql : q.data.toList = s.data.toList.dropWhile (· == 48) := by rw [← hq]; simp [Lib.trimLeftB]
  have HQ := Lib.hid hq
  have HQL := Lib.hid hql
  have eq0 : q.toList = q.data.toList := ByteArray.toList_eq q
  have es0 : s.toList = s.data.toList := ByteArray.toList_eq s
  have EQ := Lib.hid eq0
  have ES := Lib.hid es0
  by_cases h1 : q.data.toList = []
  · have h1I : (q.toList == []) = true := by rw [EQ.out, h1]; rfl
    by_cases h2 : s.data.toList = []
    · have h2I : s.toList.isEmpty = true := by rw [ES.out, h2]; rfl
      have HF := Lib.hid (show q.data.toList = Pl.bare s.data.toList by rw [h1, h2]; rfl)
      clear hq hql eq0 es0 h1 h2
      go_enter Tryz.func295, Tryz.ntmps295
      go_wp2_with fail
      refine (Tryz.strings_TrimLeft_one s 48 (by decide) _).mono ?_
      rintro e w2 ⟨rfl, rfl⟩
      rw [HQ.out]
      go_wp2_with fail
      go_ret
      exact ⟨⟨q, rfl, HF.out⟩, rfl⟩
    · have h2I : s.toList.isEmpty = false := by rw [ES.out]; simpa using h2
      have HF := Lib.hid (show [(48 : UInt8)] = Pl.bare s.data.toList by
        unfold Pl.bare
        rw [← hql, if_pos h1]
        cases e : s.data.toList with
        | nil => exact absurd e h2
        | cons c r =>
          rw [e] at hql
          by_cases hc : c = 48
          · subst hc; rfl
          · rw [Pl.dw_other r hc, h1] at hql; cases hql)
      clear hq hql eq0 es0 h1 h2
      go_enter Tryz.func295, Tryz.ntmps295
      go_wp2_with fail
      refine (Tryz.strings_TrimLeft_one s 48 (by decide) _).mono ?_
      rintro e w2 ⟨rfl, rfl⟩
      rw [HQ.out]
      go_wp2_with fail
      go_ret
      exact ⟨⟨_, rfl, HF.out⟩, rfl⟩
  · have h1I : (q.toList == []) = false := by rw [EQ.out]; simpa using h1
    have HF := Lib.hid (show q.data.toList = Pl.bare s.data.toList by unfold Pl.bare; rw [← hql, if_neg h1])
    clear hq hql eq0 es0 h1
    go_enter Tryz.func295, Tryz.ntmps295
    go_wp2_with fail
    refine (Tryz.strings_TrimLeft_one s 48 (by decide) _).mono ?_
    rintro e w2 ⟨rfl, rfl⟩
    rw [HQ.out]
    go_wp2_with fail
    go_ret
    exact ⟨⟨q, rfl, HF.out⟩, rfl⟩
namespace Pl
theorem long_val {b : List UInt8} (hb : bare b = b) (hd : digs b = true) (h : 19 < b.length) (m : Bool) : top m < val b := by
  rcases bare_form b with e | e | ⟨c, r, e, hc⟩
  · rw [hb] at e; rw [e] at h; simp at h
  · rw [hb] at e; rw [e] at h; simp at h
  · rw [hb] at e
    have h3 := val_ge e hc hd
    have h5 : 10 ^ 19 ≤ 10 ^ (b.length - 1) := Nat.pow_le_pow_right (by decide) (by omega)
    have h6 : top m ≤ 1152921504606846976 := by unfold top; split <;> omega
    omega
theorem top_le (m : Bool) : top m ≤ 1152921504606846976 := by unfold top; split <;> omega
end Pl
theorem setCells5 {B : Nat} {a w : World} (h : Below B a w) {b : Nat} (hb : B ≤ b) (v0 v1 v2 v3 v4 : Value) : Below B a (((((w.setCell ⟨b, 0, none⟩ v0).setCell ⟨b, 1, none⟩ v1).setCell ⟨b, 2, none⟩ v2).setCell ⟨b, 3, none⟩ v3).setCell ⟨b, 4, none⟩ v4) :=
  ((((h.setCell (p := ⟨b, 0, none⟩) hb _).setCell (p := ⟨b, 1, none⟩) hb _).setCell (p := ⟨b, 2, none⟩) hb _).setCell (p := ⟨b, 3, none⟩) hb _).setCell (p := ⟨b, 4, none⟩) hb _
theorem alloc_then {w w2 : World} {o : Obj} (h : Below (w.heap.size + 1) (w.alloc o) w2) : Below w.heap.size w w2 := ((Below.refl _ _).alloc (Nat.le_refl _) _).trans (h.mono (by omega))
set_option maxRecDepth 100000 in
set_option maxHeartbeats 2000000 in
theorem whole_minus (s : ByteArray) (w : World) (hb : Pl.bare s.data.toList = s.data.toList) (hd : Pl.digs s.data.toList = true) (h0 : s.data.toList ≠ []) (hs : s.size ≤ 1000) (he : ErrAt w) :
    Calls Tryz.prog 296 #[.string s, .bool true] w fun e w' => e = .returned (.agg (Pl.numV (Pl.whole s.data.toList true))) ∧ Below w.heap.size w w' := by
  have LS := Lib.hid (size_list s)
  have htop := Pl.top_le true
  have LRG := fun (h : Pl.top true < Pl.val s.data.toList) => show Pl.numV (Pl.whole s.data.toList true) = #[.int .u8 5, .int .i64 0, .int .u64 0, .string (⟨#[45]⟩ ++ s), .slice none 0 0] by
    rw [Pl.whole_large h]
    show #[Value.int .u8 5, .int .i64 0, .int .u64 0, .string ⟨(45 :: s.data.toList).toArray⟩, .slice none 0 0] = _
    rw [minus_eta]
  by_cases hlong : 19 < s.size
  · have HR := Lib.hid (LRG (Pl.long_val hb hd (by rw [LS.out]; exact hlong) true))
    clear LRG hb hd h0
    go_enter Tryz.func296, Tryz.ntmps296
    go_wp2_with fail
    refine bodyPost_ret (v := .agg #[.int .u8 5, .int .i64 0, .int .u64 0, .string (⟨#[45]⟩ ++ s), .slice none 0 0]) (by simp [results, Tryz.results296, go_sem]) rfl ⟨by rw [HR.out], (Below.refl _ _).alloc (Nat.le_refl _) _⟩
  have HP := Lib.hid (Pl.atoi_digs h0 hd (by rw [LS.out]; omega))
  by_cases hbig : Pl.val s.data.toList < 9223372036854775808
  · obtain ⟨v, hvv⟩ : ∃ v : Int, v = (Pl.val s.data.toList : Int) := ⟨_, rfl⟩
    have HPV := Lib.hid ((HP.out).trans ((if_pos hbig).trans (by rw [← hvv])))
    have hv1 : v < 9223372036854775808 := by omega
    have hv2 : 0 ≤ v := by omega
    by_cases hsm : Pl.val s.data.toList ≤ Pl.top true
    · have HR := Lib.hid (show Pl.numV (Pl.whole s.data.toList true) = #[.int .u8 4, .int .i64 (-v), .int .u64 0, .string ⟨#[]⟩, .slice none 0 0] by rw [Pl.whole_small hsm, hvv]; rfl)
      have t1 : v ≤ 1152921504606846976 := by unfold Pl.top at hsm; simp at hsm; omega
      clear LRG hb hd h0 hbig hsm hvv htop HP
      go_enter Tryz.func296, Tryz.ntmps296
      go_wp2_with fail
      refine (Tryz.strconv_ParseInt_10_at64_ok s (by omega) v HPV.out _).mono ?_
      rintro e w2 ⟨rfl, hw2⟩
      have hb2 := bytesWorld_or hw2
      clear hw2
      obtain ⟨⟨d0, d1, d2, d3, d4⟩, ⟨f0, f1, f2, f3, f4⟩, hlt⟩ := newLit (hb2.mono (by simp)) rfl
      have HB := Lib.hid (alloc_then (hb2.mono (by simp)))
      clear hb2
      go_wp2_with fail
      refine bodyPost_ret (v := .agg #[.int .u8 4, .int .i64 (-v), .int .u64 0, .string ⟨#[]⟩, .slice none 0 0]) (by simp [results, Tryz.results296, go_sem, d0, d1, d2, d3, d4]) rfl ⟨by rw [HR.out], setCells5 HB.out (Nat.le_refl _) _ _ _ _ _⟩
    · have HR := Lib.hid (LRG (by omega))
      have t1 : 1152921504606846976 < v := by unfold Pl.top at hsm; simp at hsm; omega
      clear LRG hb hd h0 hbig hsm hvv htop HP
      go_enter Tryz.func296, Tryz.ntmps296
      go_wp2_with fail
      refine (Tryz.strconv_ParseInt_10_at64_ok s (by omega) v HPV.out _).mono ?_
      rintro e w2 ⟨rfl, hw2⟩
      have hb2 := bytesWorld_or hw2
      clear hw2
      obtain ⟨⟨d0, d1, d2, d3, d4⟩, ⟨f0, f1, f2, f3, f4⟩, hlt⟩ := newLit (hb2.mono (by simp)) rfl
      have HB := Lib.hid (alloc_then (hb2.mono (by simp)))
      clear hb2
      go_wp2_with fail
      refine bodyPost_ret (v := .agg #[.int .u8 5, .int .i64 0, .int .u64 0, .string (⟨#[45]⟩ ++ s), .slice none 0 0]) (by simp [results, Tryz.results296, go_sem, d0, d1, d2, d3, d4]) rfl ⟨by rw [HR.out], setCells5 HB.out (Nat.le_refl _) _ _ _ _ _⟩
  · have HPR := Lib.hid ((HP.out).trans (if_neg hbig))
    have HR := Lib.hid (LRG (by omega))
    have HE := Lib.hid he
    clear LRG hb hd h0 hbig htop HP he
    go_enter Tryz.func296, Tryz.ntmps296
    go_wp2_with fail
    obtain ⟨hg, tp, p, hvar⟩ := HE.out.keep ((Below.refl w.heap.size w).alloc (Nat.le_refl _) (.cells #[.int .u8 0, .int .i64 0, .int .u64 0, .string ⟨#[]⟩, .slice none 0 0] 37)) HE.out.1
    refine (Tryz.strconv_ParseInt_10_at64_range_var s (by omega) HPR.out tp p _ hvar).mono ?_
    rintro e w2 ⟨N, rfl, hN, hcell, hb2⟩
    clear hcell hvar hg
    obtain ⟨⟨d0, d1, d2, d3, d4⟩, ⟨f0, f1, f2, f3, f4⟩, hlt⟩ := newLit (hb2.mono (by simp)) rfl
    have HB := Lib.hid (alloc_then (hb2.mono (by simp)))
    clear hb2
    obtain ⟨u, hu⟩ : ∃ u, Lib.intSat 64 s.data.toList = u := ⟨_, rfl⟩
    rw [hu]
    clear hu
    go_wp2_with fail
    refine bodyPost_ret (v := .agg #[.int .u8 5, .int .i64 0, .int .u64 0, .string (⟨#[45]⟩ ++ s), .slice none 0 0]) (by simp [results, Tryz.results296, go_sem, d0, d1, d2, d3, d4]) rfl ⟨by rw [HR.out], setCells5 HB.out (Nat.le_refl _) _ _ _ _ _⟩
set_option maxRecDepth 100000 in
set_option maxHeartbeats 2000000 in
theorem whole_plus (s : ByteArray) (w : World) (hb : Pl.bare s.data.toList = s.data.toList) (hd : Pl.digs s.data.toList = true) (h0 : s.data.toList ≠ []) (hs : s.size ≤ 1000) (he : ErrAt w) :
    Calls Tryz.prog 296 #[.string s, .bool false] w fun e w' => e = .returned (.agg (Pl.numV (Pl.whole s.data.toList false))) ∧ Below w.heap.size w w' := by
  have LS := Lib.hid (size_list s)
  have htop := Pl.top_le false
  have LRG := fun (h : Pl.top false < Pl.val s.data.toList) => show Pl.numV (Pl.whole s.data.toList false) = #[.int .u8 5, .int .i64 0, .int .u64 0, .string s, .slice none 0 0] by
    rw [Pl.whole_large h]
    show #[Value.int .u8 5, .int .i64 0, .int .u64 0, .string ⟨(s.data.toList).toArray⟩, .slice none 0 0] = _
    rw [bytes_eta]
  by_cases hlong : 19 < s.size
  · have HR := Lib.hid (LRG (Pl.long_val hb hd (by rw [LS.out]; exact hlong) false))
    clear LRG hb hd h0
    go_enter Tryz.func296, Tryz.ntmps296
    go_wp2_with fail
    refine bodyPost_ret (v := .agg #[.int .u8 5, .int .i64 0, .int .u64 0, .string s, .slice none 0 0]) (by simp [results, Tryz.results296, go_sem]) rfl ⟨by rw [HR.out], (Below.refl _ _).alloc (Nat.le_refl _) _⟩
  have HP := Lib.hid (Pl.atoi_digs h0 hd (by rw [LS.out]; omega))
  by_cases hbig : Pl.val s.data.toList < 9223372036854775808
  · obtain ⟨v, hvv⟩ : ∃ v : Int, v = (Pl.val s.data.toList : Int) := ⟨_, rfl⟩
    have HPV := Lib.hid ((HP.out).trans ((if_pos hbig).trans (by rw [← hvv])))
    have hv1 : v < 9223372036854775808 := by omega
    have hv2 : 0 ≤ v := by omega
    by_cases hsm : Pl.val s.data.toList ≤ Pl.top false
    · have HR := Lib.hid (show Pl.numV (Pl.whole s.data.toList false) = #[.int .u8 4, .int .i64 v, .int .u64 0, .string ⟨#[]⟩, .slice none 0 0] by rw [Pl.whole_small hsm, hvv]; rfl)
      have t1 : v ≤ 1152921504606846975 := by unfold Pl.top at hsm; simp at hsm; omega
      clear LRG hb hd h0 hbig hsm hvv htop HP
      go_enter Tryz.func296, Tryz.ntmps296
      go_wp2_with fail
      refine (Tryz.strconv_ParseInt_10_at64_ok s (by omega) v HPV.out _).mono ?_
      rintro e w2 ⟨rfl, hw2⟩
      have hb2 := bytesWorld_or hw2
      clear hw2
      obtain ⟨⟨d0, d1, d2, d3, d4⟩, ⟨f0, f1, f2, f3, f4⟩, hlt⟩ := newLit (hb2.mono (by simp)) rfl
      have HB := Lib.hid (alloc_then (hb2.mono (by simp)))
      clear hb2
      go_wp2_with fail
      refine bodyPost_ret (v := .agg #[.int .u8 4, .int .i64 v, .int .u64 0, .string ⟨#[]⟩, .slice none 0 0]) (by simp [results, Tryz.results296, go_sem, d0, d1, d2, d3, d4]) rfl ⟨by rw [HR.out], setCells5 HB.out (Nat.le_refl _) _ _ _ _ _⟩
    · have HR := Lib.hid (LRG (by omega))
      have t1 : 1152921504606846975 < v := by unfold Pl.top at hsm; simp at hsm; omega
      clear LRG hb hd h0 hbig hsm hvv htop HP
      go_enter Tryz.func296, Tryz.ntmps296
      go_wp2_with fail
      refine (Tryz.strconv_ParseInt_10_at64_ok s (by omega) v HPV.out _).mono ?_
      rintro e w2 ⟨rfl, hw2⟩
      have hb2 := bytesWorld_or hw2
      clear hw2
      obtain ⟨⟨d0, d1, d2, d3, d4⟩, ⟨f0, f1, f2, f3, f4⟩, hlt⟩ := newLit (hb2.mono (by simp)) rfl
      have HB := Lib.hid (alloc_then (hb2.mono (by simp)))
      clear hb2
      go_wp2_with fail
      refine bodyPost_ret (v := .agg #[.int .u8 5, .int .i64 0, .int .u64 0, .string s, .slice none 0 0]) (by simp [results, Tryz.results296, go_sem, d0, d1, d2, d3, d4]) rfl ⟨by rw [HR.out], setCells5 HB.out (Nat.le_refl _) _ _ _ _ _⟩
  · have HPR := Lib.hid ((HP.out).trans (if_neg hbig))
    have HR := Lib.hid (LRG (by omega))
    have HE := Lib.hid he
    clear LRG hb hd h0 hbig htop HP he
    go_enter Tryz.func296, Tryz.ntmps296
    go_wp2_with fail
    obtain ⟨hg, tp, p, hvar⟩ := HE.out.keep ((Below.refl w.heap.size w).alloc (Nat.le_refl _) (.cells #[.int .u8 0, .int .i64 0, .int .u64 0, .string ⟨#[]⟩, .slice none 0 0] 37)) HE.out.1
    refine (Tryz.strconv_ParseInt_10_at64_range_var s (by omega) HPR.out tp p _ hvar).mono ?_
    rintro e w2 ⟨N, rfl, hN, hcell, hb2⟩
    clear hcell hvar hg
    obtain ⟨⟨d0, d1, d2, d3, d4⟩, ⟨f0, f1, f2, f3, f4⟩, hlt⟩ := newLit (hb2.mono (by simp)) rfl
    have HB := Lib.hid (alloc_then (hb2.mono (by simp)))
    clear hb2
    obtain ⟨u, hu⟩ : ∃ u, Lib.intSat 64 s.data.toList = u := ⟨_, rfl⟩
    rw [hu]
    clear hu
    go_wp2_with fail
    refine bodyPost_ret (v := .agg #[.int .u8 5, .int .i64 0, .int .u64 0, .string s, .slice none 0 0]) (by simp [results, Tryz.results296, go_sem, d0, d1, d2, d3, d4]) rfl ⟨by rw [HR.out], setCells5 HB.out (Nat.le_refl _) _ _ _ _ _⟩
end Go.Proofs.YtoklnpoacckbfaaGreatDoor
namespace Go.Proofs.YtoklnpoacckbfaaGreatDoor
open Go.RowKit
namespace Pl
def digEnd (l : List UInt8) (k : Nat) : Nat := k + ((l.drop k).takeWhile dig).length
theorem digEnd_go {l : List UInt8} {k : Nat} (h : k < l.length) (hi : dig l[k] = true) : digEnd l k = digEnd l (k + 1) := by
  unfold digEnd
  rw [List.drop_eq_getElem_cons h, List.takeWhile_cons, if_pos hi, List.length_cons]; omega
theorem digEnd_no {l : List UInt8} {k : Nat} (h : k < l.length) (hi : dig l[k] = false) : digEnd l k = k := by
  unfold digEnd
  rw [List.drop_eq_getElem_cons h, List.takeWhile_cons, if_neg (by rw [hi]; decide)]; rfl
theorem digEnd_end {l : List UInt8} {k : Nat} (h : l.length ≤ k) : digEnd l k = k := by
  unfold digEnd
  rw [List.drop_of_length_le h]; rfl
theorem digEnd_all (l : List UInt8) : digEnd l 0 = l.length ↔ digs l = true := by
  unfold digEnd digs
  rw [List.drop_zero, Nat.zero_add]
  induction l with
  | nil => simp
  | cons c r ih =>
    rw [List.takeWhile_cons]
    by_cases hc : dig c = true
    · rw [if_pos hc, List.all_cons, hc, List.length_cons, List.length_cons, Bool.true_and, ← ih]; omega
    · rw [if_neg hc, List.all_cons]; simp [hc]
theorem unsigned_cut (l : List UInt8) : Lib.trimPrefix l [45] = unsigned l ∧ Lib.hasPrefix l [45] = minus l := by
  have h : Lib.hasPrefix l [45] = minus l := by
    unfold Lib.hasPrefix minus
    cases l with
    | nil => rfl
    | cons c r =>
      rw [Bool.eq_iff_iff]
      simp only [List.isPrefixOf, Bool.and_true, beq_iff_eq, List.head?_cons, Option.some.injEq]
      exact ⟨fun h => h.symm, fun h => h.symm⟩
  refine ⟨?_, h⟩
  unfold Lib.trimPrefix unsigned
  rw [h]; rfl
end Pl
set_option maxHeartbeats 400000 in
theorem runDigit_any (s : ByteArray) (k : Nat) (w : World) (hs : s.size ≤ 9223372036854775806) (hk : k ≤ s.size) :
    Calls Tryz.prog 93 #[.string s, .int .i64 k, .func (.func 126) #[] #[]] w fun e w' => e = .returned (.int .i64 (Pl.digEnd s.data.toList k : Nat)) ∧ w = w' := by
  have ls : s.data.toList.length = s.size := by simp
  have LS := Lib.hid ls
  clear ls
  go_enter Tryz.func93, Tryz.ntmps93
  go_wp2_with fail
  go_loop [1] (fun i => ∃ j : Nat, j ≤ s.size ∧ i = .int .i64 j ∧ Pl.digEnd s.data.toList k = Pl.digEnd s.data.toList j) (fun i => s.size - (intOf i).toNat)
  case atStart => exact ⟨k, hk, rfl, rfl⟩
  case round =>
    obtain ⟨j, hj, rfl, he⟩ := hrel
    have HE := Lib.hid he
    clear he
    by_cases hlt : j < s.size
    · have hl : j < s.data.toList.length := by rw [LS.out]; exact hlt
      go_wp2_with fail
      refine (digit_any s[j].toNat _).mono ?_
      rintro e w' ⟨rfl, rfl⟩
      cases hi : Pl.digit s[j].toNat
      · have HF := Lib.hid (Pl.digEnd_no hl hi)
        clear hi
        go_wp2_with fail
        go_ret
        exact ⟨ret_int (by rw [HE.out, HF.out]), rfl⟩
      · have HF := Lib.hid (Pl.digEnd_go hl hi)
        clear hi
        go_wp2_with fail
        go_round
        case rel => exact ⟨j + 1, by omega, by go_num, by rw [HE.out, HF.out]⟩
        case measure => simp [intOf]; omega
    · have HF := Lib.hid (Pl.digEnd_end (l := s.data.toList) (k := j) (by rw [LS.out]; omega))
      go_wp2_with fail
      go_ret
      exact ⟨ret_int (by rw [HE.out, HF.out]), rfl⟩
theorem whole_any (s : ByteArray) (m : Bool) (w : World) (hb : Pl.bare s.data.toList = s.data.toList) (hd : Pl.digs s.data.toList = true) (h0 : s.data.toList ≠ []) (hs : s.size ≤ 1000) (he : ErrAt w) :
    Calls Tryz.prog 296 #[.string s, .bool m] w fun e w' => e = .returned (.agg (Pl.numV (Pl.whole s.data.toList m))) ∧ Below w.heap.size w w' := by
  cases m
  · exact whole_plus s w hb hd h0 hs he
  · exact whole_minus s w hb hd h0 hs he
set_option maxRecDepth 100000 in
set_option maxHeartbeats 2000000 in
theorem integer_any (s : ByteArray) (w : World) (hs : s.size ≤ 140737488355328) (he : ErrAt w) :
    Calls Tryz.prog 266 #[.string s] w fun e w' => e = .returned (.tuple (Pl.intV (Pl.integer s.data.toList))) ∧ Below w.heap.size w w' := by
  have LS := Lib.hid (size_list s)
  obtain ⟨t, ht⟩ : ∃ t : ByteArray, (⟨(Lib.trimPrefix s.data.toList [45]).toArray⟩ : ByteArray) = t := ⟨_, rfl⟩
  obtain ⟨m, hm⟩ : ∃ m : Bool, Lib.hasPrefix s.data.toList [45] = m := ⟨_, rfl⟩
  have hu : t.data.toList = Pl.unsigned s.data.toList := by rw [← ht, ← (Pl.unsigned_cut _).1]
  have hmi : Pl.minus s.data.toList = m := by rw [← hm, (Pl.unsigned_cut _).2]
  have hts : t.size ≤ s.size := by
    have h1 := size_list t
    rw [hu] at h1
    have h2 := size_list s
    have h3 : (Pl.unsigned s.data.toList).length ≤ s.data.toList.length := by unfold Pl.unsigned; split <;> simp
    omega
  have HT := Lib.hid ht
  have HM := Lib.hid hm
  have HU := Lib.hid hu
  have HMI := Lib.hid hmi
  have LT := Lib.hid (size_list t)
  have ET := Lib.hid (ByteArray.toList_eq t)
  have HERR := Lib.hid he
  clear ht hm hu hmi he
  have CP := Tryz.strings_CutPrefix s ⟨#[45]⟩
  rw [show (⟨#[45]⟩ : ByteArray).data.toList = [45] from rfl, HT.out, HM.out] at CP
  have CP := Lib.hid CP
  go_enter Tryz.func266, Tryz.ntmps266
  go_wp2_with fail
  refine (CP.out _).mono ?_
  rintro e w2 ⟨rfl, rfl⟩
  go_wp2_with fail
  refine (plain_any t _).mono ?_
  rintro e w' ⟨⟨q, rfl, hq⟩, rfl⟩
  have HQ := Lib.hid hq
  have LQ := Lib.hid (size_list q)
  clear hq
  by_cases h1 : t.data.toList = []
  · have h1I : t.toList.isEmpty = true := by rw [ET.out, h1]; rfl
    have h1J : (t.toList == []) = true := by rw [ET.out, h1]; rfl
    have HF := Lib.hid (Pl.integer_none (l := s.data.toList) (.inl (by rw [← HU.out]; exact h1)))
    clear h1
    go_wp2_with fail
    refine bodyPost_ret (v := .tuple #[.agg zeroLit, .int .i64 144]) (by simp [results, Tryz.results266, go_sem, zeroLit]) rfl ⟨by rw [HF.out]; rfl, (Below.refl _ _).alloc (Nat.le_refl _) _⟩
  · have h1I : t.toList.isEmpty = false := by rw [ET.out]; simpa using h1
    have h1J : (t.toList == []) = false := by rw [ET.out]; simpa using h1
    by_cases h2 : 255 < q.size
    · have HF := Lib.hid (Pl.integer_none (l := s.data.toList) (.inr (.inr (by rw [← HU.out, ← HQ.out, LQ.out]; exact h2))))
      clear h1
      go_wp2_with fail
      refine bodyPost_ret (v := .tuple #[.agg zeroLit, .int .i64 144]) (by simp [results, Tryz.results266, go_sem, zeroLit]) rfl ⟨by rw [HF.out]; rfl, (Below.refl _ _).alloc (Nat.le_refl _) _⟩
    · by_cases h3 : Pl.digs t.data.toList = true
      · have h3I : ((Pl.digEnd t.data.toList 0 : Int) != (t.size : Int)) = false := by
          have := (Pl.digEnd_all t.data.toList).2 h3
          have := LT.out
          simp; omega
        have h4 : q.data.toList ≠ [] := by rw [HQ.out]; intro e; exact h1 (Pl.bare_nil.1 e)
        have HF := Lib.hid (Pl.integer_some (l := s.data.toList) (by rw [← HU.out]; exact h1) (by rw [← HU.out]; exact h3) (by rw [← HU.out, ← HQ.out, LQ.out]; omega))
        have CL := Lib.hid (fun w he => whole_any q m w (by rw [HQ.out]; exact Pl.bare_bare _) (by rw [HQ.out]; exact Pl.bare_digs h3) h4 (by omega) he)
        clear h1 h3 h4
        go_wp2_with fail
        refine (runDigit_any t 0 _ (by omega) (by omega)).mono ?_
        rintro e w' ⟨rfl, rfl⟩
        go_wp2_with fail
        refine (CL.out _ (HERR.out.keep ((Below.refl w.heap.size w).alloc (Nat.le_refl _) _) HERR.out.1)).mono ?_
        rintro e w2 ⟨rfl, hb2⟩
        have HR := Lib.hid (show Pl.integer s.data.toList = some (Pl.whole q.data.toList m) by rw [HF.out, ← HU.out, ← HQ.out, HMI.out])
        obtain ⟨⟨d0, d1, d2, d3, d4⟩, ⟨f0, f1, f2, f3, f4⟩, hlt2⟩ := newLit (hb2.mono (by simp)) rfl
        have HB := Lib.hid (alloc_then (hb2.mono (by simp)))
        clear hb2
        cases hn : Pl.whole q.data.toList m
        all_goals
          rw [hn] at HR
          simp only [Pl.numV]
          go_wp2_with fail
          refine bodyPost_ret (v := .tuple (Pl.intV (Pl.integer s.data.toList))) (by rw [HR.out]; simp [results, Tryz.results266, go_sem, d0, d1, d2, d3, d4, Pl.intV, Pl.numV]) rfl ⟨rfl, setCells5 HB.out (Nat.le_refl _) _ _ _ _ _⟩
      · have h3I : ((Pl.digEnd t.data.toList 0 : Int) != (t.size : Int)) = true := by
          have h5 : Pl.digEnd t.data.toList 0 ≠ t.data.toList.length := fun e => h3 ((Pl.digEnd_all _).1 e)
          have := LT.out
          simp; omega
        have HF := Lib.hid (Pl.integer_none (l := s.data.toList) (.inr (.inl (by rw [← HU.out]; simpa using h3))))
        clear h1 h3
        go_wp2_with fail
        refine (runDigit_any t 0 _ (by omega) (by omega)).mono ?_
        rintro e w' ⟨rfl, rfl⟩
        go_wp2_with fail
        refine bodyPost_ret (v := .tuple #[.agg zeroLit, .int .i64 144]) (by simp [results, Tryz.results266, go_sem, zeroLit]) rfl ⟨by rw [HF.out]; rfl, (Below.refl _ _).alloc (Nat.le_refl _) _⟩
end Go.Proofs.YtoklnpoacckbfaaGreatDoor
