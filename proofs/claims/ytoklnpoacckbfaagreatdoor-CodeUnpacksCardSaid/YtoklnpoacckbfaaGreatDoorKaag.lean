/- Binary selectors: scan.binary, peek, sign, and the document's binary, at, sign. The document's keywords and Arity. -/
import Derived.Test.YtoklnpoacckbfaaGreatDoorKaae
import Derived.Test.YtoklnpoacckbfaaGreatDoorKaaf
namespace Go.Proofs.YtoklnpoacckbfaaGreatDoor
open Go.RowKit
namespace Pl
def signs : List UInt8 := [43, 45, 42, 47, 92, 126, 60, 62, 61, 64, 37, 38, 63, 44, 33]
def binary (c : Nat) : Bool := signs.any fun b => b.toNat == c
def peek (l : List UInt8) (k : Nat) : Nat := (l[k]?.getD 0).toNat
theorem peek_lt (l : List UInt8) (k : Nat) : peek l k < 256 := UInt8.toNat_lt _
theorem peek_at {l : List UInt8} {k : Nat} (h : k < l.length) : peek l k = l[k].toNat := by unfold peek; rw [List.getElem?_eq_getElem h]; rfl
theorem peek_end {l : List UInt8} {k : Nat} (h : l.length ≤ k) : peek l k = 0 := by unfold peek; rw [List.getElem?_eq_none h]; rfl
end Pl
theorem binary_index : ∀ c, c < 256 → decide (0 ≤ Lib.indexByte Pl.signs (c : Nat).toUInt8) = Pl.binary c := by decide +kernel
set_option maxHeartbeats 400000 in
theorem binary_any (c : Nat) (w : World) (hc : c < 256) : Calls Tryz.prog 85 #[.int .u8 c] w fun e w' => e = .returned (.bool (Pl.binary c)) ∧ w = w' := by
  have H := Lib.hid (binary_index c hc)
  go_enter Tryz.func85, Tryz.ntmps85
  go_wp2_with fail
  refine (Tryz.strings_IndexByte _ _ _).mono ?_
  rintro e w' ⟨rfl, rfl⟩
  go_wp2_with fail
  all_goals (go_ret; exact ⟨ret_bool (by rw [← H.out]; rfl), rfl⟩)
def Free (c k : Nat) : Prop := (Pl.signs.take k).any (fun b => b.toNat == c) = false
theorem Free.step {c k : Nat} (h : Free c k) (hk : k < 15) (hne : ((Pl.signs[k]'hk).toNat == c) = false) : Free c (k + 1) := by
  unfold Free at *
  rw [List.take_succ_eq_append_getElem hk, List.any_append, h]
  simpa using hne
theorem Free.found {c k : Nat} (hk : k < 15) (he : ((Pl.signs[k]'hk).toNat == c) = true) : Pl.binary c = true := by
  unfold Pl.binary
  rw [List.any_eq_true]
  exact ⟨Pl.signs[k]'hk, List.getElem_mem _, he⟩
theorem Free.all {c : Nat} (h : Free c 15) : Pl.binary c = false := h
set_option maxHeartbeats 400000 in
theorem rbinary_any (c : Nat) (w : World) : Calls Tryz.prog 95 #[.int .u8 c] w fun e w' => e = .returned (.bool (Pl.binary c)) ∧ w = w' := by
  go_enter Tryz.func95, Tryz.ntmps95
  go_wp2_with fail
  go_loop [4] (fun i => ∃ k : Nat, k ≤ 15 ∧ i = .int .i64 k ∧ Free c k) (fun i => 15 - (intOf i).toNat)
  case atStart => exact ⟨0, by omega, rfl, rfl⟩
  case round =>
    obtain ⟨k, hk, rfl, hf⟩ := hrel
    have HF := Lib.hid hf
    clear hf
    by_cases hlt : k < 15
    · go_wp2_with fail
      · have h : (((⟨#[43, 45, 42, 47, 92, 126, 60, 62, 61, 64, 37, 38, 63, 44, 33]⟩ : ByteArray)[k]'hlt).toNat : Int) = c := by
          have h2 : ((((⟨#[43, 45, 42, 47, 92, 126, 60, 62, 61, 64, 37, 38, 63, 44, 33]⟩ : ByteArray)[k]'hlt).toNat : Int) == (c : Int)) = true := by assumption
          simpa using h2
        go_ret
        exact ⟨ret_bool (Free.found hlt (by show (((⟨#[43, 45, 42, 47, 92, 126, 60, 62, 61, 64, 37, 38, 63, 44, 33]⟩ : ByteArray)[k]'hlt).toNat == c) = true; simp; omega)).symm, rfl⟩
      · have h : ¬ (((⟨#[43, 45, 42, 47, 92, 126, 60, 62, 61, 64, 37, 38, 63, 44, 33]⟩ : ByteArray)[k]'hlt).toNat : Int) = c := by
          have h2 : ((((⟨#[43, 45, 42, 47, 92, 126, 60, 62, 61, 64, 37, 38, 63, 44, 33]⟩ : ByteArray)[k]'hlt).toNat : Int) == (c : Int)) = false := by assumption
          simpa using h2
        go_round
        case rel => exact ⟨k + 1, by omega, by go_num, HF.out.step hlt (by show (((⟨#[43, 45, 42, 47, 92, 126, 60, 62, 61, 64, 37, 38, 63, 44, 33]⟩ : ByteArray)[k]'hlt).toNat == c) = false; simp; omega)⟩
        case measure => simp [intOf]; omega
    · obtain rfl : k = 15 := by omega
      go_wp2_with fail
      go_ret
      exact ⟨ret_bool HF.out.all.symm, rfl⟩
set_option maxHeartbeats 400000 in
theorem peek_any (s : ByteArray) (k : Nat) (w : World) : Calls Tryz.prog 127 #[.string s, .int .i64 k] w fun e w' => e = .returned (.int .u8 (Pl.peek s.data.toList k : Nat)) ∧ w = w' := by
  have ls : s.data.toList.length = s.size := by simp
  by_cases h : k < s.size
  · have H := Lib.hid (show Pl.peek s.data.toList k = s[k].toNat from Pl.peek_at (by rw [ls]; exact h))
    clear ls
    go_enter Tryz.func127, Tryz.ntmps127
    go_wp2_with fail
    go_ret
    exact ⟨ret_int (by rw [H.out]), rfl⟩
  · have H := Lib.hid (Pl.peek_end (l := s.data.toList) (k := k) (by rw [ls]; omega))
    clear ls
    go_enter Tryz.func127, Tryz.ntmps127
    go_wp2_with fail
    go_ret
    exact ⟨ret_int (by rw [H.out]; rfl), rfl⟩
set_option maxHeartbeats 400000 in
theorem at_any (s : ByteArray) (k : Nat) (w : World) : Calls Tryz.prog 135 #[.string s, .int .i64 k] w fun e w' => e = .returned (.int .u8 (Pl.peek s.data.toList k : Nat)) ∧ w = w' := by
  have ls : s.data.toList.length = s.size := by simp
  by_cases h : k < s.size
  · have H := Lib.hid (show Pl.peek s.data.toList k = s[k].toNat from Pl.peek_at (by rw [ls]; exact h))
    clear ls
    go_enter Tryz.func135, Tryz.ntmps135
    go_wp2_with fail
    go_ret
    exact ⟨ret_int (by rw [H.out]), rfl⟩
  · have H := Lib.hid (Pl.peek_end (l := s.data.toList) (k := k) (by rw [ls]; omega))
    clear ls
    go_enter Tryz.func135, Tryz.ntmps135
    go_wp2_with fail
    go_ret
    exact ⟨ret_int (by rw [H.out]; rfl), rfl⟩
namespace Pl
def cont (l : List UInt8) (i e : Nat) : Bool := binary (peek l e) && (decide (e = i) || (decide (peek l e ≠ 45) || !digit (peek l (e + 1))))
def runS (l : List UInt8) (i : Nat) : Nat → Nat → Nat
  | 0, e => e
  | f + 1, e => if e < l.length ∧ cont l i e = true then runS l i f (e + 1) else e
def signEnd (l : List UInt8) (i : Nat) : Nat := if peek l i = 124 then i + 1 else runS l i (l.length - i) i
theorem runS_go {l : List UInt8} {i e : Nat} (h : e < l.length) (hc : cont l i e = true) : runS l i (l.length - e) e = runS l i (l.length - (e + 1)) (e + 1) := by
  rw [show l.length - e = (l.length - (e + 1)) + 1 by omega]
  conv => lhs; unfold runS
  rw [if_pos ⟨h, hc⟩]
theorem runS_no {l : List UInt8} {i e : Nat} (h : e < l.length) (hc : cont l i e = false) : runS l i (l.length - e) e = e := by
  rw [show l.length - e = (l.length - (e + 1)) + 1 by omega]
  conv => lhs; unfold runS
  rw [if_neg (by rw [hc]; simp)]
theorem runS_end {l : List UInt8} {i e : Nat} (h : l.length ≤ e) : runS l i (l.length - e) e = e := by
  rw [show l.length - e = 0 by omega]; rfl
end Pl
set_option maxHeartbeats 1000000 in
theorem rsign_any (s : ByteArray) (i : Nat) (w : World) (hi : i < s.size) (hs : s.size ≤ 9223372036854775000) :
    Calls Tryz.prog 96 #[.string s, .int .i64 i] w fun e w' => e = .returned (.int .i64 (Pl.signEnd s.data.toList i : Nat)) ∧ w = w' := by
  have ls : s.data.toList.length = s.size := by simp
  have hp : Pl.peek s.data.toList i = s[i].toNat := Pl.peek_at (by rw [ls]; exact hi)
  have LS := Lib.hid ls
  clear ls
  by_cases h : s[i].toNat = 124
  · have H := Lib.hid (show Pl.signEnd s.data.toList i = i + 1 by unfold Pl.signEnd; rw [hp, if_pos h])
    have hb : ((s[i].toNat : Int) == 124) = true := by simp; omega
    clear h hp
    go_enter Tryz.func96, Tryz.ntmps96
    go_wp2_with fail
    go_ret
    exact ⟨ret_int (by rw [H.out]; rfl), rfl⟩
  · have H := Lib.hid (show Pl.signEnd s.data.toList i = Pl.runS s.data.toList i (s.data.toList.length - i) i by unfold Pl.signEnd; rw [hp, if_neg h])
    have hb : ((s[i].toNat : Int) == 124) = false := by simp; omega
    clear h hp
    go_enter Tryz.func96, Tryz.ntmps96
    go_wp2_with fail
    go_loop [5] (fun t => ∃ e : Nat, i ≤ e ∧ e ≤ s.size ∧ t = .int .i64 e ∧ Pl.runS s.data.toList i (s.data.toList.length - i) i = Pl.runS s.data.toList i (s.data.toList.length - e) e) (fun t => s.size - (intOf t).toNat)
    case atStart => exact ⟨i, Nat.le_refl _, by omega, rfl, rfl⟩
    case round =>
      obtain ⟨e, he1, he2, rfl, hr⟩ := hrel
      have HR := Lib.hid hr
      clear hr
      by_cases hlt : e < s.size
      · have hl : e < s.data.toList.length := by rw [LS.out]; exact hlt
        have hp : Pl.peek s.data.toList e = s[e].toNat := Pl.peek_at hl
        have HP := Lib.hid hp
        have hb256 : s[e].toNat < 256 := UInt8.toNat_lt _
        clear hp
        -- the way on and the way out
        have go : Pl.cont s.data.toList i e = true → Pl.runS s.data.toList i (s.data.toList.length - i) i = Pl.runS s.data.toList i (s.data.toList.length - (e + 1)) (e + 1) := fun h => HR.out.trans (Pl.runS_go hl h)
        have no : Pl.cont s.data.toList i e = false → Pl.runS s.data.toList i (s.data.toList.length - i) i = e := fun h => HR.out.trans (Pl.runS_no hl h)
        have GO := Lib.hid go
        have NO := Lib.hid no
        clear go no
        go_wp2_with fail
        refine (rbinary_any s[e].toNat _).mono ?_
        rintro en w' ⟨rfl, rfl⟩
        cases hbin : Pl.binary s[e].toNat
        · have HX := Lib.hid (NO.out (by unfold Pl.cont; rw [HP.out, hbin]; rfl))
          clear hbin
          go_wp2_with fail
          go_ret
          exact ⟨ret_int (by rw [H.out, HX.out]), rfl⟩
        by_cases hfirst : e = i
        · subst hfirst
          have HX := Lib.hid (GO.out (by unfold Pl.cont; rw [HP.out, hbin]; simp))
          clear hbin
          go_wp2_with fail
          go_round
          case rel => exact ⟨e + 1, by omega, by omega, by go_num, HX.out⟩
          case measure => simp [intOf]; omega
        have hgt : (i : Int) < (e : Int) := by omega
        by_cases hm : s[e].toNat = 45
        · have hmb : ((s[e].toNat : Int) == 45) = true := by simp; omega
          go_wp2_with fail
          refine (at_any s (e + 1) _).mono ?_
          rintro en w' ⟨rfl, rfl⟩
          go_wp2_with fail
          refine (rdigit_any _ _).mono ?_
          rintro en w' ⟨rfl, rfl⟩
          cases hd : Pl.digit (Pl.peek s.data.toList (e + 1))
          · have HX := Lib.hid (GO.out (by unfold Pl.cont; rw [HP.out, hbin, hd]; simp))
            clear hbin hd hm
            go_wp2_with fail
            go_round
            case rel => exact ⟨e + 1, by omega, by omega, by go_num, HX.out⟩
            case measure => simp [intOf]; omega
          · have HX := Lib.hid (NO.out (by unfold Pl.cont; rw [HP.out, hbin, hd]; simp [hm, hfirst]))
            clear hbin hd hm
            go_wp2_with fail
            go_ret
            exact ⟨ret_int (by rw [H.out, HX.out]), rfl⟩
        · have hmb : ((s[e].toNat : Int) == 45) = false := by simp; omega
          have HX := Lib.hid (GO.out (by unfold Pl.cont; rw [HP.out, hbin]; simp [hm]))
          clear hbin hm
          go_wp2_with fail
          go_round
          case rel => exact ⟨e + 1, by omega, by omega, by go_num, HX.out⟩
          case measure => simp [intOf]; omega
      · have HX := Lib.hid (HR.out.trans (Pl.runS_end (i := i) (e := e) (by rw [LS.out]; omega)))
        go_wp2_with fail
        go_ret
        exact ⟨ret_int (by rw [H.out, HX.out]), rfl⟩
end Go.Proofs.YtoklnpoacckbfaaGreatDoor
namespace Go.Proofs.YtoklnpoacckbfaaGreatDoor
open Go.RowKit
theorem ext_list (b : ByteArray) (i j : Nat) : (b.extract i j).data.toList = (b.data.toList.drop i).take (j - i) := by
  simp [ByteArray.data_extract]
namespace Pl
def seg (l : List UInt8) (i j : Nat) : List UInt8 := (l.drop i).take (j - i)
def kwOk (l : List UInt8) (i : Nat) : Bool := name (seg l i (wordEnd l i)) && decide (peek l (wordEnd l i) = 58)
def kw (l : List UInt8) : Nat → Nat → Int → Int
  | 0, _, n => n
  | f + 1, i, n => if i < l.length then (if kwOk l i = true then kw l f (wordEnd l i + 1) (n + 1) else -1) else n
def keywords (l : List UInt8) : Int := kw l (l.length + 1) 0 0
def arity (l : List UInt8) : Int :=
  if l = [] then -1 else if name l = true then 0 else if binary (peek l 0) = true ∨ peek l 0 = 124 then (if signEnd l 0 = l.length then 1 else -1) else keywords l
theorem kw_stop {l : List UInt8} {f i : Nat} {n : Int} (h : l.length ≤ i) : kw l f i n = n := by
  cases f with
  | zero => rfl
  | succ f => unfold kw; rw [if_neg (by omega)]
theorem kw_no {l : List UInt8} {f i : Nat} {n : Int} (h : i < l.length) (hf : 0 < f) (hk : kwOk l i = false) : kw l f i n = -1 := by
  obtain ⟨g, rfl⟩ : ∃ g, f = g + 1 := ⟨f - 1, by omega⟩
  unfold kw; rw [if_pos h, if_neg (by rw [hk]; decide)]
theorem kw_go {l : List UInt8} {f i : Nat} {n : Int} (h : i < l.length) (hk : kwOk l i = true) : kw l (f + 1) i n = kw l f (wordEnd l i + 1) (n + 1) := by
  conv => lhs; unfold kw
  rw [if_pos h, if_pos hk]
theorem kwOk_lt {l : List UInt8} {i : Nat} (hi : i ≤ l.length) (h : kwOk l i = true) : wordEnd l i < l.length := by
  have h1 := (wordEnd_le l i hi).2
  unfold kwOk at h
  simp only [Bool.and_eq_true, decide_eq_true_eq] at h
  rcases Nat.lt_or_ge (wordEnd l i) l.length with h2 | h2
  · exact h2
  · rw [peek_end h2] at h; simp at h
end Pl
set_option maxHeartbeats 1000000 in
theorem keywords_any (s : ByteArray) (w : World) (hs : s.size ≤ 9223372036854775000) :
    Calls Tryz.prog 97 #[.string s] w fun e w' => e = .returned (.int .i64 (Pl.keywords s.data.toList)) ∧ w = w' := by
  have ls : s.data.toList.length = s.size := by simp
  have LS := Lib.hid ls
  clear ls
  go_enter Tryz.func97, Tryz.ntmps97
  go_wp2_with fail
  go_loop [3, 4] (fun m t => ∃ (i n f : Nat), i ≤ s.size ∧ n ≤ i ∧ s.size < i + f ∧ t = .int .i64 i ∧ m = .int .i64 n ∧ Pl.keywords s.data.toList = Pl.kw s.data.toList f i n) (fun _ t => s.size - (intOf t).toNat)
  case atStart => exact ⟨0, 0, s.size + 1, by omega, by omega, by omega, rfl, rfl, by unfold Pl.keywords; rw [LS.out]; rfl⟩
  case round =>
    obtain ⟨i, n, f, hi, hn, hf, rfl, rfl, hr⟩ := hrel
    have HR := Lib.hid hr
    clear hr
    by_cases hlt : i < s.size
    · have hl : i < s.data.toList.length := by rw [LS.out]; exact hlt
      have hwe := Pl.wordEnd_le s.data.toList i (by omega)
      rw [LS.out] at hwe
      obtain ⟨hw1, hw2⟩ := hwe
      go_wp2_with fail
      refine (word_any s i _ (by omega) (by omega)).mono ?_
      rintro e w' ⟨rfl, rfl⟩
      have HOK := Lib.hid (show Pl.kwOk s.data.toList i = (Pl.name (s.extract i (Pl.wordEnd s.data.toList i)).data.toList && decide (Pl.peek s.data.toList (Pl.wordEnd s.data.toList i) = 58)) by rw [ext_list]; rfl)
      have HLT := Lib.hid (Pl.kwOk_lt (l := s.data.toList) (i := i) (by omega))
      have NO := Lib.hid (fun h => HR.out.trans (Pl.kw_no (n := (n : Int)) hl (show 0 < f by omega) h))
      obtain ⟨f', rfl⟩ : ∃ f', f = f' + 1 := ⟨f - 1, by omega⟩
      have GO := Lib.hid (fun h => HR.out.trans (Pl.kw_go (f := f') (n := (n : Int)) hl h))
      generalize Pl.wordEnd s.data.toList i = j at *
      go_wp2_with fail
      refine (rname_any (s.extract i j) _ (by rw [ByteArray.size_extract]; omega)).mono ?_
      rintro e w' ⟨rfl, rfl⟩
      cases hnm : Pl.name (s.extract i j).data.toList
      · have HX := Lib.hid (NO.out (by rw [HOK.out, hnm]; rfl))
        clear hnm
        go_wp2_with fail
        go_ret
        exact ⟨ret_int HX.out.symm, rfl⟩
      · go_wp2_with fail
        refine (at_any s j _).mono ?_
        rintro e w' ⟨rfl, rfl⟩
        by_cases hp : Pl.peek s.data.toList j = 58
        · have hb : ((Pl.peek s.data.toList j : Int) != 58) = false := by simp; omega
          have hok : Pl.kwOk s.data.toList i = true := by rw [HOK.out, hnm, hp]; rfl
          have hjl := HLT.out hok
          rw [LS.out] at hjl
          have HX := Lib.hid (GO.out hok)
          clear hnm hp hok
          go_wp2_with fail
          go_round
          case rel => exact ⟨j + 1, n + 1, f', by omega, by omega, by omega, by go_num, by go_num, HX.out⟩
          case measure => simp [intOf]; omega
        · have hb : ((Pl.peek s.data.toList j : Int) != 58) = true := by simp; omega
          have HX := Lib.hid (NO.out (by rw [HOK.out, hnm]; simp [hp]))
          clear hnm hp
          go_wp2_with fail
          go_ret
          exact ⟨ret_int HX.out.symm, rfl⟩
    · have HX := Lib.hid (HR.out.trans (Pl.kw_stop (by rw [LS.out]; omega)))
      go_wp2_with fail
      go_ret
      exact ⟨ret_int HX.out.symm, rfl⟩
set_option maxHeartbeats 1000000 in
theorem rarity_any (s : ByteArray) (w : World) (hs : s.size ≤ 9223372036854775000) :
    Calls Tryz.prog 62 #[.string s] w fun e w' => e = .returned (.int .i64 (Pl.arity s.data.toList)) ∧ w = w' := by
  have ls : s.data.toList.length = s.size := by simp
  by_cases h0 : s.size = 0
  · have hnil : s.data.toList = [] := List.eq_nil_of_length_eq_zero (by omega)
    obtain rfl : s = ⟨#[]⟩ := by cases s with | mk d => congr 1; simpa using hnil
    clear ls h0 hnil
    go_enter Tryz.func62, Tryz.ntmps62
    go_wp2_with fail
    refine (rname_any _ _ (by decide)).mono ?_
    rintro e w' ⟨rfl, rfl⟩
    go_wp2_with fail
    go_ret
    exact ⟨ret_int rfl, rfl⟩
  have hne : s.data.toList ≠ [] := fun e => by rw [e] at ls; simp at ls; omega
  have hp : 0 < s.size := by omega
  have hz : ((s.size : Int) == 0) = false := by rw [beq_eq_false_iff_ne]; omega
  have hpk : Pl.peek s.data.toList 0 = s[0].toNat := Pl.peek_at (by omega)
  have HA := Lib.hid (show Pl.arity s.data.toList = (if Pl.name s.data.toList = true then 0 else if Pl.binary s[0].toNat = true ∨ s[0].toNat = 124 then (if Pl.signEnd s.data.toList 0 = s.size then 1 else -1) else Pl.keywords s.data.toList) by unfold Pl.arity; rw [if_neg hne, hpk, ls])
  clear ls h0 hne hpk
  go_enter Tryz.func62, Tryz.ntmps62
  go_wp2_with fail
  refine (rname_any _ _ (by omega)).mono ?_
  rintro e w' ⟨rfl, rfl⟩
  cases hnm : Pl.name s.data.toList
  · have HA2 := Lib.hid (show Pl.arity s.data.toList = (if Pl.binary s[0].toNat = true ∨ s[0].toNat = 124 then (if Pl.signEnd s.data.toList 0 = s.size then 1 else -1) else Pl.keywords s.data.toList) by rw [HA.out, if_neg (by rw [hnm]; decide)])
    clear hnm HA
    go_wp2_with fail
    refine (rbinary_any s[0].toNat _).mono ?_
    rintro e w' ⟨rfl, rfl⟩
    have sg : (Pl.binary s[0].toNat = true ∨ s[0].toNat = 124) → Pl.arity s.data.toList = (if Pl.signEnd s.data.toList 0 = s.size then 1 else -1) := fun h => by rw [HA2.out, if_pos h]
    have SG := Lib.hid sg
    clear sg
    cases hbin : Pl.binary s[0].toNat
    · by_cases h124 : s[0].toNat = 124
      · have hb : ((s[0].toNat : Int) == 124) = true := by simp; omega
        have HS := Lib.hid (SG.out (.inr h124))
        clear hbin h124
        go_wp2_with fail
        refine (rsign_any s 0 _ hp (by omega)).mono ?_
        rintro e w' ⟨rfl, rfl⟩
        by_cases he : Pl.signEnd s.data.toList 0 = s.size
        · have hE : ((Pl.signEnd s.data.toList 0 : Int) == (s.size : Int)) = true := by simp; omega
          have HS2 := Lib.hid (HS.out.trans (if_pos he))
          clear he
          go_wp2_with fail
          go_ret
          exact ⟨ret_int HS2.out.symm, rfl⟩
        · have hE : ((Pl.signEnd s.data.toList 0 : Int) == (s.size : Int)) = false := by simp; omega
          have HS2 := Lib.hid (HS.out.trans (if_neg he))
          clear he
          go_wp2_with fail
          go_ret
          exact ⟨ret_int HS2.out.symm, rfl⟩
      · have hb : ((s[0].toNat : Int) == 124) = false := by simp; omega
        have HS := Lib.hid (show Pl.arity s.data.toList = Pl.keywords s.data.toList by rw [HA2.out, if_neg (by rw [hbin]; simp [h124])])
        clear hbin h124
        go_wp2_with fail
        refine (keywords_any s _ hs).mono ?_
        rintro e w' ⟨rfl, rfl⟩
        go_wp2_with fail
        go_ret
        exact ⟨ret_int HS.out.symm, rfl⟩
    · have HS := Lib.hid (SG.out (.inl hbin))
      clear hbin
      go_wp2_with fail
      refine (rsign_any s 0 _ hp (by omega)).mono ?_
      rintro e w' ⟨rfl, rfl⟩
      by_cases he : Pl.signEnd s.data.toList 0 = s.size
      · have hE : ((Pl.signEnd s.data.toList 0 : Int) == (s.size : Int)) = true := by simp; omega
        have HS2 := Lib.hid (HS.out.trans (if_pos he))
        clear he
        go_wp2_with fail
        go_ret
        exact ⟨ret_int HS2.out.symm, rfl⟩
      · have hE : ((Pl.signEnd s.data.toList 0 : Int) == (s.size : Int)) = false := by simp; omega
        have HS2 := Lib.hid (HS.out.trans (if_neg he))
        clear he
        go_wp2_with fail
        go_ret
        exact ⟨ret_int HS2.out.symm, rfl⟩
  · have HS := Lib.hid (HA.out.trans (if_pos hnm))
    clear hnm
    go_wp2_with fail
    go_ret
    exact ⟨ret_int HS.out.symm, rfl⟩
end Go.Proofs.YtoklnpoacckbfaaGreatDoor
