/- The program's sign: a closure that counts. -/
import Derived.Test.YtoklnpoacckbfaaGreatDoorKaag
import Derived.Below
namespace Go.Proofs.YtoklnpoacckbfaaGreatDoor
open Go.RowKit
def SignStep (l : List UInt8) (i e : Nat) (A : Nat) (w : World) (en : Ending) (w' : World) : Prop :=
  en = .returned (.bool (Pl.cont l i e)) ∧ w' = w.setCell ⟨A, 0, none⟩ (.int .i64 ((e : Int) + 1))
set_option maxHeartbeats 1000000 in
theorem signstep_any (s : ByteArray) (i e A F S : Nat) (w : World) (he : e < s.size) (hs : s.size ≤ 9223372036854775000) (hi : i ≤ e)
    (hA : w.cell? ⟨A, 0, none⟩ = some (.int .i64 e)) (hF : w.cell? ⟨F, 0, none⟩ = some (.int .i64 i)) (hS : w.cell? ⟨S, 0, none⟩ = some (.string s)) (hfr : w.frozen? ⟨A, 0, none⟩ = false) :
    Calls Tryz.prog 125 #[.int .u8 s[e].toNat, .pointer (some ⟨A, 0, none⟩), .pointer (some ⟨F, 0, none⟩), .pointer (some ⟨S, 0, none⟩)] w (SignStep s.data.toList i e A w) := by
  have ls : s.data.toList.length = s.size := by simp
  have hp : Pl.peek s.data.toList e = s[e].toNat := Pl.peek_at (by omega)
  have hb256 : s[e].toNat < 256 := UInt8.toNat_lt _
  have HC := Lib.hid (show Pl.cont s.data.toList i e = (Pl.binary s[e].toNat && (decide (e = i) || (decide (s[e].toNat ≠ 45) || !Pl.digit (Pl.peek s.data.toList (e + 1))))) by unfold Pl.cont; rw [hp])
  clear ls hp
  go_enter Tryz.func125, Tryz.ntmps125
  go_wp2_with fail
  refine (binary_any s[e].toNat _ hb256).mono ?_
  rintro en w' ⟨rfl, rfl⟩
  cases hbin : Pl.binary s[e].toNat
  · have HX := Lib.hid (HC.out.trans (show _ = false by rw [hbin, Bool.false_and]))
    clear hbin
    go_wp2_with fail
    go_ret
    exact ⟨ret_bool HX.out.symm, rfl⟩
  by_cases hfirst : e = i
  · subst hfirst
    have HX := Lib.hid (HC.out.trans (show _ = true by rw [hbin]; simp))
    clear hbin
    go_wp2_with fail
    go_ret
    exact ⟨ret_bool HX.out.symm, rfl⟩
  have hne : ((e : Int) == (i : Int)) = false := by rw [beq_eq_false_iff_ne]; omega
  by_cases hm : s[e].toNat = 45
  · have hmb : ((s[e].toNat : Int) != 45) = false := by simp; omega
    have HX := Lib.hid (show Pl.cont s.data.toList i e = !Pl.digit (Pl.peek s.data.toList (e + 1)) by rw [HC.out, hbin]; simp [hm, hfirst])
    clear hbin hm hfirst
    go_wp2_with fail
    refine (peek_any s (e + 1) _).mono ?_
    rintro en w' ⟨rfl, rfl⟩
    go_wp2_with fail
    refine (digit_any _ _).mono ?_
    rintro en w' ⟨rfl, rfl⟩
    generalize Pl.digit (Pl.peek s.data.toList (e + 1)) = d at HX ⊢
    cases d
    · go_wp2_with fail
      go_ret
      exact ⟨ret_bool HX.out.symm, rfl⟩
    · go_wp2_with fail
      go_ret
      exact ⟨ret_bool HX.out.symm, rfl⟩
  · have hmb : ((s[e].toNat : Int) != 45) = true := by simp; omega
    have HX := Lib.hid (HC.out.trans (show _ = true by rw [hbin]; simp [hm]))
    clear hbin hm hfirst
    go_wp2_with fail
    go_ret
    exact ⟨ret_bool HX.out.symm, rfl⟩
set_option maxHeartbeats 1000000 in
theorem runsign_any (s : ByteArray) (i A F S B : Nat) (w : World) (hi : i < s.size) (hs : s.size ≤ 9223372036854775000) (hBA : B ≤ A) (hFA : F ≠ A) (hSA : S ≠ A)
    (hA : w.cell? ⟨A, 0, none⟩ = some (.int .i64 i)) (hF : w.cell? ⟨F, 0, none⟩ = some (.int .i64 i)) (hS : w.cell? ⟨S, 0, none⟩ = some (.string s)) (hfr : w.frozen? ⟨A, 0, none⟩ = false) :
    Calls Tryz.prog 93 #[.string s, .int .i64 i, .func (.func 125) #[] #[.pointer (some ⟨A, 0, none⟩), .pointer (some ⟨F, 0, none⟩), .pointer (some ⟨S, 0, none⟩)]] w
      fun en w' => en = .returned (.int .i64 (Pl.runS s.data.toList i (s.data.toList.length - i) i : Nat)) ∧ Below B w w' := by
  have ls : s.data.toList.length = s.size := by simp
  have LS := Lib.hid ls
  have HA := Lib.hid hA
  have HF := Lib.hid hF
  have HS := Lib.hid hS
  have HFR := Lib.hid hfr
  clear ls hA hF hS hfr
  go_enter Tryz.func93, Tryz.ntmps93
  go_wp2_with fail
  go_loopw [1] (fun t wr => ∃ e : Nat, i ≤ e ∧ e ≤ s.size ∧ t = .int .i64 e ∧ Pl.runS s.data.toList i (s.data.toList.length - i) i = Pl.runS s.data.toList i (s.data.toList.length - e) e ∧ Below B w wr ∧ wr.cell? ⟨A, 0, none⟩ = some (.int .i64 e) ∧ wr.cell? ⟨F, 0, none⟩ = some (.int .i64 i) ∧ wr.cell? ⟨S, 0, none⟩ = some (.string s) ∧ wr.frozen? ⟨A, 0, none⟩ = false) (fun t _ => s.size - (intOf t).toNat)
  case atStart => exact ⟨i, Nat.le_refl _, by omega, rfl, rfl, Below.refl _ _, HA.out, HF.out, HS.out, HFR.out⟩
  case round =>
    obtain ⟨e, he1, he2, rfl, hr, hb, hA, hF, hS, hfr⟩ := hrel
    have HR := Lib.hid hr
    have HB := Lib.hid hb
    clear hr hb
    by_cases hlt : e < s.size
    · have hl : e < s.data.toList.length := by rw [LS.out]; exact hlt
      have GO := Lib.hid (fun h => HR.out.trans (Pl.runS_go (i := i) hl h))
      have NO := Lib.hid (fun h => HR.out.trans (Pl.runS_no (i := i) hl h))
      have RA := Lib.hid hA
      have RF := Lib.hid hF
      have RS := Lib.hid hS
      have RR := Lib.hid hfr
      clear hA hF hS hfr hl
      go_wp2_with fail
      refine (signstep_any s i e A F S _ hlt hs he1 RA.out RF.out RS.out RR.out).mono ?_
      rintro en w' ⟨rfl, rfl⟩
      cases hc : Pl.cont s.data.toList i e
      · have HX := Lib.hid (NO.out hc)
        clear hc
        go_wp2_with fail
        go_ret
        exact ⟨ret_int (by rw [HX.out]), HB.out.setCell hBA _⟩
      · have HX := Lib.hid (GO.out hc)
        clear hc
        go_wp2_with fail
        go_roundw
        case rel =>
          refine ⟨e + 1, by omega, by omega, by go_num, HX.out, HB.out.setCell hBA _, ?_, ?_, ?_, ?_⟩
          · rw [World.cell?_setCell_same _ _ _ RA.out]; rfl
          · rw [World.cell?_of_block (Below.heap_setCell _ _ _ _ hFA)]; exact RF.out
          · rw [World.cell?_of_block (Below.heap_setCell _ _ _ _ hSA)]; exact RS.out
          · rw [World.frozen?_setCell]; exact RR.out
        case measure => simp [intOf]; omega
    · have HX := Lib.hid (HR.out.trans (Pl.runS_end (i := i) (e := e) (by rw [LS.out]; omega)))
      clear hA hF hS hfr
      go_wp2_with fail
      go_ret
      exact ⟨ret_int (by rw [HX.out]), HB.out⟩
set_option maxHeartbeats 1000000 in
theorem sign_any (s : ByteArray) (i : Nat) (w : World) (hi : i < s.size) (hs : s.size ≤ 9223372036854775000) :
    Calls Tryz.prog 86 #[.string s, .int .i64 i] w fun e w' => e = .returned (.int .i64 (Pl.signEnd s.data.toList i : Nat)) ∧ Below w.heap.size w w' := by
  have ls : s.data.toList.length = s.size := by simp
  have hp : Pl.peek s.data.toList i = s[i].toNat := Pl.peek_at (by rw [ls]; exact hi)
  clear ls
  by_cases h : s[i].toNat = 124
  · have H := Lib.hid (show Pl.signEnd s.data.toList i = i + 1 by unfold Pl.signEnd; rw [hp, if_pos h])
    have hb : ((s[i].toNat : Int) == 124) = true := by simp; omega
    clear h hp
    go_enter Tryz.func86, Tryz.ntmps86
    go_wp2_with fail
    go_ret
    exact ⟨ret_int (by rw [H.out]; rfl), ((Below.refl _ _).alloc (Nat.le_refl _) _).alloc (by simp) _⟩
  · have H := Lib.hid (show Pl.signEnd s.data.toList i = Pl.runS s.data.toList i (s.data.toList.length - i) i by unfold Pl.signEnd; rw [hp, if_neg h])
    have hb : ((s[i].toNat : Int) == 124) = false := by simp; omega
    clear h hp
    go_enter Tryz.func86, Tryz.ntmps86
    go_wp2_with fail
    refine (runsign_any s i (w.heap.size + 1) (w.heap.size + 1 + 1) w.heap.size w.heap.size _ hi hs (by omega) (by omega) (by omega) ?_ ?_ ?_ ?_).mono ?_
    · simp [go_sem]
    · simp [go_sem]
    · simp [go_sem]
    · simp only [frozen?_alloc_cells]; simp [World.frozen?]
    rintro en w' ⟨rfl, hb⟩
    have HB := Lib.hid hb
    clear hb
    go_wp2_with fail
    go_ret
    exact ⟨ret_int (by rw [H.out]; simp), (((((Below.refl _ _).alloc (Nat.le_refl _) _).alloc (by simp) _).alloc (by simp; omega) _).trans HB.out)⟩
end Go.Proofs.YtoklnpoacckbfaaGreatDoor
