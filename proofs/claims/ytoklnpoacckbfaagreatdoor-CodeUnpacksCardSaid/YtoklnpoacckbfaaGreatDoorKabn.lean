/- The code's reader: a unit, where its head is there. -/
import Derived.Test.YtoklnpoacckbfaaGreatDoorKabm
import Derived.IntWalk
import Derived.RegionDies
namespace Go.Proofs.YtoklnpoacckbfaaGreatDoor
open Go Go.RowKit Go.Lib
structure InsBox (w : World) (X : Nat) (op : Nat) (a b : Int) : Prop where
  c0 : w.cell? ⟨X, 0, none⟩ = some (.int .u8 op)
  c1 : w.cell? ⟨X, 1, none⟩ = some (.int .i64 a)
  c2 : w.cell? ⟨X, 2, none⟩ = some (.int .i64 b)
  f1 : w.frozen? ⟨X, 1, none⟩ = false
  f2 : w.frozen? ⟨X, 2, none⟩ = false
  lt : X < w.heap.size
theorem InsBox.save {S : Nat → Prop} {w w' : World} {X op : Nat} {a b : Int} (h : InsBox w X op a b) (s : Save S w w') (hS : ¬ S X) : InsBox w' X op a b :=
  ⟨(s.cell 0 h.lt hS).trans h.c0, (s.cell 1 h.lt hS).trans h.c1, (s.cell 2 h.lt hS).trans h.c2, (s.frozen 1 h.lt hS).trans h.f1, (s.frozen 2 h.lt hS).trans h.f2, Nat.lt_of_lt_of_le h.lt s.size⟩
theorem InsBox.setA {w : World} {X op : Nat} {a b : Int} (h : InsBox w X op a b) (a' : Int) : InsBox (w.setCell ⟨X, 1, none⟩ (.int .i64 a')) X op a' b :=
  ⟨by rw [World.cell?_setCell_other _ _ _ _ (by simp)]; exact h.c0, by rw [World.cell?_setCell_same' _ _ _ (by rw [h.c1]; rfl)], by rw [World.cell?_setCell_other _ _ _ _ (by simp)]; exact h.c2, by rw [World.frozen?_setCell]; exact h.f1, by rw [World.frozen?_setCell]; exact h.f2, by simpa using h.lt⟩
theorem InsBox.setB {w : World} {X op : Nat} {a b : Int} (h : InsBox w X op a b) (b' : Int) : InsBox (w.setCell ⟨X, 2, none⟩ (.int .i64 b')) X op a b' :=
  ⟨by rw [World.cell?_setCell_other _ _ _ _ (by simp)]; exact h.c0, by rw [World.cell?_setCell_other _ _ _ _ (by simp)]; exact h.c1, by rw [World.cell?_setCell_same' _ _ _ (by rw [h.c2]; rfl)], by rw [World.frozen?_setCell]; exact h.f1, by rw [World.frozen?_setCell]; exact h.f2, by simpa using h.lt⟩
structure UntBox (w : World) (U : Nat) (a c o s : Int) (v : Value) : Prop where
  c0 : w.cell? ⟨U, 0, none⟩ = some (.int .i64 a)
  c1 : w.cell? ⟨U, 1, none⟩ = some (.int .i64 c)
  c2 : w.cell? ⟨U, 2, none⟩ = some (.int .i64 o)
  c3 : w.cell? ⟨U, 3, none⟩ = some (.int .i64 s)
  c4 : w.cell? ⟨U, 4, none⟩ = some v
  f0 : w.frozen? ⟨U, 0, none⟩ = false
  f1 : w.frozen? ⟨U, 1, none⟩ = false
  f2 : w.frozen? ⟨U, 2, none⟩ = false
  f3 : w.frozen? ⟨U, 3, none⟩ = false
  f4 : w.frozen? ⟨U, 4, none⟩ = false
  lt : U < w.heap.size
theorem UntBox.save {S : Nat → Prop} {w w' : World} {U : Nat} {a c o s : Int} {v : Value} (h : UntBox w U a c o s v) (k : Save S w w') (hS : ¬ S U) : UntBox w' U a c o s v :=
  ⟨(k.cell 0 h.lt hS).trans h.c0, (k.cell 1 h.lt hS).trans h.c1, (k.cell 2 h.lt hS).trans h.c2, (k.cell 3 h.lt hS).trans h.c3, (k.cell 4 h.lt hS).trans h.c4, (k.frozen 0 h.lt hS).trans h.f0, (k.frozen 1 h.lt hS).trans h.f1, (k.frozen 2 h.lt hS).trans h.f2, (k.frozen 3 h.lt hS).trans h.f3, (k.frozen 4 h.lt hS).trans h.f4, Nat.lt_of_lt_of_le h.lt k.size⟩
theorem UntBox.set {w : World} {U : Nat} {a c o s : Int} {v : Value} (h : UntBox w U a c o s v) (v' : Value) : UntBox (w.setCell ⟨U, 4, none⟩ v') U a c o s v' :=
  ⟨by rw [World.cell?_setCell_other _ _ _ _ (by simp)]; exact h.c0, by rw [World.cell?_setCell_other _ _ _ _ (by simp)]; exact h.c1, by rw [World.cell?_setCell_other _ _ _ _ (by simp)]; exact h.c2, by rw [World.cell?_setCell_other _ _ _ _ (by simp)]; exact h.c3, by rw [World.cell?_setCell_same' _ _ _ (by rw [h.c4]; rfl)],
    by rw [World.frozen?_setCell]; exact h.f0, by rw [World.frozen?_setCell]; exact h.f1, by rw [World.frozen?_setCell]; exact h.f2, by rw [World.frozen?_setCell]; exact h.f3, by rw [World.frozen?_setCell]; exact h.f4, by simpa using h.lt⟩
theorem UntBox.new (w : World) (a c o s : Int) (v : Value) : UntBox (w.alloc (.cells #[.int .i64 a, .int .i64 c, .int .i64 o, .int .i64 s, v] 58)) w.heap.size a c o s v :=
  ⟨by simp [go_sem], by simp [go_sem], by simp [go_sem], by simp [go_sem], by simp [go_sem], by simp [go_sem], by simp [go_sem], by simp [go_sem], by simp [go_sem], by simp [go_sem], by simp⟩
theorem InsBox.new (w : World) (op : Nat) (a b : Int) : InsBox (w.alloc (.cells #[.int .u8 op, .int .i64 a, .int .i64 b] 61)) w.heap.size op a b :=
  ⟨by simp [go_sem], by simp [go_sem], by simp [go_sem], by simp [go_sem], by simp [go_sem], by simp⟩
theorem But.save {P : Nat} {w w' : World} (h : But P w w') : Save (fun k => k = P) w w' := ⟨h.os, h.tape, h.output, Nat.le_of_eq h.size.symm, fun k _ hn => h.block k hn⟩
theorem RS.drew {S : Nat → Prop} {w0 w : World} {P : Nat} {l : List Nat} (h : RS S w0 w P l) : RS S w0 w.drew P l := ⟨h.c0, h.f0, h.lt, h.len, h.hP, ⟨h.s.os, h.s.tape, h.s.output, h.s.size, h.s.block⟩⟩
theorem InsBox.drew {w : World} {X op : Nat} {a b : Int} (h : InsBox w X op a b) : InsBox w.drew X op a b := ⟨h.c0, h.c1, h.c2, h.f1, h.f2, h.lt⟩
theorem Save.drew {S : Nat → Prop} {w w' : World} (h : Save S w w') : Save S w w'.drew := ⟨h.os, h.tape, h.output, h.size, h.block⟩
theorem Save.none_alloc (w : World) (o : Obj) : Save (fun _ => False) w (w.alloc o) := (Save.refl _ w).alloc o
theorem Save.none_below {w w' : World} (h : Below w.heap.size w w') : Save (fun _ => False) w w' := Save.of_below h _ (fun _ hj _ => hj)
theorem rdAt_le {j : Nat} {l r : List Nat} {a : Int} (hj : j ≤ 2) (hl : ∀ b ∈ l, b < 256) (h : Pl.rdAt j l = some (a, r)) : 0 ≤ a ∧ a ≤ 65535 ∧ (j = 0 → l = r ∧ a = 0) ∧ (j = 1 → ∃ b : Nat, b < 256 ∧ l = b :: r ∧ a = b) := by
  unfold Pl.rdAt at h
  have h3 : j = 0 ∨ j = 1 ∨ j = 2 := by omega
  rcases h3 with rfl | rfl | rfl
  · simp at h; obtain ⟨rfl, rfl⟩ := h; simp
  · cases l with
    | nil => simp at h
    | cons b t =>
      simp at h; obtain ⟨rfl, rfl⟩ := h
      have := hl b (by simp)
      exact ⟨by omega, by omega, by simp, fun _ => ⟨b, this, rfl, rfl⟩⟩
  · match l, h with
    | [], h => simp at h
    | [_], h => simp at h
    | b :: c :: t, h =>
      simp at h; obtain ⟨rfl, rfl⟩ := h
      have := hl b (by simp)
      have := hl c (by simp)
      exact ⟨by omega, by omega, by simp, by simp⟩
theorem shl0 (b : Nat) (hb : b < 256) (w : World) : (Op.shift BinOp.shl .i64 (b : Int) .i64 (IntKind.i64.wrap 0)).run Tryz.prog w = .ok (.int .i64 (b : Int)) w := by
  have : IntKind.i64.wrap 0 = 0 := by decide
  rw [this]
  simp [Op.shift, go_sem]
  rw [IntKind.wrap_i64]; omega
theorem shl8 (b : Nat) (hb : b < 256) (w : World) : (Op.shift BinOp.shl .i64 (b : Int) .i64 (IntKind.i64.wrap 8)).run Tryz.prog w = .ok (.int .i64 ((b : Int) * 256)) w := by
  have : IntKind.i64.wrap 8 = 8 := by decide
  rw [this]
  simp [Op.shift, go_sem]
  rw [IntKind.wrap_i64]; omega
set_option maxRecDepth 100000 in
set_option maxHeartbeats 4000000 in
theorem unit_six {w : World} {P a c o s m n : Nat} {r : List Nat} (N : Nat) (hN : N = m + 256 * n) (h : RS (fun k => k = P) w w P (a :: c :: o :: s :: m :: n :: r)) :
    Calls Tryz.prog 48 #[.pointer (some ⟨P, 0, none⟩)] w fun e w' =>
      (∃ xs r1 v, Pl.rdMany (Pl.rdIns Pl.knownB) N r = some (xs, r1) ∧ e = .returned (.agg #[.int .i64 a, .int .i64 c, .int .i64 o, .int .i64 s, v]) ∧ RS (fun k => k = P) w w' P r1 ∧ InssOf (fun k => w.heap.size ≤ k) w' xs v) ∨
      (Pl.rdMany (Pl.rdIns Pl.knownB) N r = none ∧ e = .panicked shortP ∧ Save (fun k => k = P) w w') := by
  have ha := h.lt a (by simp)
  have hc := h.lt c (by simp)
  have ho := h.lt o (by simp)
  have hs := h.lt s (by simp)
  have hm := h.lt m (by simp)
  have hn := h.lt n (by simp)
  have hPw := h.hP
  have HE := Lib.hid h
  have HS := Lib.hid ((h.alloc (.cells #[.int .i64 0, .int .i64 0, .int .i64 0, .int .i64 0, .slice none 0 0] 58)).self (T := fun k => k = P))
  have HR1 := Lib.hid (UntBox.new w 0 0 0 0 (.slice none 0 0))
  have HW1 := Lib.hid ((Save.refl (fun k => k = P) w).alloc (.cells #[.int .i64 0, .int .i64 0, .int .i64 0, .int .i64 0, .slice none 0 0] 58))
  have HZ := Lib.hid (show (w.alloc (.cells #[.int .i64 0, .int .i64 0, .int .i64 0, .int .i64 0, .slice none 0 0] 58)).heap.size = w.heap.size + 1 by simp)
  clear h
  go_enter Tryz.func48, Tryz.ntmps48
  go_wp2_with (go_at_call 47; refine (nextR (by exact HS.out) (by exact rfl)).mono ?_; rintro e w5 (⟨b, t, hl', rfl, hr, hbt⟩ | ⟨hl', rfl, rfl⟩) <;> cases hl' <;> (have HS := Lib.hid hr; have HZ := Lib.hid (hbt.size.trans HZ.out); clear hr hbt))
  obtain ⟨U, hU⟩ : ∃ U, w5.heap.size = U := ⟨_, rfl⟩
  have hUR : w.heap.size < U := by have := HZ.out; omega
  have HR6 := Lib.hid ((HR1.out.save HS.out.s (show ¬ w.heap.size = P by omega)).save ((Save.refl (fun _ => False) w5).alloc (.cells #[.int .i64 a, .int .i64 c, .int .i64 o, .int .i64 s, .slice none 0 0] 58)) (fun f => f))
  have HW6 := Lib.hid ((HW1.out.trans HS.out.s (fun _ _ h => h)).alloc (.cells #[.int .i64 a, .int .i64 c, .int .i64 o, .int .i64 s, .slice none 0 0] 58))
  have HU6 := Lib.hid (UntBox.new w5 a c o s (.slice none 0 0))
  have HS6 := Lib.hid ((HS.out.alloc (.cells #[.int .i64 a, .int .i64 c, .int .i64 o, .int .i64 s, .slice none 0 0] 58)).self (T := fun k => k = P ∨ k = U))
  have hz6 : U < (w5.alloc (.cells #[.int .i64 a, .int .i64 c, .int .i64 o, .int .i64 s, .slice none 0 0] 58)).heap.size := by simp; omega
  clear HS HR1 HW1 HZ
  rw [hU] at HU6 ⊢
  clear hU
  generalize w5.alloc (.cells #[.int .i64 a, .int .i64 c, .int .i64 o, .int .i64 s, .slice none 0 0] 58) = w6 at HR6 HW6 HU6 HS6 hz6 ⊢
  go_wp2_with (go_at_call 47; refine (nextR (by exact HS6.out) (by exact .inl rfl)).mono ?_; rintro e w8 (⟨b, t, hl', rfl, hr, hbt⟩ | ⟨hl', rfl, rfl⟩) <;> cases hl' <;> (have HS6 := Lib.hid hr; have HU6 := Lib.hid (HU6.out.save hbt.save (show ¬ U = P by omega)); have hz8 := hbt.size; clear hr hbt))
  have hNI : (m : Int) + (n : Int) * 256 = (N : Int) := by omega
  have hN2 : N < 65536 := by omega
  rw [hNI]
  clear hN hNI
  have HO6 := Lib.hid (Owns.nil w8 w6.heap.size 61 3)
  generalize hq0 : Value.slice none 0 0 = q0 at HO6 HU6
  clear hq0
  go_loopw [26] (fun iv wr => ∃ (k : Nat) (xs : List Pl.Ins) (t : List Nat) (q : Value), iv = .int .i64 k ∧ k ≤ N ∧ Pl.rdMany (Pl.rdIns Pl.knownB) N r = Pl.glue xs (Pl.rdMany (Pl.rdIns Pl.knownB) (N - k) t) ∧ xs.length = k ∧ (∀ x ∈ xs, Pl.InsW x) ∧
      RS (fun k => k = P ∨ k = U) w6 wr P t ∧ UntBox wr U a c o s q ∧ Owns wr w6.heap.size 61 3 q xs.length (insRow xs)) (fun iv _ => N - (RowKit.intOf iv).toNat)
  case atStart => exact ⟨0, [], r, q0, rfl, Nat.zero_le _, (Pl.glue_nil _).symm, rfl, by simp, HS6.out, HU6.out, HO6.out⟩
  case round =>
    obtain ⟨k, xs, t, q, rfl, hk, hEq, hxl, hxw, hS, hU, hO⟩ := hrel
    have HEQ := Lib.hid hEq
    have HXW := Lib.hid hxw
    have HS := Lib.hid hS
    have HU := Lib.hid hU
    have HO := Lib.hid hO
    have hz := hS.s.size
    clear hEq hxw hS hU hO HS6 HU6 HO6
    subst hxl
    by_cases hlt : xs.length < N
    · have hltI : (xs.length : Int) < (N : Int) := by omega
      obtain ⟨d, hd⟩ : ∃ d, N - xs.length = d + 1 := ⟨N - xs.length - 1, by omega⟩
      have hd1 : N - (xs.length + 1) = d := by omega
      rw [hd] at HEQ
      rcases t with _ | ⟨op, t⟩
      · go_wp2_with (go_at_call 47; refine (nextR (by exact HS.out) (by exact .inl rfl)).mono ?_; rintro e w9 (⟨b, t', hl', rfl, hr, hbt⟩ | ⟨hl', rfl, rfl⟩) <;> cases hl')
        exact ⟨rfl, .inr ⟨by rw [HEQ.out]; exact Pl.glue_stop (Pl.rdIns_nil _), rfl, HW6.out.trans HS.out.s (fun j hj h => h.elim id (fun e => by omega))⟩⟩
      · have hop := HS.out.lt op (by simp)
        have hopI : (op : Int) < 256 := by omega
        have HT := Lib.hid (fun b (hb : b ∈ t) => HS.out.lt b (List.mem_cons_of_mem _ hb))
        have hxn := HO.out.not_new (b := P)
        by_cases hkn : Pl.knownB op = true
        · have HKN := Lib.hid hkn
          have OF := Lib.hid (of_known op (Pl.knownB_iff.1 hkn))
          have HSH := Lib.hid (show Pl.shFirst op = (Pl.bytesA op : Nat) from by have := Pl.knownB_iff.1 hkn; unfold Pl.known at this; unfold Pl.shFirst; rw [if_neg (by omega)])
          unfold Pl.shapeV at OF
          obtain ⟨wk, hwk⟩ : ∃ z, z = wr := ⟨wr, rfl⟩
          subst hwk
          clear hkn
          go_wp2_with (first
            | (go_at_call 47; refine (nextR (by exact HS.out) (by exact .inl rfl)).mono ?_; rintro e w9 (⟨b, t', hl', rfl, hr, hbt⟩ | ⟨hl', rfl, rfl⟩) <;> cases hl'
               have HS9 := Lib.hid hr
               have HU9 := Lib.hid (HU.out.save hbt.save (show ¬ U = P by omega))
               have HO9 := Lib.hid (HO.out.save hbt.save (fun g hg e => by have := (HO.out.lt g hg).1; omega))
               have hz9 := (show w6.heap.size ≤ w9.heap.size by have := hbt.size; omega)
               clear hr hbt)
            | (go_at_call 35; refine (OF.out _).mono ?_; rintro e w11 ⟨rfl, hb11⟩
               have SB := Save.none_below hb11
               have HS11 := Lib.hid ((HS9.out.alloc (.cells #[.int .u8 op, .int .i64 0, .int .i64 0] 61)).save SB (fun f => f) (fun _ _ f => f.elim))
               have HU11 := Lib.hid ((HU9.out.save (Save.none_alloc w9 (.cells #[.int .u8 op, .int .i64 0, .int .i64 0] 61)) (fun f => f)).save SB (fun f => f))
               have HO11 := Lib.hid ((HO9.out.alloc (.cells #[.int .u8 op, .int .i64 0, .int .i64 0] 61)).save SB (fun _ _ f => f))
               have HX11 := Lib.hid ((InsBox.new w9 op 0 0).save SB (fun f => f))
               have hz11 := (show w9.heap.size < w11.heap.size by have := hb11.size; simp at this; omega)
               clear hb11 SB))
          rw [HSH.out]
          have SA := Save.none_alloc w11 (.cells #[.string (Pl.opName op), .int .i64 (Pl.bytesA op : Nat), .bool (Pl.two op), .int .i64 (Pl.shOff op), .int .i64 (Pl.shLays op)] 69)
          have HSS := Lib.hid ((HS11.out.save SA (fun f => f) (fun _ _ f => f.elim)))
          have HUS := Lib.hid (HU11.out.save SA (fun f => f))
          have HOS := Lib.hid (HO11.out.save SA (fun _ _ f => f))
          have HXS := Lib.hid (HX11.out.save SA (fun f => f))
          have s2 : (w11.alloc (.cells #[.string (Pl.opName op), .int .i64 (Pl.bytesA op : Nat), .bool (Pl.two op), .int .i64 (Pl.shOff op), .int .i64 (Pl.shLays op)] 69)).cell? ⟨w11.heap.size, 2, none⟩ = some (.bool (Pl.two op)) := by simp [go_sem]
          have hzS : w11.heap.size < (w11.alloc (.cells #[.string (Pl.opName op), .int .i64 (Pl.bytesA op : Nat), .bool (Pl.two op), .int .i64 (Pl.shOff op), .int .i64 (Pl.shLays op)] 69)).heap.size := by simp
          have HQX := Lib.hid (show ∀ g, q.ownBlock = some g → g < w9.heap.size from fun g hg => (HO9.out.lt g hg).2)
          clear SA HS11 HU11 HO11 HX11 HS9 HU9 HO9
          generalize w11.alloc (.cells #[.string (Pl.opName op), .int .i64 (Pl.bytesA op : Nat), .bool (Pl.two op), .int .i64 (Pl.shOff op), .int .i64 (Pl.shLays op)] 69) = wS at HSS HUS HOS HXS s2 hzS ⊢
          obtain ⟨Sh, hSh⟩ : ∃ Sh, w11.heap.size = Sh := ⟨_, rfl⟩
          obtain ⟨X, hX⟩ : ∃ X, w9.heap.size = X := ⟨_, rfl⟩
          rw [hSh] at s2 hzS hz11 ⊢
          rw [hX] at HXS hz9 hz11 HQX ⊢
          clear hSh hX
          go_loopw [44] (fun jv wr => ∃ (j : Nat) (av : Int) (t' : List Nat), jv = .int .i64 j ∧ j ≤ Pl.bytesA op ∧ Pl.rdAt j t = some (av, t') ∧ RS (fun k => k = P ∨ k = X) wS wr P t' ∧ InsBox wr X op av 0) (fun jv _ => Pl.bytesA op - (RowKit.intOf jv).toNat)
          case atStart => exact ⟨0, 0, t, rfl, Nat.zero_le _, rfl, HSS.out.self, HXS.out⟩
          case round =>
            obtain ⟨j, av, t', rfl, hj, hat, hS, hX⟩ := hrel
            have HAT := Lib.hid hat
            have HSJ := Lib.hid hS
            have HXJ := Lib.hid hX
            have hzj := hS.s.size
            have hb2 := Pl.bytesA_le op
            obtain ⟨ha0, ha1, hr0, hr1⟩ := rdAt_le (by omega) HT.out hat
            have HR0 := Lib.hid hr0
            have HR1 := Lib.hid hr1
            clear hat hS hX hr0 hr1 HXS
            by_cases hjlt : j < Pl.bytesA op
            · have hjI : (j : Int) < (Pl.bytesA op : Int) := by omega
              obtain ⟨x0, x1, x2, g1, g2, hXl⟩ := HXJ.out
              have hj01 : j = 0 ∨ j = 1 := by omega
              have HDIE := Lib.hid (show t' = [] → Pl.rdMany (Pl.rdIns Pl.knownB) N r = none from fun e => by
                subst e
                rw [HEQ.out]
                refine Pl.glue_stop (Pl.rdIns_a ?_)
                rcases hj01 with rfl | rfl
                · rw [(HR0.out rfl).1]; exact Pl.rdA_none1 (by omega)
                · obtain ⟨b, _, e, _⟩ := HR1.out rfl
                  rw [e]; exact Pl.rdA_none2 (by omega))
              have HPAN := Lib.hid (show Save (fun j => j = P) w wr from HW6.out.trans (HSS.out.s.trans HSJ.out.s (fun j hj h => h.imp id (fun e => by omega))) (fun j hj h => h.elim id (fun e => by omega)))
              rcases hj01 with rfl | rfl
              · rw [show ((0 : Nat) : Int) = 0 from rfl] at hjI ⊢
                have hav := (HR0.out rfl).2
                have htt := (HR0.out rfl).1
                subst hav
                have HT0 := Lib.hid htt
                clear htt
                rcases t' with _ | ⟨b, t2⟩
                · go_wp2_with fail
                  go_region_dies
                  all_goals (refine (nextR (by first | exact HSJ.out | exact HSJ.out.drew) (by exact .inl rfl)).mono ?_; rintro e w13 (⟨b, t2, hl', rfl, hr, hbt⟩ | ⟨hl', rfl, rfl⟩) <;> cases hl'; go_simp; go_loud (exact ⟨rfl, .inr ⟨(by first | exact HDIE.out rfl | exact HDIE.out trivial), rfl, by first | exact HPAN.out | exact HPAN.out.drew⟩⟩))
                · have hb256 := HSJ.out.lt b (by simp)
                  have hb256I : (b : Int) < 256 := by omega
                  have hsh := shl0 b hb256
                  have hXP : ¬ X = P := by omega
                  go_wp2_with fail
                  go_region_with (go_at_call 47; refine (nextR (by first | exact HSJ.out | exact HSJ.out.drew) (by exact .inl rfl)).mono ?_; rintro e w13 (⟨b', t2', hl', rfl, hr, hbt⟩ | ⟨hl', rfl, rfl⟩) <;> cases hl'; have HX13 := Lib.hid (HXJ.out.drew.save hbt.save hXP); have y1 := HX13.out.c1; have y2 := HX13.out.f1; have y3 := HX13.out.lt; have HS13 := Lib.hid hr; clear hr hbt)
                  all_goals
                    go_wp2_with fail
                    go_roundw
                    case rel => exact ⟨0 + 1, _, t2, by go_num, by omega, by rw [HT0.out]; rfl, HS13.out.save ((Save.refl (fun k => k = X) _).set ⟨X, 1, none⟩ _ (fun _ => rfl)) (fun e => hXP e.symm) (fun j hj e => .inr e), HX13.out.setA _⟩
                    case measure => simp [RowKit.intOf]; omega
              · rw [show ((1 : Nat) : Int) = 1 from rfl] at hjI ⊢
                obtain ⟨b0, hb0, htt, hav⟩ := HR1.out rfl
                subst hav
                have HT0 := Lib.hid htt
                clear htt
                rcases t' with _ | ⟨b, t2⟩
                · go_wp2_with fail
                  go_region_dies
                  all_goals (refine (nextR (by first | exact HSJ.out | exact HSJ.out.drew) (by exact .inl rfl)).mono ?_; rintro e w13 (⟨b, t2, hl', rfl, hr, hbt⟩ | ⟨hl', rfl, rfl⟩) <;> cases hl'; go_simp; go_loud (exact ⟨rfl, .inr ⟨(by first | exact HDIE.out rfl | exact HDIE.out trivial), rfl, by first | exact HPAN.out | exact HPAN.out.drew⟩⟩))
                · have hb256 := HSJ.out.lt b (by simp)
                  have hb256I : (b : Int) < 256 := by omega
                  have hsh := shl8 b hb256
                  have hXP : ¬ X = P := by omega
                  go_wp2_with fail
                  go_region_with (go_at_call 47; refine (nextR (by first | exact HSJ.out | exact HSJ.out.drew) (by exact .inl rfl)).mono ?_; rintro e w13 (⟨b', t2', hl', rfl, hr, hbt⟩ | ⟨hl', rfl, rfl⟩) <;> cases hl'; have HX13 := Lib.hid (HXJ.out.drew.save hbt.save hXP); have y1 := HX13.out.c1; have y2 := HX13.out.f1; have y3 := HX13.out.lt; have HS13 := Lib.hid hr; clear hr hbt)
                  all_goals
                    go_wp2_with fail
                    go_roundw
                    case rel => exact ⟨1 + 1, _, t2, by go_num, by omega, by rw [HT0.out]; unfold Pl.rdAt; simp; omega, HS13.out.save ((Save.refl (fun k => k = X) _).set ⟨X, 1, none⟩ _ (fun _ => rfl)) (fun e => hXP e.symm) (fun j hj e => .inr e), HX13.out.setA _⟩
                    case measure => simp [RowKit.intOf]; omega
            · have hjI : (Pl.bytesA op : Int) ≤ (j : Int) := by omega
              have hje : j = Pl.bytesA op := by omega
              rw [hje] at HAT
              have HAT2 := Lib.hid (show Pl.rdA op t = some (av, t') from HAT.out)
              have hXP : ¬ X = P := by omega
              have hXU : ¬ X = U := by omega
              have t2' := (HSJ.out.s.cell 2 hzS (show ¬ (Sh = P ∨ Sh = X) by omega)).trans s2
              have hShl : Sh < wr.heap.size := by omega
              have HS0 := Lib.hid (HSJ.out.lift HSS.out.s (by omega) (fun g hg h => h.imp id (fun e => by omega)))
              have HU0 := Lib.hid (HUS.out.save HSJ.out.s (show ¬ (U = P ∨ U = X) by omega))
              have HO0 := Lib.hid (HOS.out.save HSJ.out.s (fun g hg h => by have h1 := HQX.out g hg; have h2 := (HOS.out.lt g hg).1; omega))
              clear hje HAT HR0 HR1
              cases htw : Pl.two op
              · rw [htw] at t2'
                have HTW := Lib.hid htw
                have HXb := HXJ
                have HUb := HU0
                have HOb := HO0
                have HSb := HS0
                clear htw
                have x0 := HXb.out.c0
                have x1 := HXb.out.c1
                have x2 := HXb.out.c2
                have hXl := HXb.out.lt
                have u4 := HUb.out.c4
                have HAPP := Lib.hid (HOb.out.lt)
                go_wp2_with (at_builtin; go_loud (refine wpList_appI rfl (.tmp 63) (.tmp 65) rfl w6.heap.size _ xs rfl HOb.out ⟨op, av, 0⟩ _ rfl ?hx ?hl ?hb ?_))
                case hx => first | rfl | (show Value.slice (some ⟨_, 0, none⟩) 1 1 = Value.slice (some ⟨(World.setCell _ _ _).heap.size, 0, none⟩) 1 1; simp)
                case hl => omega
                case hb => first | omega | (simp; omega)
                intro q1 w14 hq1 hg1
                have SG := Lib.hid (show Save (fun g => q.ownBlock = some g) _ w14 from (Save.refl _ _).grow hg1 (fun g hg _ => hg))
                have HU14 := Lib.hid (HUb.out.save SG.out (fun e => by have := (HAPP.out _ e).1; omega))
                have HS14 := Lib.hid (HSb.out.save SG.out (fun e => by have := (HAPP.out _ e).1; omega) (fun g hg e => by have := (HAPP.out _ e).1; omega))
                obtain ⟨qa, qc, hqf⟩ := hq1.form
                subst hqf
                have hq1l := hq1.lt
                have HQ1 := Lib.hid hq1
                have v4 := HU14.out.c4
                have vf := HU14.out.f4
                have vl := HU14.out.lt
                have HQL := Lib.hid hq1l
                clear hq1 hg1 x0 x1 x2 u4 hq1l
                go_wp2_with fail
                go_roundw
                case rel =>
                  have SE := (Save.refl (fun g => g = U) w14).set ⟨U, 4, none⟩ (.slice qa (xs.length + 1) qc) (fun _ => rfl)
                  refine ⟨xs.length + 1, xs ++ [⟨op, av, 0⟩], t', .slice qa (xs.length + 1) qc, by go_num, by omega, ?_, by simp, ?_, HS14.out.save SE (fun e => by omega) (fun g _ e => .inr e), HU14.out.set _, ?_⟩
                  · rw [HEQ.out, hd1]; exact Pl.glue_step (Pl.rdIns_ok HKN.out HAT2.out (Pl.rdB_one HTW.out t'))
                  · intro y hy
                    rcases List.mem_append.1 hy with hy | hy
                    · exact HXW.out y hy
                    · simp at hy; subst hy; exact ⟨by simpa using hop, by show _ ≤ av; omega, by show av ≤ _; omega, by show _ ≤ (0 : Int); omega, by show (0 : Int) ≤ _; omega⟩
                  · rw [List.length_append]
                    exact HQ1.out.save SE (fun g hg e => by have := (HQL.out g hg).1; omega)
                case measure => simp [RowKit.intOf]; omega
              · rw [htw] at t2'
                have HTW := Lib.hid htw
                clear htw
                rcases t' with _ | ⟨bv, t2⟩
                · go_wp2_with (go_at_call 47; refine (nextR (by exact HS0.out) (by exact .inl rfl)).mono ?_; rintro e w13 (⟨b, t2, hl', rfl, hr, hbt⟩ | ⟨hl', rfl, rfl⟩) <;> cases hl')
                  exact ⟨rfl, .inr ⟨by rw [HEQ.out]; exact Pl.glue_stop (Pl.rdIns_b HAT2.out (Pl.rdB_two_nil HTW.out)), rfl, HW6.out.trans HS0.out.s (fun j hj h => h.elim id (fun e => by omega))⟩⟩
                have hbv := HS0.out.lt bv (by simp)
                go_wp2_with (first
                  | (go_at_call 47; refine (nextR (by exact HS0.out) (by exact .inl rfl)).mono ?_; rintro e w13 (⟨b, t2', hl', rfl, hr, hbt⟩ | ⟨hl', rfl, rfl⟩) <;> cases hl'
                     have HX13 := Lib.hid (HXJ.out.save hbt.save hXP)
                     have y0 := HX13.out.c0
                     have y1 := HX13.out.c1
                     have y2 := HX13.out.c2
                     have yf := HX13.out.f2
                     have yl := HX13.out.lt
                     have SX := (Save.refl (fun g => g = X) w13).set ⟨X, 2, none⟩ (.int .i64 (bv : Int)) (fun _ => rfl)
                     have HXb := Lib.hid (HX13.out.setB (bv : Int))
                     have HUb := Lib.hid ((HU0.out.save hbt.save (show ¬ U = P by omega)).save SX (fun e => hXU e.symm))
                     have HOb := Lib.hid ((HO0.out.save hbt.save (fun g hg e => by have := (HO0.out.lt g hg).1; omega)).save SX (fun g hg e => by have := HQX.out g hg; omega))
                     have HSb := Lib.hid (RS.save hr SX (fun e => hXP e.symm) (fun g hg e => by omega))
                     have hz13 := hbt.size
                     have u4' := (HU0.out.save hbt.save (show ¬ U = P by omega)).c4
                     have HAPP := Lib.hid (HOb.out.lt)
                     clear hr hbt SX)
                  | (at_builtin; go_loud (refine wpList_appI rfl (.tmp 63) (.tmp 65) rfl w6.heap.size _ xs rfl HOb.out ⟨op, av, (bv : Int)⟩ _ rfl ?hx ?hl ?hb ?_)))
                case hx => first | rfl | (show Value.slice (some ⟨_, 0, none⟩) 1 1 = Value.slice (some ⟨(World.setCell _ _ _).heap.size, 0, none⟩) 1 1; simp)
                case hl => omega
                case hb => first | omega | (simp; omega)
                intro q1 w14 hq1 hg1
                have SG := Lib.hid (show Save (fun g => q.ownBlock = some g) _ w14 from (Save.refl _ _).grow hg1 (fun g hg _ => hg))
                have HU14 := Lib.hid (HUb.out.save SG.out (fun e => by have := (HAPP.out _ e).1; omega))
                have HS14 := Lib.hid (HSb.out.save SG.out (fun e => by have := (HAPP.out _ e).1; omega) (fun g hg e => by have := (HAPP.out _ e).1; omega))
                obtain ⟨qa, qc, hqf⟩ := hq1.form
                subst hqf
                have hq1l := hq1.lt
                have HQ1 := Lib.hid hq1
                have v4 := HU14.out.c4
                have vf := HU14.out.f4
                have vl := HU14.out.lt
                have HQL := Lib.hid hq1l
                clear hq1 hg1 y0 y1 y2 yf u4' hq1l
                go_wp2_with fail
                go_roundw
                case rel =>
                  have SE := (Save.refl (fun g => g = U) w14).set ⟨U, 4, none⟩ (.slice qa (xs.length + 1) qc) (fun _ => rfl)
                  refine ⟨xs.length + 1, xs ++ [⟨op, av, (bv : Int)⟩], t2, .slice qa (xs.length + 1) qc, by go_num, by omega, ?_, by simp, ?_, HS14.out.save SE (fun e => by omega) (fun g _ e => .inr e), HU14.out.set _, ?_⟩
                  · rw [HEQ.out, hd1]; exact Pl.glue_step (Pl.rdIns_ok HKN.out HAT2.out (Pl.rdB_two HTW.out bv t2))
                  · intro y hy
                    rcases List.mem_append.1 hy with hy | hy
                    · exact HXW.out y hy
                    · simp at hy; subst hy; exact ⟨by simpa using hop, by show _ ≤ av; omega, by show av ≤ _; omega, by show _ ≤ (bv : Int); omega, by show (bv : Int) ≤ _; omega⟩
                  · rw [List.length_append]
                    exact HQ1.out.save SE (fun g hg e => by have := (HQL.out g hg).1; omega)
                case measure => simp [RowKit.intOf]; omega
        · have hkb : Pl.knownB op = false := by simpa using hkn
          have HDIE := Lib.hid (show Pl.rdMany (Pl.rdIns Pl.knownB) N r = none by rw [HEQ.out]; exact Pl.glue_stop (Pl.rdIns_bad hkb))
          have OF := Lib.hid (of_none op (fun h => hkn (Pl.knownB_iff.2 h)) hop)
          unfold shapeZ at OF
          obtain ⟨wk, hwk⟩ : ∃ z, z = wr := ⟨wr, rfl⟩
          subst hwk
          clear hkn hkb
          go_wp2_with (first
            | (go_at_call 47; refine (nextR (by exact HS.out) (by exact .inl rfl)).mono ?_; rintro e w9 (⟨b, t', hl', rfl, hr, hbt⟩ | ⟨hl', rfl, rfl⟩) <;> cases hl'
               have HS9 := Lib.hid hr
               clear hr hbt)
            | (go_at_call 35; refine (OF.out _).mono ?_; rintro e w11 ⟨rfl, hb11⟩
               have HS11 := Lib.hid ((HS9.out.alloc (.cells #[.int .u8 op, .int .i64 0, .int .i64 0] 61)).save (Save.none_below hb11) (fun f => f) (fun _ _ f => f.elim))
               clear hb11))
          exact ⟨rfl, .inr ⟨HDIE.out, rfl, (HW6.out.trans HS11.out.s (fun j hj h => h.elim id (fun e => by omega))).alloc _⟩⟩
    · have hltI : (N : Int) ≤ (xs.length : Int) := by omega
      have hke : N - xs.length = 0 := by omega
      rw [hke, Pl.glue_done] at HEQ
      obtain ⟨c0, c1, c2, c3, c4, _, _, _, _, _, _⟩ := HU.out
      obtain ⟨r0, r1, r2, r3, r4, f0, f1, f2, f3, f4, _⟩ := HR6.out.save HS.out.s (show ¬ (w.heap.size = P ∨ w.heap.size = U) by omega)
      obtain ⟨qa, qc, hq⟩ := HO.out.form
      rw [hq] at c4 HU HO
      have hRl : w.heap.size < wr.heap.size := by omega
      clear hke
      go_wp2_with fail
      refine bodyPost_ret (v := .agg #[.int .i64 a, .int .i64 c, .int .i64 o, .int .i64 s, .slice qa xs.length qc]) (by simp [results, Tryz.results48, go_sem, r0, r1, r2, r3, r4]) rfl ?_
      have HE2 := ((((((Save.refl (fun j => j = w.heap.size) wr).set ⟨w.heap.size, 0, none⟩ (.int .i64 a) (fun _ => rfl)).set ⟨w.heap.size, 1, none⟩ (.int .i64 c) (fun _ => rfl)).set ⟨w.heap.size, 2, none⟩ (.int .i64 o) (fun _ => rfl)).set ⟨w.heap.size, 3, none⟩ (.int .i64 s) (fun _ => rfl)).set ⟨w.heap.size, 4, none⟩ (.slice qa xs.length qc) (fun _ => rfl))
      refine .inl ⟨xs, t, .slice qa xs.length qc, HEQ.out, rfl, ?_, ?_⟩
      · exact (HS.out.lift HW6.out hPw (fun j hj h => h.elim id (fun e => by omega))).save (T := fun j => j = w.heap.size) HE2 (show ¬ P = w.heap.size by omega) (fun j hj (e : j = w.heap.size) => by omega)
      · exact ((InssOf.of_owns HO.out HXW.out (by omega)).save HE2 (fun j _ hj e => by omega)).mono (Q' := fun j => w.heap.size ≤ j) (fun j _ (hj : w6.heap.size ≤ j) => by omega)
theorem unit_any {w : World} {P : Nat} {l : List Nat} (h : RS (fun k => k = P) w w P l) :
    Calls Tryz.prog 48 #[.pointer (some ⟨P, 0, none⟩)] w fun e w' =>
      (∃ u r v, Pl.rdUnt Pl.knownB l = some (u, r) ∧ e = .returned (.agg #[.int .i64 u.args, .int .i64 u.copied, .int .i64 u.locals, .int .i64 u.stack, v]) ∧ RS (fun k => k = P) w w' P r ∧ InssOf (fun k => w.heap.size ≤ k) w' u.code v ∧ Pl.UntW u) ∨
      (Pl.rdUnt Pl.knownB l = none ∧ e = .panicked shortP ∧ Save (fun k => k = P) w w') := by
  by_cases hl : l.length < 6
  · exact (unit_few h hl).mono fun e w' ⟨h1, h2⟩ => .inr ⟨Pl.rdUnt_few hl, h1, h2⟩
  · obtain ⟨a, c, o, s, m, n, r, rfl⟩ : ∃ a c o s m n r, l = a :: c :: o :: s :: m :: n :: r := by
      rcases l with _ | ⟨a, _ | ⟨c, _ | ⟨o, _ | ⟨s, _ | ⟨m, _ | ⟨n, r⟩⟩⟩⟩⟩⟩
      rotate_left 6
      · exact ⟨a, c, o, s, m, n, r, rfl⟩
      all_goals exact absurd (by simp) hl
    have ha := h.lt a (by simp)
    have hc := h.lt c (by simp)
    have ho := h.lt o (by simp)
    have hs := h.lt s (by simp)
    refine (unit_six (m + 256 * n) rfl h).mono ?_
    rintro e w' (⟨xs, r1, v, h1, h2, h3, h4⟩ | ⟨h1, h2, h3⟩)
    · exact .inl ⟨_, r1, v, Pl.rdUnt_some h1, h2, h3, h4, ⟨by show _ ≤ (a : Int); omega, by show (a : Int) ≤ _; omega, by show _ ≤ (c : Int); omega, by show (c : Int) ≤ _; omega, by show _ ≤ (o : Int); omega, by show (o : Int) ≤ _; omega, by show _ ≤ (s : Int); omega, by show (s : Int) ≤ _; omega⟩⟩
    · exact .inr ⟨Pl.rdUnt_none h1, h2, h3⟩
end Go.Proofs.YtoklnpoacckbfaaGreatDoor
