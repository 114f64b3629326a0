/- 'ownFiles' of lists that are their owners' answers true. -/
import Derived.Test.YtidflgagcamdpaaT
import Derived.Deep.RegionHeld3
namespace Go.Proofs.Ytidflgagcamdpaa
open Go.RowKit Go.Lib
def ak (i k : Nat) : Value := .string (bs (markOf ((-1 - (i : Int)) * 1000 - k)))
def AA (i : Nat) : Nat → List Value
  | 0 => []
  | k + 1 => AA i k ++ [ak i k, .string ⟨#[]⟩]
theorem AA_len (i : Nat) : ∀ k, (AA i k).length = k * 2
  | 0 => rfl
  | k + 1 => by simp [AA, AA_len i k]; omega
theorem AA_at (i : Nat) : ∀ k t, t < k → (AA i k)[t * 2]? = some (ak i t) ∧ (AA i k)[t * 2 + 1]? = some (.string ⟨#[]⟩)
  | 0, t, h => by omega
  | k + 1, t, h => by
    have hl := AA_len i k
    simp only [AA]
    by_cases e : t = k
    · subst e
      rw [List.getElem?_append_right (by omega), List.getElem?_append_right (by omega), hl]
      simp
    · have ih := AA_at i k t (by omega)
      rw [List.getElem?_append_left (by omega), List.getElem?_append_left (by omega)]
      exact ih
def NN (n : Nat → Nat) (i j : Nat) : Nat := if j < i then n j + 16 else n j
def RR (Y : Nat → List Value) (i j : Nat) : List Value := if j < i then Y j ++ AA j 16 else Y j
theorem info42 : (Try.prog.info? 42).map (fun i => (i.zero, i.size, i.bytes)) = some (some (.slice none 0 0), 1, 24) := by kernel_rfl
theorem below_step {w0 W w' : World} (h : Below w0.heap.size w0 W) (b : Below W.heap.size W w') : Below w0.heap.size w0 w' := h.trans (b.mono h.size)
section
variable {b : Nat} {O : Obj} {w w1 : World} {B G m : Nat} {v : Nat → Value} {Y : Nat → List Value} {lg : Value} {r : Nat → Value} {n : Nat → Nat}
/-- What is read at last. -/
theorem final_cells (h : L2 b O w B G m v Y lg m r (NN n m) (RR Y m)) (hb : Below w.heap.size w w1) {p k g cap g2 cap2 lb cz : Nat} (hp : p < m) (hk : k < n p)
    (hY : ∀ q, q < n p → (Y p)[q * 2]? = some (mk p q) ∧ (Y p)[q * 2 + 1]? = some (.string ⟨#[]⟩)) (hv : v p = .slice (some ⟨g, 0, none⟩) (n p) cap) (hr : r p = .slice (some ⟨g2, 0, none⟩) (n p + 16) cap2) (hl : lg = .slice (some ⟨lb, 0, none⟩) m cz) :
    w1.cell? ⟨G, p, none⟩ = some (.slice (some ⟨g, 0, none⟩) (n p) cap) ∧ w1.cell? ⟨g, k * 2, none⟩ = some (.string (bs (markOf ((p : Int) * 1000 + k)))) ∧ w1.cell? ⟨g, k * 2 + 1, none⟩ = some (.string ⟨#[]⟩) ∧
    w1.cell? ⟨lb, p, none⟩ = some (.slice (some ⟨g2, 0, none⟩) (n p + 16) cap2) ∧ w1.cell? ⟨g2, k * 2, none⟩ = some (.string (bs (markOf ((p : Int) * 1000 + k)))) ∧ w1.cell? ⟨g2, k * 2 + 1, none⟩ = some (.string ⟨#[]⟩) := by
  have h1 := h.below hb
  obtain ⟨y1, y2⟩ := hY k hk
  have hown := h1.own p hp
  have hRR : RR Y m p = Y p ++ AA p 16 := by simp [RR, hp]
  have z1 : (Y p ++ AA p 16)[k * 2]? = some (mk p k) := by rw [List.getElem?_append_left (List.getElem?_eq_some_iff.1 y1).1]; exact y1
  have z2 : (Y p ++ AA p 16)[k * 2 + 1]? = some (.string ⟨#[]⟩) := by rw [List.getElem?_append_left (List.getElem?_eq_some_iff.1 y2).1]; exact y2
  rw [hRR] at hown
  refine ⟨by rw [h1.at_ p hp, hv], h1.reads p hp g _ _ hv _ _ y1, h1.reads p hp g _ _ hv _ _ y2, ?_, hown.reads g2 _ _ hr _ _ z1, hown.reads g2 _ _ hr _ _ z2⟩
  have := h1.lgo.reads lb _ _ hl p (r p) (by simp [hp])
  rw [this, hr]
theorem final_behind (h : L2 b O w B G m v Y lg m r (NN n m) (RR Y m)) (hb : Below w.heap.size w w1) {p k g2 cap2 lb cz : Nat} (hp : p < m) (hk : k < 16) (hYl : (Y p).length = n p * 2)
    (hr : r p = .slice (some ⟨g2, 0, none⟩) (n p + 16) cap2) (hl : lg = .slice (some ⟨lb, 0, none⟩) m cz) :
    w1.cell? ⟨lb, p, none⟩ = some (.slice (some ⟨g2, 0, none⟩) (n p + 16) cap2) ∧ w1.cell? ⟨g2, (n p + k) * 2, none⟩ = some (.string (bs (markOf ((-1 - (p : Int)) * 1000 - k)))) ∧ w1.cell? ⟨g2, (n p + k) * 2 + 1, none⟩ = some (.string ⟨#[]⟩) := by
  have h1 := h.below hb
  obtain ⟨y1, y2⟩ := AA_at p 16 k hk
  have hown := h1.own p hp
  have hRR : RR Y m p = Y p ++ AA p 16 := by simp [RR, hp]
  have z1 : (Y p ++ AA p 16)[(n p + k) * 2]? = some (ak p k) := by
    rw [List.getElem?_append_right (by omega), hYl, show (n p + k) * 2 - n p * 2 = k * 2 by omega]; exact y1
  have z2 : (Y p ++ AA p 16)[(n p + k) * 2 + 1]? = some (.string ⟨#[]⟩) := by
    rw [List.getElem?_append_right (by omega), hYl, show (n p + k) * 2 + 1 - n p * 2 = k * 2 + 1 by omega]; exact y2
  rw [hRR] at hown
  refine ⟨?_, hown.reads g2 _ _ hr _ _ z1, hown.reads g2 _ _ hr _ _ z2⟩
  have := h1.lgo.reads lb _ _ hl p (r p) (by simp [hp])
  rw [this, hr]
/-- The forms of the new lists. -/
theorem final_form {al : Option Addr} {cl p : Nat} (h : L2 b O w B G m v Y (.slice al m cl) m r (NN n m) (RR Y m)) (hp : p < m) :
    ∃ g2 cap2 lb, r p = .slice (some ⟨g2, 0, none⟩) (n p + 16) cap2 ∧ al = some ⟨lb, 0, none⟩ := by
  have hN : NN n m p = n p + 16 := by simp [NN, hp]
  obtain ⟨g2, cap2, h2, _⟩ := (h.own p hp).some_of (by omega)
  rw [hN] at h2
  obtain ⟨lb, cz, h3, _⟩ := h.lgo.some_of (by omega)
  injection h3 with h3
  exact ⟨g2, cap2, lb, h2, h3⟩
end
set_option maxRecDepth 100000 in
set_option maxHeartbeats 4000000 in
theorem own1 (b : Nat) (O : Obj) (w : World) (B G m cl : Nat) (v : Nat → Value) (n : Nat → Nat) (X : Nat → List Value) (h : LL b O w B G m v n X) (hm : m ≤ 16) (hn : ∀ i, i < m → n i ≤ 33554431) (hB : B ≤ w.heap.size) :
    Calls Try.prog 40 #[.slice (some ⟨G, 0, none⟩) m cl] w fun e w' => e = .returned (.bool true) ∧ Below B w w' ∧ w'.heap[b]? = some O := by
  have HH := Lib.hid h
  have HN := Lib.hid hn
  clear h hn
  go_enter Try.func40, Try.ntmps40
  go_wp2
  go_loopw [3] (fun i wr => ∃ k : Nat, k ≤ m ∧ i = .int .i64 k ∧ LL b O wr B G m v n (fun j => MM (X j) (mk j) (cnt n k 0 j)) ∧ Below B w wr ∧ B ≤ wr.heap.size) (fun i _ => m - (intOf i).toNat)
  case atStart => exact ⟨0, Nat.zero_le _, rfl, HH.out.congr (fun i _ => by simp [cnt, MM]), Below.refl _ _, hB⟩
  case round =>
    obtain ⟨i, hi, rfl, hL, hb, hBr⟩ := hrel
    have HL := Lib.hid hL
    have HB := Lib.hid hb
    clear hL hb
    obtain ⟨wo, rfl⟩ : ∃ wo : World, wo = wr := ⟨_, rfl⟩
    by_cases hlt : i < m
    · go_wp2
      go_loopw [4] (fun k wr => ∃ c : Nat, c ≤ n i ∧ k = .int .i64 c ∧ LL b O wr B G m v n (fun j => MM (X j) (mk j) (cnt n i c j)) ∧ Below B w wr ∧ B ≤ wr.heap.size) (fun k _ => n i - (intOf k).toNat)
      case atStart => exact ⟨0, Nat.zero_le _, rfl, HL.out, HB.out, hBr⟩
      case round =>
        obtain ⟨k, hk, rfl, hL, hb, hBr2⟩ := hrel
        have hle := HN.out i hlt
        obtain ⟨ai, ci, hvi⟩ := (hL.own i hlt).form
        have hcell := hL.at_ i hlt
        rw [hvi] at hcell
        have HL2 := Lib.hid hL
        have HB2 := Lib.hid hb
        have HV := Lib.hid hvi
        have hGl := hL.lt
        clear hL hb hvi
        have hii : (i : Int) < (m : Int) := by omega
        by_cases hkl : k < n i
        · obtain ⟨g, cap, hsl, hg1, hg2, hg3⟩ := (HL2.out.own i hlt).some_of (by omega)
          have hsl2 := hsl.symm.trans HV.out
          injection hsl2 with e1 _ e2
          subst e1 e2
          have HSL := Lib.hid hsl
          clear hsl
          have x1 : IntKind.i64.wrap ((i : Int) * 1000) = (i : Int) * 1000 := IntWalk.i64_in _ (by omega)
          have x2 : IntKind.i64.wrap ((i : Int) * 1000 + k) = (i : Int) * 1000 + k := IntWalk.i64_in _ (by omega)
          have hki : (k : Int) < (n i : Int) := by omega
          go_wp2_with fail
          go_region_with (go_at_call 44; refine (mark_any _ _ (by omega) (by omega)).mono ?_; rintro e w1 ⟨rfl, b1⟩; obtain ⟨o0, o1, q0, q1, q2, q3, q4⟩ := LL.slot (HL2.out.below ((Below.refl _ wr).drew.trans b1)) hlt HSL.out hkl)
          all_goals
            have HB4 := Lib.hid (show Below wr.heap.size wr w1 from (Below.refl _ wr).drew.trans b1)
            have hs4 := b1.size
            clear b1
            go_wp2_with fail
            go_roundw
            case rel =>
              refine ⟨k + 1, by omega, by go_num, ?_, ?_, ?_⟩
              · exact ((HL2.out.below HB4.out).marked hlt HSL.out _ _).congr (fun j _ => cnt_step X mk n i k j)
              · exact ((HB2.out.trans (HB4.out.mono hBr2)).setCell hg1 _).setCell hg1 _
              · have := HB4.out.size
                simp [World.setCell]; omega
            case measure => simp [intOf]; omega
        · obtain rfl : k = n i := by omega
          go_wp2_with fail
          go_roundw
          case rel => exact ⟨i + 1, by omega, by go_num, HL2.out.congr (fun j _ => by rw [cnt_next]), HB2.out, hBr2⟩
          case measure => simp [intOf]; omega
    · obtain rfl : i = m := by omega
      have HL1 := Lib.hid (HL.out.congr (Y := fun j => MM (X j) (mk j) (n j)) (fun j hj => by simp [cnt, hj]))
      have HLEN : Hid (∀ j, j < i → (MM (X j) (mk j) (n j)).length = n j * 2) := fun j hj => (HL1.out.own j hj).1
      have HYA := Lib.hid (fun j (hj : j < i) => MM_at (X j) (mk j) (n j) (by have := HLEN.out j hj; rw [MM_len] at this; omega))
      generalize hY : (fun j => MM (X j) (mk j) (n j)) = Y at HL1
      have HY2 : Hid (∀ j, MM (X j) (mk j) (n j) = Y j) := fun j => by rw [← hY]
      clear hY HL
      obtain ⟨i0, hi0, hz0, hz1, hz2⟩ := info_parts info60
      obtain ⟨i1, hi1, hy0, hy1, hy2⟩ := info_parts info42
      go_wp2
      go_loopw [5, 6] (fun lg i2 wr => ∃ (t : Nat) (r : Nat → Value), t ≤ i ∧ i2 = .int .i64 t ∧ L2 b O wr B G i v Y lg t r (NN n t) (RR Y t) ∧ (∀ j, t ≤ j → r j = v j) ∧ Below B w wr ∧ B ≤ wr.heap.size) (fun _ i2 _ => i - (intOf i2).toNat)
      case atStart => exact ⟨0, v, Nat.zero_le _, rfl, (L2.start HL1.out).congr rfl (by funext j; simp [NN]) (by funext j; simp [RR]), fun _ _ => rfl, HB.out, hBr⟩
      case round =>
        obtain ⟨t, r, ht, rfl, hL, hrv, hb, hBr2⟩ := hrel
        obtain ⟨al, cl2, rfl⟩ := hL.lgo.form
        have HL2 := Lib.hid hL
        have HRV := Lib.hid hrv
        have HB2 := Lib.hid hb
        clear hL hrv hb
        obtain ⟨wo2, rfl⟩ : ∃ wo2 : World, wo2 = wr := ⟨_, rfl⟩
        have htm : t ≤ 16 := by omega
        by_cases htl : t < i
        · have hle := HN.out t htl
          obtain ⟨ai, ci, hvi⟩ := (HL2.out.own t htl).form
          have hrt : r t = v t := HRV.out t (Nat.le_refl _)
          have hNt : NN n t t = n t := by simp [NN]
          rw [hNt, hrt] at hvi
          have hcell := HL2.out.at_ t htl
          rw [hvi] at hcell
          have hti : (t : Int) < (i : Int) := by omega
          have HV := Lib.hid hvi
          have HRT := Lib.hid hrt
          clear hvi hrt hNt
          go_wp2_with fail
          go_loopw [7, 8] (fun x k2 wr => ∃ (k : Nat) (r2 : Nat → Value), k ≤ 16 ∧ k2 = .int .i64 k ∧ x = r2 t ∧ L2 b O wr B G i v Y (.slice al t cl2) t r2 (fun j => if j = t then n t + k else NN n t j) (fun j => if j = t then Y t ++ AA t k else RR Y t j) ∧ (∀ j, t < j → r2 j = v j) ∧ Below B w wr ∧ B ≤ wr.heap.size) (fun _ k2 _ => 16 - (intOf k2).toNat)
          case atStart => exact ⟨0, r, Nat.zero_le _, rfl, by rw [HRT.out, HV.out], HL2.out.congr rfl (by funext j; by_cases e : j = t <;> simp [e, NN]) (by funext j; by_cases e : j = t <;> simp [e, RR, AA]), fun j hj => HRV.out j (by omega), HB2.out, hBr2⟩
          case round =>
            obtain ⟨k, r2, hk, rfl, hx, hL3, hrv3, hb3, hBr3⟩ := hrel
            subst hx
            obtain ⟨a3, c3, hf3⟩ := (hL3.own t htl).form
            simp only [if_true] at hf3
            have HO3 := Lib.hid (hL3.own t htl)
            have HF3 := Lib.hid hf3
            have HL3 := Lib.hid hL3
            have HRV3 := Lib.hid hrv3
            have HB3 := Lib.hid hb3
            rw [hf3]
            clear hL3 hrv3 hb3 hf3
            by_cases hk16 : k < 16
            · go_wp2_with fail
              refine (mark_any _ _ (by omega) (by omega)).mono ?_
              rintro e w4 ⟨rfl, b4⟩
              have hs4 : B ≤ w4.heap.size := Nat.le_trans hBr3 b4.size
              have HL4 := Lib.hid (HL3.out.below b4)
              have HB4 := Lib.hid (HB3.out.trans (b4.mono hBr3))
              have ho4 : Owns w4 B 60 2 (.slice a3 (n t + k) c3) (n t + k) (Y t ++ AA t k) := by
                have h := HL4.out.own t htl
                simp only [if_true] at h
                rw [HF3.out] at h; exact h
              have HO4 := Lib.hid ho4
              clear b4 ho4
              go_wp2_with (at_builtin; refine wpList_append_owns_reads rfl (.tmp 54) (.tmp 62) 42 rfl B 60 i0 (.agg #[.string ⟨#[]⟩, .string ⟨#[]⟩]) 2 32 Try.underlying42 hi0 hz0 hz1 hz2 rfl _ _ _ rfl (HO4.out.alloc _) ⟨w4.heap.size, 0, none⟩ 1 1 [ak t k, .string ⟨#[]⟩] rfl rfl ?c1 ?c2 ?c3 ?c4 ?c5 ?_)
              case c1 => exact two_new _ _ _ _
              case c2 => intro u hu; simp at hu; rcases hu with rfl | rfl <;> rfl
              case c3 => unfold maxLen; omega
              case c4 => omega
              case c5 => simp; omega
              intro x w5 ho5 hg5 hr5
              obtain ⟨a5, c5, rfl⟩ := ho5.form
              have hs5 := hg5.1.size
              have hblw : ∀ q, (Value.slice a3 (n t + k) c3).ownBlock = some q → B ≤ q := fun q hq => (HO4.out.lt q hq).1
              have HB5 := Lib.hid (hg5.below (HB4.out.alloc hs4 _) (by simp; omega) hblw)
              have HL5 := Lib.hid (L2.put (HL4.out.below ((Below.refl _ _).alloc (Nat.le_refl _) _)) htl (Nat.le_refl t) (x := .slice a5 (n t + k + 1) c5) (k := n t + k + 1) (news := [ak t k, .string ⟨#[]⟩]) (by simp only [if_true]; rw [List.append_assoc]; exact ho5) (by rw [HF3.out]; exact hg5) (by simp only [if_true]; rw [HF3.out]; exact hr5))
              have hs5' : B ≤ w5.heap.size := by simp at hs5; omega
              clear ho5 hg5 hr5 hblw hs5
              go_wp2_with fail
              go_roundw
              case rel =>
                refine ⟨k + 1, _, by omega, by go_num, ?_, HL5.out.congr rfl ?_ ?_, ?_, HB5.out, hs5'⟩
                · simp only [if_true]
                · funext j; by_cases e : j = t <;> simp [e, Nat.add_assoc]
                · funext j; by_cases e : j = t <;> simp [e, AA]
                · intro j hj; simp only [if_neg (show ¬ j = t by omega)]; exact HRV3.out j hj
              case measure => simp [intOf]; omega
            · obtain rfl : k = 16 := by omega
              have HLG := Lib.hid HL3.out.lgo
              go_wp2_with (at_builtin; refine wpList_append_owns rfl (.tmp 64) (.tmp 66) 51 rfl B 42 i1 (.slice none 0 0) 1 24 Try.underlying51 hi1 hy0 hy1 hy2 rfl _ _ _ rfl (HLG.out.alloc _) ⟨wr.heap.size, 0, none⟩ 1 1 [.slice a3 (n t + 16) c3] rfl rfl ?d1 ?d2 ?d3 ?d4 ?d5 ?_)
              case d2 => rfl
              case d3 => unfold maxLen; omega
              case d4 => omega
              case d5 => omega
              intro x w5 ho5 hg5
              obtain ⟨a5, c5, rfl⟩ := ho5.form
              have hs5 := hg5.1.size
              have hblw : ∀ q, (Value.slice al t cl2).ownBlock = some q → B ≤ q := fun q hq => (HLG.out.lt q hq).1
              have HB5 := Lib.hid (hg5.below (HB3.out.alloc hBr3 _) (by simp; omega) hblw)
              have HL5 := Lib.hid (L2.next (HL3.out.below ((Below.refl _ _).alloc (Nat.le_refl _) _)) (x := .slice a5 (t + 1) c5) (by rw [HF3.out]; exact ho5) hg5)
              have hs5' : B ≤ w5.heap.size := by simp at hs5; omega
              clear ho5 hg5 hblw hs5
              go_wp2_with fail
              go_roundw
              case rel =>
                refine ⟨t + 1, r2, by omega, by go_num, HL5.out.congr rfl ?_ ?_, fun j hj => HRV3.out j (by omega), HB5.out, hs5'⟩
                · funext j; by_cases e : j = t
                  · subst e; simp [NN]
                  · simp only [if_neg e, NN]; by_cases f : j < t
                    · rw [if_pos f, if_pos (by omega)]
                    · rw [if_neg f, if_neg (by omega)]
                · funext j; by_cases e : j = t
                  · subst e; simp [RR]
                  · simp only [if_neg e, RR]; by_cases f : j < t
                    · rw [if_pos f, if_pos (by omega)]
                    · rw [if_neg f, if_neg (by omega)]
              case measure => simp [intOf]; omega
        · obtain rfl : t = i := by omega
          go_wp2_with fail
          go_loopw [9] (fun i3 wr => ∃ p : Nat, p ≤ t ∧ i3 = .int .i64 p ∧ Below wo2.heap.size wo2 wr ∧ Below B w wr) (fun i3 _ => t - (intOf i3).toNat)
          case atStart => exact ⟨0, Nat.zero_le _, rfl, Below.refl _ _, HB2.out⟩
          case round =>
            obtain ⟨p, hp, rfl, hb6, hb7⟩ := hrel
            have HB6 := Lib.hid hb6
            have HB7 := Lib.hid hb7
            have hs6 := hb6.size
            clear hb6 hb7
            obtain ⟨wo3, rfl⟩ : ∃ wo3 : World, wo3 = wr := ⟨_, rfl⟩
            by_cases hpt : p < t
            · have hle := HN.out p hpt
              have HL6 := Lib.hid (HL2.out.below HB6.out)
              have hcell := HL6.out.at_ p hpt
              obtain ⟨ap, cp, hvp⟩ := (HH.out.own p hpt).form
              rw [hvp] at hcell
              have HVP := Lib.hid hvp
              have hpti : (p : Int) < (t : Int) := by omega
              clear hvp
              go_wp2_with fail
              go_loopw [11] (fun k3 wr => ∃ k : Nat, k ≤ n p ∧ k3 = .int .i64 k ∧ Below wo2.heap.size wo2 wr ∧ Below B w wr) (fun k3 _ => n p - (intOf k3).toNat)
              case atStart => exact ⟨0, Nat.zero_le _, rfl, HB6.out, HB7.out⟩
              case round =>
                obtain ⟨k, hk, rfl, hb8, hb9⟩ := hrel
                have HB8 := Lib.hid hb8
                have HB9 := Lib.hid hb9
                clear hb8 hb9
                by_cases hkn : k < n p
                · obtain ⟨g2, cap2, lb, e2, rfl⟩ := final_form HL2.out hpt
                  obtain ⟨g, cap, e1, _⟩ := (HH.out.own p hpt).some_of (by omega)
                  have e1' := HVP.out.symm.trans e1
                  injection e1' with e1' _ e1''
                  subst e1' e1''
                  have HFC : Hid (∀ w1 : World, Below wo2.heap.size wo2 w1 → _) := fun w1 hb1 => final_cells HL2.out hb1 hpt hkn (fun q hq => by have h := HYA.out p hpt q hq; rw [HY2.out] at h; exact h) e1 e2 rfl
                  obtain ⟨q0, q1, q2, q3, q4, q5⟩ := HFC.out wr HB8.out
                  clear e1 e2
                  have x1 : IntKind.i64.wrap ((p : Int) * 1000) = (p : Int) * 1000 := IntWalk.i64_in _ (by omega)
                  have x2 : IntKind.i64.wrap ((p : Int) * 1000 + k) = (p : Int) * 1000 + k := IntWalk.i64_in _ (by omega)
                  have hki : (k : Int) < (n p : Int) := by omega
                  have hki2 : (k : Int) < (n p : Int) + 16 := by omega
                  go_wp2_with fail
                  go_region_held3 (fun W => W.cell? ⟨G, p, none⟩ = some (.slice (some ⟨g, 0, none⟩) (n p) cp) ∧ W.cell? ⟨g, k * 2, none⟩ = some (.string (bs (markOf ((p : Int) * 1000 + k)))) ∧ W.cell? ⟨g, k * 2 + 1, none⟩ = some (.string ⟨#[]⟩) ∧ W.cell? ⟨lb, p, none⟩ = some (.slice (some ⟨g2, 0, none⟩) (n p + 16) cap2) ∧ W.cell? ⟨g2, k * 2, none⟩ = some (.string (bs (markOf ((p : Int) * 1000 + k)))) ∧ W.cell? ⟨g2, k * 2 + 1, none⟩ = some (.string ⟨#[]⟩)) (first | exact ⟨q0, q1, q2, q3, q4, q5⟩ | (refine ⟨?_, ?_, ?_, ?_, ?_, ?_⟩ <;> assumption)) (first | (go_at_call 44; refine (mark_any _ _ (by omega) (by omega)).mono ?_; rintro e w9 ⟨rfl, b9⟩; have hn9 : Below wo2.heap.size wo2 w9 := below_step (by first | exact HB8.out.drew | assumption) b9; clear b9; obtain ⟨r0, r1, r2, r3, r4, r5⟩ := HFC.out w9 hn9))
                  go_wp2_with fail
                  go_roundw
                  case rel => exact ⟨k + 1, by omega, by go_num, by assumption, HB2.out.trans (Below.mono (by assumption) hBr2)⟩
                  case measure => simp [intOf]; omega
                · obtain rfl : k = n p := by omega
                  go_wp2_with fail
                  obtain ⟨g2, cap2, lb, e2, rfl⟩ := final_form HL2.out hpt
                  go_loopw [12] (fun k3 wr => ∃ k : Nat, k ≤ 16 ∧ k3 = .int .i64 k ∧ Below wo2.heap.size wo2 wr) (fun k3 _ => 16 - (intOf k3).toNat)
                  case atStart => exact ⟨0, by omega, rfl, HB8.out⟩
                  case round =>
                    obtain ⟨k, hk, rfl, hb10⟩ := hrel
                    have HB10 := Lib.hid hb10
                    clear hb10
                    by_cases hk16 : k < 16
                    · have hYl : (Y p).length = n p * 2 := by have h := HLEN.out p hpt; rw [HY2.out] at h; exact h
                      have HFC : Hid (∀ w1 : World, Below wo2.heap.size wo2 w1 → _) := fun w1 hb1 => final_behind HL2.out hb1 hpt hk16 hYl e2 rfl
                      have E2 := Lib.hid e2
                      obtain ⟨q0, q1, q2⟩ := HFC.out wr HB10.out
                      clear hYl e2
                      have x1 : IntKind.i64.wrap (-1 - (p : Int)) = -1 - (p : Int) := IntWalk.i64_in _ (by omega)
                      have x2 : IntKind.i64.wrap ((-1 - (p : Int)) * 1000) = (-1 - (p : Int)) * 1000 := IntWalk.i64_in _ (by omega)
                      have x3 : IntKind.i64.wrap ((-1 - (p : Int)) * 1000 - k) = (-1 - (p : Int)) * 1000 - k := IntWalk.i64_in _ (by omega)
                      have x4 : IntKind.i64.wrap ((n p : Int) + k) = (n p : Int) + k := IntWalk.i64_in _ (by omega)
                      have x5 : (0 : Int) ≤ (n p : Int) + k := by omega
                      have x6 : ((n p : Int) + k).toNat = n p + k := by omega
                      have hki : (n p : Int) + k < (n p : Int) + 16 := by omega
                      have hkn2 : n p + k < n p + 16 := by omega
                      go_wp2_with fail
                      go_region_held3 (fun W => W.cell? ⟨lb, p, none⟩ = some (.slice (some ⟨g2, 0, none⟩) (n p + 16) cap2) ∧ W.cell? ⟨g2, (n p + k) * 2, none⟩ = some (.string (bs (markOf ((-1 - (p : Int)) * 1000 - k)))) ∧ W.cell? ⟨g2, (n p + k) * 2 + 1, none⟩ = some (.string ⟨#[]⟩)) (first | exact ⟨q0, q1, q2⟩ | (refine ⟨?_, ?_, ?_⟩ <;> assumption)) (first | (go_at_call 44; refine (mark_any _ _ (by omega) (by omega)).mono ?_; rintro e w9 ⟨rfl, b9⟩; have hn9 : Below wo2.heap.size wo2 w9 := below_step (by first | exact HB10.out.drew | assumption) b9; clear b9; obtain ⟨r0, r1, r2⟩ := HFC.out w9 hn9))
                      go_wp2_with fail
                      go_roundw
                      case rel => exact ⟨k + 1, by omega, by go_num, by assumption⟩
                      case measure => simp [intOf]; omega
                    · go_wp2_with fail
                      go_roundw
                      case rel => exact ⟨p + 1, by omega, by go_num, HB10.out, HB2.out.trans (HB10.out.mono hBr2)⟩
                      case measure => simp [intOf]; omega
            · go_wp2_with fail
              go_ret
              exact ⟨rfl, HB7.out, (HL2.out.below HB6.out).bk⟩
end Go.Proofs.Ytidflgagcamdpaa
