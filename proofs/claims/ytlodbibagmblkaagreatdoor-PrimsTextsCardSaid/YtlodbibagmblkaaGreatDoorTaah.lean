/- Words as a large number: the contracts of large and Of. A number as a large one: the contracts of Of, Check and told. The contracts of Check and told. The contract of Show, of a number that is not nought. The form of a float's text: the contracts of digits and formed. Plain facts on the reading of a float's digits. -/
import Derived.Test.YtlodbibagmblkaaGreatDoorTaag
import Derived.LoopTactic
namespace Go.Proofs.YtlodbibagmblkaaGreatDoor
open Go.RowKit Go.Lib
namespace Pl
def four (x : Nat) : List UInt8 := [UInt8.ofNat x, UInt8.ofNat (x / 256), UInt8.ofNat (x / 65536), UInt8.ofNat (x / 16777216)]
def flat (xs : List Nat) : List UInt8 := xs.flatMap four
def strip (l : List UInt8) : List UInt8 := (l.reverse.dropWhile (· == 0)).reverse
theorem strip_snoc_zero (l : List UInt8) : strip (l ++ [0]) = strip l := by simp [strip]
theorem strip_snoc {l : List UInt8} {c : UInt8} (h : c ≠ 0) : strip (l ++ [c]) = l ++ [c] := by simp [strip, h]
theorem flat_snoc (l : List Nat) (x : Nat) : flat (l ++ [x]) = flat l ++ four x := by simp [flat]
theorem flat_len (l : List Nat) : (flat l).length = 4 * l.length := by
  induction l with
  | nil => rfl
  | cons a l ih =>
    have : flat (a :: l) = four a ++ flat l := by simp [flat]
    rw [this, List.length_append, ih]; simp [four]; omega
/-- The bytes of words, the lowest first. -/
def bytesOf (xs : List Nat) : List UInt8 := strip (flat (trimW xs))
end Pl
theorem bc_four {x : Nat} (h : x < 4294967296) : bc (Pl.four x) = [.int .u8 ((x : Int) % 256), .int .u8 ((x : Int) / 256 % 256), .int .u8 ((x : Int) / 65536 % 256), .int .u8 ((x : Int) / 16777216)] := by
  simp [bc, Pl.four]; omega
theorem Owns.shrink {w : World} {base g N n cap : Nat} {xs : List Value} (h : Owns w base 5 1 (.slice (some ⟨g, 0, none⟩) N cap) N xs) (hn : n ≤ N) : Owns w base 5 1 (.slice (some ⟨g, 0, none⟩) n cap) n (xs.take n) := by
  have h1 := h.1
  rw [Nat.mul_one] at h1
  refine ⟨by rw [List.length_take, h1]; omega, ?_⟩
  rcases h.2 with ⟨h2, _⟩ | ⟨g', cap', cur, fz, h2, hb, hg, hfz, hnc, hcm, hcs, ht⟩
  · cases h2
  · injection h2 with e1 e2 e3
    injection e1 with e1; injection e1 with e1
    subst e1 e3
    refine .inr ⟨g, cap, cur, fz, rfl, hb, hg, hfz, by omega, hcm, hcs, ?_⟩
    rw [Nat.mul_one] at ht ⊢
    rw [← ht, List.take_take, Nat.min_eq_left hn]
theorem two_set (wr : World) (B : Nat) (x y : Value) {v0 v1 : Value} (r0 : wr.cell? ⟨B, 0, none⟩ = some v0) (r1 : wr.cell? ⟨B, 1, none⟩ = some v1) :
    ((wr.setCell ⟨B, 0, none⟩ x).setCell ⟨B, 1, none⟩ y).cell? ⟨B, 0, none⟩ = some x ∧ ((wr.setCell ⟨B, 0, none⟩ x).setCell ⟨B, 1, none⟩ y).cell? ⟨B, 1, none⟩ = some y ∧ Below B wr ((wr.setCell ⟨B, 0, none⟩ x).setCell ⟨B, 1, none⟩ y) := by
  have n01 : (⟨B, 0, none⟩ : Addr) ≠ ⟨B, 1, none⟩ := by simp
  refine ⟨?_, ?_, Below.setCell (Below.setCell (Below.refl B wr) (p := ⟨B, 0, none⟩) (Nat.le_refl B) _) (p := ⟨B, 1, none⟩) (Nat.le_refl B) _⟩
  · rw [World.cell?_setCell_other _ _ _ _ n01.symm]; exact World.cell?_setCell_same _ _ _ r0
  · exact World.cell?_setCell_same _ _ _ (u := v1) (by rw [World.cell?_setCell_other _ _ _ _ n01]; exact r1)
/-- A large number as a value. -/
def lv (neg : Bool) (l : List UInt8) : Value := .agg #[.bool neg, .string (bs l)]
def LargeOk (w : World) (neg : Bool) (xs : List Nat) (e : Ending) (w' : World) : Prop :=
  e = .returned (lv (neg && !(Pl.bytesOf xs).isEmpty) (Pl.bytesOf xs)) ∧ Below w.heap.size w w'
set_option maxHeartbeats 2000000 in
theorem large_any (v : Value) (xs : List Nat) (neg : Bool) (w : World) (h : Rd w v xs) (hl : xs.length ≤ 10000) (hx : ∀ x ∈ xs, x < 4294967296) :
    Calls Tryz.prog 71 #[v, .bool neg] w (LargeOk w neg xs) := by
  obtain ⟨i0, hi, hz0, hz1, hz2⟩ := info_parts info5
  have H := Lib.hid (fun (w' : World) (hB : Below w.heap.size w w') => trim_any v xs w' (h.below hB) (by omega))
  have HX := Lib.hid hx
  clear hx h
  go_enter Tryz.func71, Tryz.ntmps71
  go_wp2_with fail
  refine (H.out _ ((Below.refl _ _).alloc (Nat.le_refl _) _)).mono ?_
  rintro e w' ⟨v1, rfl, hrd, rfl⟩
  have hyl : (Pl.trimW xs).length ≤ 10000 := by
    have : (xs.reverse.dropWhile (· == 0)).length ≤ xs.reverse.length := (List.dropWhile_suffix _).length_le
    unfold Pl.trimW
    simp at this ⊢
    omega
  obtain ⟨ys, hys⟩ : ∃ ys, Pl.trimW xs = ys := ⟨_, rfl⟩
  rw [hys] at hrd hyl
  have HYS := Lib.hid hys
  have HRD := Lib.hid hrd
  obtain ⟨va, vc, hv1⟩ : ∃ va vc, v1 = .slice va ys.length vc := by
    rcases hrd with ⟨h1, h2⟩ | ⟨b, cap, h1, _⟩
    · exact ⟨none, 0, by rw [h1, h2]; rfl⟩
    · exact ⟨_, _, h1⟩
  subst hv1
  clear hys hrd H
  obtain ⟨n, hn⟩ : ∃ n, ys.length = n := ⟨_, rfl⟩
  rw [hn] at hyl HRD ⊢
  have HN := Lib.hid hn
  clear hn
  go_wp2_with (at_make; refine wpList_make_own _ rfl _ _ 85 rfl (w.heap.size + 1) 5 i0 (.int .u8 0) 1 Tryz.underlying85 hi hz0 hz1 .i64 .i64 _ (4 * n) rfl rfl ?c0 ?c1 ?c2 ?c3 ?_)
  case c0 => omega
  case c1 => rw [hz2]; omega
  case c2 => unfold maxLen; omega
  case c3 => simp
  intro w1 ho1 hg1
  obtain ⟨W0, hW0⟩ : ∃ W0, w.alloc (.cells #[.bool false, .string ⟨#[]⟩] 43) = W0 := ⟨_, rfl⟩
  have hW1 : W0.heap.size = w.heap.size + 1 := by rw [← hW0]; simp
  have hW2 : W0.heap[w.heap.size]? = some (.cells #[.bool false, .string ⟨#[]⟩] 43) := by rw [← hW0]; exact heap_alloc_at _ _
  have hW3 : Below w.heap.size w W0 := by rw [← hW0]; exact (Below.refl _ _).alloc (Nat.le_refl _) _
  rw [hW0] at HRD hg1
  have HB1 := Lib.hid (show Below (w.heap.size + 1) W0 w1 from (Below.refl _ _).grown hg1 (by omega) (fun k hk => by cases hk))
  have hs1 := hg1.size
  rw [hW1] at hs1
  have HO1 := Lib.hid (Owns.of_row ho1)
  have HW2 := Lib.hid hW2
  have HW3 := Lib.hid hW3
  have HW1 := Lib.hid hW1
  clear ho1 hg1 hW2 hW3 hW1 hi hz0 hz1 hz2 hW0
  go_wp2_with fail
  go_loopw [5, 16] (fun s i wr => ∃ k : Nat, k ≤ n ∧ i = .int .i64 k ∧ Owns wr (w.heap.size + 1) 5 1 s (4 * k) (bc (Pl.flat (ys.take k))) ∧ Below (w.heap.size + 1) W0 wr ∧ w.heap.size + 1 ≤ wr.heap.size) (fun _ i _ => n - (RowKit.intOf i).toNat)
  case atStart => exact ⟨0, Nat.zero_le _, rfl, HO1.out, HB1.out, hs1⟩
  case round =>
    obtain ⟨k, hk, rfl, ho, hb, hs⟩ := hrel
    have HO := Lib.hid ho
    have HB := Lib.hid hb
    obtain ⟨a1, c1, rfl⟩ := ho.form
    clear ho hb
    by_cases hlt : k < n
    · have hk2 : k < ys.length := by rw [HN.out]; exact hlt
      have hyk : ys[k] < 4294967296 := by
        have hm : ys[k] ∈ xs := by
          have h1 : ys[k] ∈ ys := List.getElem_mem _
          have h2 : ys <+: xs := by
            rw [← HYS.out]; unfold Pl.trimW
            have := List.dropWhile_suffix (fun x : Nat => x == 0) (l := xs.reverse)
            rw [← List.reverse_suffix]; simpa using this
          exact h2.mem h1
        exact HX.out _ hm
      have HT := Lib.hid (show Pl.flat (ys.take (k + 1)) = Pl.flat (ys.take k) ++ Pl.four ys[k] by rw [List.take_succ_eq_append_getElem hk2, Pl.flat_snoc])
      obtain ⟨b, hva, hcell⟩ : ∃ b, va = some ⟨b, 0, none⟩ ∧ wr.cell? ⟨b, k, none⟩ = some (.int .u32 (ys[k] : Nat)) := by
        rcases HRD.out with ⟨h1, h2⟩ | ⟨b, cap, h1, h2, h3, h4⟩
        · rw [h2] at hk2; simp at hk2
        · injection h1 with e1 _ _
          refine ⟨b, e1, ?_⟩
          rw [HB.out.cell (p := ⟨b, k, none⟩) (by have := HW1.out; show b < _; omega)]
          exact h4 k _ (List.getElem?_eq_getElem hk2)
      subst hva
      generalize ys[k] = x at hyk hcell HT
      go_wp2_with (at_builtin; refine wpList_app rfl (.tmp 20) (.tmp 32) rfl (w.heap.size + 1) _ _ _ rfl HO.out [.int .u8 ((x : Int) % 256), .int .u8 ((x : Int) / 256 % 256), .int .u8 ((x : Int) / 65536 % 256), .int .u8 ((x : Int) / 16777216)] rfl (ones (news := [(x : Int) % 256, (x : Int) / 256 % 256, (x : Int) / 65536 % 256, (x : Int) / 16777216])) (by simp only [List.length_cons, List.length_nil]; omega) (by omega) ?_)
      intro v2 w2 ho2 hg2
      have HO2 := Lib.hid ho2
      have HG2 := Lib.hid hg2
      obtain ⟨a2, c2, rfl⟩ := ho2.form
      clear ho2 hg2
      go_wp2_with fail
      go_roundw
      case rel =>
        refine ⟨k + 1, by omega, by go_num, ?_, HG2.out.below HB.out (by omega) (fun g hg => (HO.out.lt g hg).1), Nat.le_trans hs HG2.out.1.size⟩
        have h2 := HO2.out
        rw [HT.out, bc_app, bc_four hyk]
        exact h2
      case measure => simp [RowKit.intOf]; omega
    · obtain rfl : k = n := by omega
      rw [List.take_of_length_le (by rw [HN.out]; exact Nat.le_refl _)] at HO
      obtain ⟨D, hD⟩ : ∃ D, Pl.flat ys = D := ⟨_, rfl⟩
      have hDl : D.length = 4 * k := by rw [← hD, Pl.flat_len, HN.out]
      have HDL := Lib.hid hDl
      rw [hD] at HO
      have HR := Lib.hid (show Pl.bytesOf xs = Pl.strip D by unfold Pl.bytesOf; rw [HYS.out, hD])
      have hres : wr.heap[w.heap.size]? = some (.cells #[.bool false, .string ⟨#[]⟩] 43) := by rw [HB.out.block _ (by omega)]; exact HW2.out
      have HRES := Lib.hid hres
      have HBW := Lib.hid (show Below w.heap.size w wr from HW3.out.trans (HB.out.mono (by omega)))
      clear hD hDl hres hlt hk
      rcases HO.out.2 with ⟨hnone, h0⟩ | ⟨g, cap, cur, fz, hv, hbase, hg, _, hnc, hcm, hcs, ht⟩
      · injection hnone with e1 e2 e3
        subst e1 e3
        have hst := run_string_of_owns (P := Tryz.prog) 85 9 Tryz.underlying85 Tryz.underlying5 Tryz.underlying9 (l := []) (Owns.nil wr 0 5 1)
        have HS := Lib.hid (show Pl.bytesOf xs = [] by rw [HR.out, show D = [] from List.eq_nil_of_length_eq_zero (by rw [HDL.out, h0])]; rfl)
        rw [h0]
        clear h0 e2
        have r0 : wr.cell? ⟨w.heap.size, 0, none⟩ = some (.bool false) := by simp [World.cell?, HRES.out]
        have r1 : wr.cell? ⟨w.heap.size, 1, none⟩ = some (.string ⟨#[]⟩) := by simp [World.cell?, HRES.out]
        have f0 : wr.frozen? ⟨w.heap.size, 0, none⟩ = false := by simp [World.frozen?, HRES.out]
        have f1 : wr.frozen? ⟨w.heap.size, 1, none⟩ = false := by simp [World.frozen?, HRES.out]
        cases neg
        · go_wp2_with fail
          refine wp_loop_rounds 1 ?_
          rw [rounds_succ]
          go_wp2_with fail
          obtain ⟨k0, k1, kB⟩ := two_set wr w.heap.size (.bool false) (.string (bs [])) r0 r1
          have kB' := HBW.out.trans kB
          refine bodyPost_ret (v := lv false []) (by simp [results, Tryz.results71, go_sem, lv, k0, k1]) rfl ⟨by rw [HS.out]; rfl, kB'⟩
        · go_wp2_with fail
          refine wp_loop_rounds 1 ?_
          rw [rounds_succ]
          go_wp2_with fail
          obtain ⟨k0, k1, kB⟩ := two_set wr w.heap.size (.bool false) (.string (bs [])) r0 r1
          have kB' := HBW.out.trans kB
          refine bodyPost_ret (v := lv false []) (by simp [results, Tryz.results71, go_sem, lv, k0, k1]) rfl ⟨by rw [HS.out]; rfl, kB'⟩
      · injection hv with e1 e2 e3
        subst e1 e3
        have HC := Lib.hid (show ∀ j (h : j < D.length), wr.cell? ⟨g, j, none⟩ = some (.int .u8 (D[j].toNat : Int)) from fun j h => by
          have := HO.out.cells (g := g) rfl j (.int .u8 (D[j].toNat : Int)) (by simp [bc, h])
          rwa [add_plain, Nat.zero_add] at this)
        clear hg ht e2 hcs
        go_wp2_with fail
        go_loop [5] (fun s => ∃ m : Nat, m ≤ 4 * k ∧ s = .slice (some ⟨g, 0, none⟩) m c1 ∧ Hid (Pl.strip (D.take m) = Pl.strip D)) (fun s => match s with | .slice _ m _ => m | _ => 0)
        case atStart => exact ⟨4 * k, Nat.le_refl _, rfl, Lib.hid (by rw [List.take_of_length_le (by rw [HDL.out]; exact Nat.le_refl _)])⟩
        case round =>
          obtain ⟨m, hm, rfl, hz⟩ := hrel
          cases m with
          | zero =>
            have hst := run_string_of_owns (P := Tryz.prog) 85 9 Tryz.underlying85 Tryz.underlying5 Tryz.underlying9 (l := []) (HO.out.shrink (n := 0) (by omega))
            have HS := Lib.hid (show Pl.bytesOf xs = [] by rw [HR.out, ← hz.out]; rfl)
            have r0 : wr.cell? ⟨w.heap.size, 0, none⟩ = some (.bool false) := by simp [World.cell?, HRES.out]
            have r1 : wr.cell? ⟨w.heap.size, 1, none⟩ = some (.string ⟨#[]⟩) := by simp [World.cell?, HRES.out]
            have f0 : wr.frozen? ⟨w.heap.size, 0, none⟩ = false := by simp [World.frozen?, HRES.out]
            have f1 : wr.frozen? ⟨w.heap.size, 1, none⟩ = false := by simp [World.frozen?, HRES.out]
            clear hz
            cases neg
            · go_wp2_with fail
              obtain ⟨k0, k1, kB⟩ := two_set wr w.heap.size (.bool false) (.string (bs [])) r0 r1
              have kB' := HBW.out.trans kB
              refine bodyPost_ret (v := lv false []) (by simp [results, Tryz.results71, go_sem, lv, k0, k1]) rfl ⟨by rw [HS.out]; rfl, kB'⟩
            · go_wp2_with fail
              obtain ⟨k0, k1, kB⟩ := two_set wr w.heap.size (.bool false) (.string (bs [])) r0 r1
              have kB' := HBW.out.trans kB
              refine bodyPost_ret (v := lv false []) (by simp [results, Tryz.results71, go_sem, lv, k0, k1]) rfl ⟨by rw [HS.out]; rfl, kB'⟩
          | succ m =>
            have hm2 : m < D.length := by rw [HDL.out]; omega
            have hc := HC.out m hm2
            have HT := Lib.hid (show D.take (m + 1) = D.take m ++ [D[m]] from List.take_succ_eq_append_getElem hm2)
            generalize D[m] = c at hc HT
            by_cases h0 : c = 0
            · have b0 : ((c.toNat : Int) == 0) = true := by rw [h0]; rfl
              have HS := Lib.hid (show Pl.strip (D.take m) = Pl.strip D by rw [← hz.out, HT.out, h0, Pl.strip_snoc_zero])
              clear h0 HT hz
              go_wp2_with fail
              go_round
              case rel => exact ⟨m, by omega, rfl, HS⟩
              case measure => simp
            · have b0 : ((c.toNat : Int) == 0) = false := by
                rw [beq_eq_false_iff_ne]; intro h; apply h0; apply UInt8.toNat_inj.1; rw [show (0 : UInt8).toNat = 0 from rfl]; omega
              have HS := Lib.hid (show Pl.strip D = D.take (m + 1) by rw [← hz.out, HT.out, Pl.strip_snoc h0])
              have hmt : (D.take (m + 1)).length = m + 1 := by rw [List.length_take, HDL.out]; omega
              have hst := run_string_of_owns (P := Tryz.prog) 85 9 Tryz.underlying85 Tryz.underlying5 Tryz.underlying9 (l := D.take (m + 1)) (by have := HO.out.shrink (n := m + 1) (by omega); simpa [bc, List.map_take] using this)
              obtain ⟨E, hE⟩ : ∃ E, D.take (m + 1) = E := ⟨_, rfl⟩
              rw [hE] at HS hst hmt
              have HS := Lib.hid (HR.out.trans HS.out)
              have hne : E.isEmpty = false := by cases E with | nil => simp at hmt | cons a l => rfl
              clear h0 HT hz hE
              have r0 : wr.cell? ⟨w.heap.size, 0, none⟩ = some (.bool false) := by simp [World.cell?, HRES.out]
              have r1 : wr.cell? ⟨w.heap.size, 1, none⟩ = some (.string ⟨#[]⟩) := by simp [World.cell?, HRES.out]
              have f0 : wr.frozen? ⟨w.heap.size, 0, none⟩ = false := by simp [World.frozen?, HRES.out]
              have f1 : wr.frozen? ⟨w.heap.size, 1, none⟩ = false := by simp [World.frozen?, HRES.out]
              cases neg
              · go_wp2_with fail
                obtain ⟨k0, k1, kB⟩ := two_set wr w.heap.size (.bool false) (.string (bs E)) r0 r1
                have kB' := HBW.out.trans kB
                refine bodyPost_ret (v := lv false E) (by simp [results, Tryz.results71, go_sem, lv, k0, k1]) rfl ⟨by rw [HS.out]; rfl, kB'⟩
              · go_wp2_with fail
                obtain ⟨k0, k1, kB⟩ := two_set wr w.heap.size (.bool true) (.string (bs E)) r0 r1
                have kB' := HBW.out.trans kB
                refine bodyPost_ret (v := lv true E) (by simp [results, Tryz.results71, go_sem, lv, k0, k1]) rfl ⟨by rw [HS.out, hne]; rfl, kB'⟩
end Go.Proofs.YtlodbibagmblkaaGreatDoor
namespace Go.Proofs.YtlodbibagmblkaaGreatDoor
open Go.RowKit Go.Lib
/-- The value of the large number of an integer of 64 bits. -/
def ofv (n : Int) : Value := lv (decide (n < 0) && !(Pl.bytesOf [n.natAbs % 4294967296, n.natAbs / 4294967296]).isEmpty) (Pl.bytesOf [n.natAbs % 4294967296, n.natAbs / 4294967296])
theorem rd_two (w : World) (x y : Nat) (T : TypeId) : Rd (w.alloc (.cells #[.int .u32 (x : Int), .int .u32 (y : Int)] T)) (.slice (some ⟨w.heap.size, 0, none⟩) 2 2) [x, y] := by
  refine .inr ⟨w.heap.size, 2, rfl, Nat.le_refl _, by simp, fun j z hz => ?_⟩
  match j, hz with
  | 0, hz => simp at hz; subst hz; simp
  | 1, hz => simp at hz; subst hz; simp
set_option maxHeartbeats 1000000 in
theorem ofn_any (n : Int) (w : World) (h1 : -9223372036854775808 ≤ n) (h2 : n ≤ 9223372036854775807) :
    Calls Tryz.prog 57 #[.int .i64 n] w fun e w' => e = .returned (ofv n) ∧ Below w.heap.size w w' := by
  obtain ⟨a, ha⟩ : ∃ a : Nat, n.natAbs = a := ⟨_, rfl⟩
  have hab : a ≤ 9223372036854775808 := by omega
  obtain ⟨x, hx⟩ : ∃ x : Nat, (a : Int) % 4294967296 = x := ⟨a % 4294967296, by omega⟩
  obtain ⟨y, hy⟩ : ∃ y : Nat, (a : Int) / 4294967296 = y := ⟨a / 4294967296, by omega⟩
  obtain ⟨b, hb⟩ : ∃ b : Bool, decide (n < 0) = b := ⟨_, rfl⟩
  have HV := Lib.hid (show ofv n = lv (b && !(Pl.bytesOf [x, y]).isEmpty) (Pl.bytesOf [x, y]) by unfold ofv; rw [ha, hb, show a % 4294967296 = x by omega, show a / 4294967296 = y by omega])
  have hx2 : x < 4294967296 := by omega
  have hy2 : y < 4294967296 := by omega
  have HL := Lib.hid (fun (W : World) => large_any _ [x, y] b _ (rd_two W x y 103) (by simp) (by intro z hz; simp at hz; omega))
  obtain ⟨z, hz⟩ : ∃ z, IntKind.u64.wrap n = z := ⟨_, rfl⟩
  have hw : n < 0 → IntKind.u64.wrap (-z) = (a : Int) := fun hn => by rw [← hz, IntKind.wrap_u64, IntKind.wrap_u64]; omega
  have hw2 : ¬ n < 0 → z = (a : Int) := fun hn => by rw [← hz, IntKind.wrap_u64]; omega
  have hyw : (y : Int) % 4294967296 = y := by omega
  clear ha
  by_cases hn : n < 0
  · obtain rfl : b = true := by rw [← hb]; simpa using hn
    have hw' := hw hn
    clear hw hw2 hb
    go_enter Tryz.func57, Tryz.ntmps57
    go_wp2_with fail
    have h := HL.out (w.alloc (.cells #[.bool false, .string ⟨#[]⟩] 43))
    rw [show (w.alloc (.cells #[.bool false, .string ⟨#[]⟩] 43)).heap.size = w.heap.size + 1 by simp] at h
    refine h.mono ?_
    rintro e w2 ⟨rfl, hB⟩
    have hB2 : Below (w.heap.size + 1) (w.alloc (.cells #[.bool false, .string ⟨#[]⟩] 43)) w2 := ((Below.refl _ _).alloc (by simp) _).trans (hB.mono (by simp))
    have hR : w2.heap[w.heap.size]? = some (.cells #[.bool false, .string ⟨#[]⟩] 43) := by rw [hB2.block _ (by omega)]; exact heap_alloc_at _ _
    have r0 : w2.cell? ⟨w.heap.size, 0, none⟩ = some (.bool false) := by simp [World.cell?, hR]
    have r1 : w2.cell? ⟨w.heap.size, 1, none⟩ = some (.string ⟨#[]⟩) := by simp [World.cell?, hR]
    have f0 : w2.frozen? ⟨w.heap.size, 0, none⟩ = false := by simp [World.frozen?, hR]
    have f1 : w2.frozen? ⟨w.heap.size, 1, none⟩ = false := by simp [World.frozen?, hR]
    have HBW := Lib.hid (show Below w.heap.size w w2 from ((Below.refl _ _).alloc (Nat.le_refl _) _).trans (hB2.mono (by omega)))
    clear hB hB2 hR h
    unfold lv
    generalize (true && !(Pl.bytesOf [x, y]).isEmpty) = g at HV ⊢
    obtain ⟨S, hS⟩ : ∃ S, bs (Pl.bytesOf [x, y]) = S := ⟨_, rfl⟩
    have HS := Lib.hid hS
    rw [hS]
    clear hS
    go_wp2_with fail
    obtain ⟨k0, k1, kB⟩ := two_set w2 w.heap.size (.bool g) (.string S) r0 r1
    have kB' := HBW.out.trans kB
    refine bodyPost_ret (v := .agg #[.bool g, .string S]) (by simp [results, Tryz.results57, go_sem, k0, k1]) rfl ⟨by rw [HV.out]; unfold lv; rw [HS.out], kB'⟩
  · obtain rfl : b = false := by rw [← hb]; simpa using hn
    have hw' := hw2 hn
    clear hw hw2 hb
    go_enter Tryz.func57, Tryz.ntmps57
    go_wp2_with fail
    have h := HL.out (w.alloc (.cells #[.bool false, .string ⟨#[]⟩] 43))
    rw [show (w.alloc (.cells #[.bool false, .string ⟨#[]⟩] 43)).heap.size = w.heap.size + 1 by simp] at h
    refine h.mono ?_
    rintro e w2 ⟨rfl, hB⟩
    have hB2 : Below (w.heap.size + 1) (w.alloc (.cells #[.bool false, .string ⟨#[]⟩] 43)) w2 := ((Below.refl _ _).alloc (by simp) _).trans (hB.mono (by simp))
    have hR : w2.heap[w.heap.size]? = some (.cells #[.bool false, .string ⟨#[]⟩] 43) := by rw [hB2.block _ (by omega)]; exact heap_alloc_at _ _
    have r0 : w2.cell? ⟨w.heap.size, 0, none⟩ = some (.bool false) := by simp [World.cell?, hR]
    have r1 : w2.cell? ⟨w.heap.size, 1, none⟩ = some (.string ⟨#[]⟩) := by simp [World.cell?, hR]
    have f0 : w2.frozen? ⟨w.heap.size, 0, none⟩ = false := by simp [World.frozen?, hR]
    have f1 : w2.frozen? ⟨w.heap.size, 1, none⟩ = false := by simp [World.frozen?, hR]
    have HBW := Lib.hid (show Below w.heap.size w w2 from ((Below.refl _ _).alloc (Nat.le_refl _) _).trans (hB2.mono (by omega)))
    clear hB hB2 hR h
    unfold lv
    generalize (false && !(Pl.bytesOf [x, y]).isEmpty) = g at HV ⊢
    obtain ⟨S, hS⟩ : ∃ S, bs (Pl.bytesOf [x, y]) = S := ⟨_, rfl⟩
    have HS := Lib.hid hS
    rw [hS]
    clear hS
    go_wp2_with fail
    obtain ⟨k0, k1, kB⟩ := two_set w2 w.heap.size (.bool g) (.string S) r0 r1
    have kB' := HBW.out.trans kB
    refine bodyPost_ret (v := .agg #[.bool g, .string S]) (by simp [results, Tryz.results57, go_sem, k0, k1]) rfl ⟨by rw [HV.out]; unfold lv; rw [HS.out], kB'⟩
end Go.Proofs.YtlodbibagmblkaaGreatDoor
namespace Go.Proofs.YtlodbibagmblkaaGreatDoor
open Go.RowKit Go.Lib
def Pl.chk (neg : Bool) (l : List UInt8) : Int :=
  if 4096 < l.length then 92 else if l.length = 0 then (if neg then 1 else 0) else if l[l.length - 1]? = some 0 then 1 else 0
set_option maxHeartbeats 1000000 in
theorem check_any (neg : Bool) (l : List UInt8) (w : World) (hl : l.length ≤ 100000000) :
    Calls Tryz.prog 82 #[lv neg l] w fun e w' => e = .returned (.int .i64 (Pl.chk neg l)) ∧ Below w.heap.size w w' := by
  unfold lv
  have hsz : (bs l).size = l.length := rfl
  obtain ⟨r, hr⟩ : ∃ r, Pl.chk neg l = r := ⟨_, rfl⟩
  rw [hr]
  have hlast : ∀ (h : l.length - 1 < (bs l).size), l[l.length - 1]? = some ((bs l)[l.length - 1]'h) := by
    intro h; rw [bs_size] at h
    rw [List.getElem?_eq_getElem h]; rfl
  have HLa := Lib.hid hlast
  clear hlast
  obtain ⟨n, hn⟩ : ∃ n, l.length = n := ⟨_, rfl⟩
  unfold Pl.chk at hr
  rw [hn] at hsz hl hr HLa
  have HR := Lib.hid hr
  clear hr hn
  generalize bs l = s at *
  by_cases c1 : 4096 < n
  · have HQ := Lib.hid (show r = 92 by rw [← HR.out, if_pos c1])
    go_enter Tryz.func82, Tryz.ntmps82
    go_wp2_with fail
    go_ret
    exact ⟨ret_int (by rw [HQ.out]), (Below.refl _ _).alloc (Nat.le_refl _) _⟩
  by_cases c2 : n = 0
  · have b2 : ((n : Int) == 0) = true := by rw [beq_iff_eq]; omega
    have HQ := Lib.hid (show r = if neg then 1 else 0 by rw [← HR.out, if_neg c1, if_pos c2])
    clear c2 HLa
    cases neg
    · go_enter Tryz.func82, Tryz.ntmps82
      go_wp2_with fail
      go_ret
      exact ⟨ret_int (by rw [HQ.out]; rfl), (Below.refl _ _).alloc (Nat.le_refl _) _⟩
    · go_enter Tryz.func82, Tryz.ntmps82
      go_wp2_with fail
      go_ret
      exact ⟨ret_int (by rw [HQ.out]; rfl), (Below.refl _ _).alloc (Nat.le_refl _) _⟩
  · have b2 : ((n : Int) == 0) = false := by rw [beq_eq_false_iff_ne]; omega
    have q : n - 1 < s.size := by omega
    have hlq := HLa.out q
    obtain ⟨c, hc⟩ : ∃ c, s[n - 1]'q = c := ⟨_, rfl⟩
    rw [hc] at hlq
    have hn1 : 1 ≤ n := by omega
    by_cases c3 : c = 0
    · have b3 : ((c.toNat : Int) == 0) = true := by rw [c3]; rfl
      have HQ := Lib.hid (show r = 1 by rw [← HR.out, if_neg c1, if_neg c2, if_pos (by rw [hlq, c3])])
      clear c3 hlq HLa HR
      go_enter Tryz.func82, Tryz.ntmps82
      go_wp2_with fail
      go_ret
      exact ⟨ret_int (by rw [HQ.out]), (Below.refl _ _).alloc (Nat.le_refl _) _⟩
    · have b3 : ((c.toNat : Int) == 0) = false := by
        rw [beq_eq_false_iff_ne]; intro h; apply c3; apply UInt8.toNat_inj.1; rw [show (0 : UInt8).toNat = 0 from rfl]; omega
      have HQ := Lib.hid (show r = 0 by rw [← HR.out, if_neg c1, if_neg c2, if_neg (by rw [hlq]; intro e; injection e with e; exact c3 e)])
      clear c3 hlq HLa HR
      go_enter Tryz.func82, Tryz.ntmps82
      go_wp2_with fail
      go_ret
      exact ⟨ret_int (by rw [HQ.out]), (Below.refl _ _).alloc (Nat.le_refl _) _⟩
def ToldOk (w : World) (neg : Bool) (xs : List Nat) (e : Ending) (w' : World) : Prop :=
  e = .returned (.tuple #[lv (neg && !(Pl.bytesOf xs).isEmpty) (Pl.bytesOf xs), .int .i64 0]) ∧ Below w.heap.size w w'
set_option maxHeartbeats 1000000 in
theorem ltold_any (v : Value) (xs : List Nat) (neg : Bool) (w : World) (h : Rd w v xs) (hl : xs.length ≤ 10000) (hx : ∀ x ∈ xs, x < 4294967296) (hs : (Pl.bytesOf xs).length ≤ 4096) :
    Calls Tryz.prog 66 #[.agg #[v, .bool neg]] w (ToldOk w neg xs) := by
  have HL := Lib.hid (fun (W : World) (hB : Below w.heap.size w W) => large_any v xs neg W (h.below hB) hl hx)
  obtain ⟨g, hg⟩ : ∃ g, (neg && !(Pl.bytesOf xs).isEmpty) = g := ⟨_, rfl⟩
  obtain ⟨L, hL⟩ : ∃ L, Pl.bytesOf xs = L := ⟨_, rfl⟩
  have HV := Lib.hid (show ToldOk w neg xs = fun e w' => e = .returned (.tuple #[.agg #[.bool g, .string (bs L)], .int .i64 0]) ∧ Below w.heap.size w w' by unfold ToldOk lv; rw [hg, hL])
  have HV2 := Lib.hid (show ∀ W, LargeOk W neg xs = fun e w' => e = .returned (.agg #[.bool g, .string (bs L)]) ∧ Below W.heap.size W w' from fun W => by unfold LargeOk lv; rw [hg, hL])
  rw [hL] at hs
  have hsz : (bs L).size = L.length := rfl
  generalize bs L = S at *
  obtain ⟨n, hn⟩ : ∃ n, L.length = n := ⟨_, rfl⟩
  rw [hn] at hsz hs
  clear hg hL hn hx
  obtain ⟨va, vl, vc, rfl⟩ : ∃ a l c, v = .slice a l c := by
    rcases h with ⟨h1, _⟩ | ⟨b, cap, h1, _⟩
    · exact ⟨_, _, _, h1⟩
    · exact ⟨_, _, _, h1⟩
  clear h
  rw [HV.out]
  go_enter Tryz.func66, Tryz.ntmps66
  go_wp2_with fail
  have h := HL.out ((w.alloc (.cells #[.slice va vl vc, .bool neg] 92)).alloc (.cells #[.bool false, .string ⟨#[]⟩] 43)) (((Below.refl _ _).alloc (Nat.le_refl _) _).alloc (by simp) _)
  rw [HV2.out] at h
  refine h.mono ?_
  rintro e w2 ⟨rfl, hB⟩
  obtain ⟨B, hBd⟩ : ∃ B, w.heap.size + 1 = B := ⟨_, rfl⟩
  have hB1 : Below (B + 1) ((w.alloc (.cells #[.slice va vl vc, .bool neg] 92)).alloc (.cells #[.bool false, .string ⟨#[]⟩] 43)) w2 := hB.mono (by simp; omega)
  have hR : w2.heap[B]? = some (.cells #[.bool false, .string ⟨#[]⟩] 43) := by
    rw [hB1.block _ (by omega), ← hBd, show w.heap.size + 1 = (w.alloc (.cells #[.slice va vl vc, .bool neg] 92)).heap.size by simp]; exact heap_alloc_at _ _
  have HBW := Lib.hid (show Below w.heap.size w w2 from (((Below.refl _ _).alloc (Nat.le_refl _) _).alloc (by simp) _).trans (hB.mono (by simp; omega)))
  have hz2 : B + 1 ≤ w2.heap.size := by have := hB.size; simp at this; omega
  have HR := Lib.hid hR
  rw [hBd]
  clear hB hB1 hR h HL
  have HR3 := Lib.hid (show (w2.alloc (.cells #[.bool g, .string S] 43)).heap[B]? = some (.cells #[.bool false, .string ⟨#[]⟩] 43) by rw [Below.heap_alloc _ _ _ (by omega)]; exact HR.out)
  have r0 : (w2.alloc (.cells #[.bool g, .string S] 43)).cell? ⟨B, 0, none⟩ = some (.bool false) := by simp [World.cell?, HR3.out]
  have r1 : (w2.alloc (.cells #[.bool g, .string S] 43)).cell? ⟨B, 1, none⟩ = some (.string ⟨#[]⟩) := by simp [World.cell?, HR3.out]
  have f0 : (w2.alloc (.cells #[.bool g, .string S] 43)).frozen? ⟨B, 0, none⟩ = false := by simp [World.frozen?, HR3.out]
  have f1 : (w2.alloc (.cells #[.bool g, .string S] 43)).frozen? ⟨B, 1, none⟩ = false := by simp [World.frozen?, HR3.out]
  have HBd := Lib.hid hBd
  clear hBd
  go_wp2_with fail
  obtain ⟨k0, k1, kB⟩ := two_set (w2.alloc (.cells #[.bool g, .string S] 43)) B (.bool g) (.string S) r0 r1
  have kB' := (HBW.out.alloc (by have := HBd.out; omega) _).trans (kB.mono (by have := HBd.out; omega))
  refine bodyPost_ret (v := .tuple #[.agg #[.bool g, .string S], .int .i64 0]) (by simp [results, Tryz.results66, go_sem, k0, k1]) rfl ⟨rfl, kB'⟩
end Go.Proofs.YtlodbibagmblkaaGreatDoor
namespace Go.Proofs.YtlodbibagmblkaaGreatDoor
open Go.RowKit Go.Lib
namespace Fl
open Ieee
theorem order_zero {a : Nat} (hf : a % 9223372036854775808 < 9218868437227405312) (hz : a % 9223372036854775808 ≠ 0) : D.order a 0 = some .lt ∨ D.order a 0 = some .gt := by
  have hn : isNan a = false := by simp [isNan]; omega
  rw [order_key hn (by decide)]
  have h0 : val (D.read 0) = 0 := by rw [read_eq]; decide +kernel
  have hv : val (D.read a) ≠ 0 := by
    obtain ⟨s, m, i, e, hm⟩ : ∃ s m i, D.read a = .number s m i ∧ m ≠ 0 := by
      rw [read_eq, if_pos hf]
      split
      · exact ⟨_, _, _, rfl, hz⟩
      · exact ⟨_, _, _, rfl, by omega⟩
    rw [e]
    simp only [val]
    unfold Ieee.signed
    rw [Nat.shiftLeft_eq]
    have hp : 0 < m * 2 ^ (i + 1074).toNat := Nat.mul_pos (by omega) (Nat.pow_pos (by decide))
    generalize m * 2 ^ (i + 1074).toNat = v at *
    cases s <;> simp <;> omega
  rw [h0]
  rcases Int.lt_or_gt_of_ne hv with h | h
  · left; rw [cmp_lt h]
  · right; rw [cmp_gt h]
end Fl
theorem Pl.trim_fmt (neg : Bool) (ds : List UInt8) (x : Int) (h : ∀ c ∈ ds, 48 ≤ c.toNat ∧ c.toNat ≤ 57) (hl : 1 ≤ ds.length) : Lib.trimPrefix (Pl.fmtE neg ds x) [45] = Pl.headOf ds ++ 101 :: Pl.expo x ∧ Lib.hasPrefix (Pl.fmtE neg ds x) [45] = neg := by
  rw [Pl.fmtE_head]
  cases ds with
  | nil => simp at hl
  | cons d r =>
    have hd : d ≠ 45 := Pl.digit_ne (h d (by simp)) (by decide)
    have hh : Lib.hasPrefix (Pl.headOf (d :: r) ++ 101 :: Pl.expo x) [45] = false := by
      unfold Lib.hasPrefix Pl.headOf
      simp [List.isPrefixOf]
      exact fun e => hd e.symm
    cases neg
    · unfold Lib.trimPrefix
      simp only [Bool.false_eq_true, if_false, List.nil_append]
      rw [hh]; simp
    · have : Lib.hasPrefix ((if true = true then [45] else []) ++ (Pl.headOf (d :: r) ++ 101 :: Pl.expo x)) [45] = true := by
        unfold Lib.hasPrefix; simp [List.isPrefixOf]
      refine ⟨?_, this⟩
      unfold Lib.trimPrefix
      rw [this]; simp
theorem written_len (d : List UInt8) (p : Int) (hp : -400 ≤ p ∧ p ≤ 400) : (Pl.written d p).length ≤ d.length + 440 := by
  unfold Pl.written
  have h1 := pointed_len d 1
  have h2 := itoa_len p hp
  split
  · simp; omega
  · split
    · simp [Lib.repeatL_length]; omega
    · split
      · have := pointed_len (d ++ Lib.repeatL [48] (p + 1 - d.length).toNat) (p + 1).toNat
        rw [List.length_append, Lib.repeatL_length] at this
        simp only [List.length_cons, List.length_nil] at this
        omega
      · have := pointed_len d (p + 1).toNat
        omega
set_option maxHeartbeats 2000000 in
theorem show_any (a : Nat) (w : World) (ha : a < 18446744073709551616) (hf : a % 9223372036854775808 < 9218868437227405312) (hz : a % 9223372036854775808 ≠ 0) (he : Env w) :
    Calls Tryz.prog 108 #[.int .u64 a] w fun e w' => e = .returned (.string (bs (Pl.showN a))) ∧ Below w.heap.size w w' := by
  have hf' : a / 4503599627370496 % 2048 < 2047 := by omega
  obtain ⟨hd1, hd2, hd3, hd4, hd5⟩ := Pl.digs_ok hf' hz
  have ho : FloatKind.f64.format.order a a = some .eq := by rw [Fl.order_self]; unfold Fl.isNan; rw [if_neg (by simp; omega)]
  have i1 : decide (a = 9218868437227405312) = false := by simp; omega
  have i2 : decide (a = 18442240474082181120) = false := by simp; omega
  have HI1 := Lib.hid (fun w => isInf1_any a ha w)
  have HI2 := Lib.hid (fun w => isInfn_any a ha w)
  rw [i1] at HI1; rw [i2] at HI2
  have HZ := Lib.hid (Fl.order_zero hf hz)
  have HF := Lib.hid (format_any a w ha hf' hz he)
  obtain ⟨neg, hneg⟩ : ∃ neg : Bool, decide (9223372036854775808 ≤ a) = neg := ⟨_, rfl⟩
  obtain ⟨ds, hds⟩ : ∃ ds, Pl.digs a = ds := ⟨_, rfl⟩
  obtain ⟨x, hx⟩ : ∃ x, Pl.dpt a - 1 = x := ⟨_, rfl⟩
  have hT : Pl.ftoa a = Pl.fmtE neg ds x := by unfold Pl.ftoa; rw [hneg, hds, hx]
  rw [hT] at HF
  rw [hds] at hd1 hd2 hd3
  have hx1 : -400 ≤ x := by omega
  have hx2 : x ≤ 400 := by omega
  have HR := Lib.hid (show bs (Pl.showN a) = bs ((if neg then [45] else []) ++ Pl.written ds x) by unfold Pl.showN; rw [hds, hx, ← hneg]; simp)
  obtain ⟨t1, t2⟩ := Pl.trim_fmt neg ds x hd1 hd2
  have HC1 := Lib.hid (show ∀ w, Calls Tryz.prog 156 #[.string (bs (Pl.fmtE neg ds x)), .string (bs [45])] w fun e w' => e = .returned (.tuple #[.string (bs (Pl.headOf ds ++ 101 :: Pl.expo x)), .bool neg]) ∧ w' = w from fun w => by
    have h := Tryz.strings_CutPrefix (bs (Pl.fmtE neg ds x)) (bs [45]) w
    change Calls _ _ _ w (fun e w' => e = .returned (.tuple #[.string (bs (Lib.trimPrefix (Pl.fmtE neg ds x) [45])), .bool (Lib.hasPrefix (Pl.fmtE neg ds x) [45])]) ∧ w' = w) at h
    rw [t1, t2] at h
    exact h)
  have hhl := Pl.head_len ds
  have hel := Pl.expo_len x
  have HC2 := Lib.hid (show ∀ w, Env w → Calls Tryz.prog 157 #[.string (bs (Pl.headOf ds ++ 101 :: Pl.expo x)), .string (bs [101])] w fun e w' => e = .returned (.tuple #[.string (bs (Pl.headOf ds)), .string (bs (Pl.expo x)), .bool true]) ∧ ∃ n, w' = w.drewN n from fun w he => by
    obtain ⟨mm, hmm⟩ := he.mlen
    have h := Tryz.strings_Cut (bs (Pl.headOf ds ++ 101 :: Pl.expo x)) (bs [101]) mm w (by rw [bs_size]; simp; omega) hmm
    change Calls _ _ _ w (fun e w' => e = .returned (.tuple #[.string (bs (Lib.cut (Pl.headOf ds ++ 101 :: Pl.expo x) [101]).1), .string (bs (Lib.cut (Pl.headOf ds ++ 101 :: Pl.expo x) [101]).2.1), .bool (Lib.cut (Pl.headOf ds ++ 101 :: Pl.expo x) [101]).2.2]) ∧ ∃ n, w' = w.drewN n) at h
    rw [Pl.cut_at 101 _ _ (Pl.head_mem hd1 (by decide) (by decide))] at h
    exact h)
  have HC3 := Lib.hid (show ∀ w, Calls Tryz.prog 158 #[.string (bs (Pl.expo x))] w fun e w' => e = .returned (.tuple #[.int .i64 x, .nilIface]) ∧ Below w.heap.size w w' from fun w => by
    refine (Tryz.strconv_Atoi (bs (Pl.expo x)) x (by rw [bs_size]; omega) (Pl.atoi_expo (by omega) (by omega)) w).mono ?_
    rintro e w' ⟨rfl, t, rfl⟩
    exact ⟨rfl, bytesWorld_below _ _ _⟩)
  have HC4 := Lib.hid (show ∀ w, Env w → Calls Tryz.prog 160 #[.string (bs (Pl.headOf ds)), .string (bs [46]), .string (bs []), .int .i64 1] w fun e w' => e = .returned (.string (bs ds)) ∧ Below w.heap.size w w' from fun w he => by
    obtain ⟨mm, hmm⟩ := he.mlen
    have h := Tryz.strings_Replace (bs (Pl.headOf ds)) (bs [46]) (bs []) 1 mm w (by rw [bs_size]; omega) hmm (by decide) (by rw [bs_size, bs_size]; simp; omega)
    change Calls _ _ _ w (fun e w' => e = .returned (.string (bs (Lib.replace (Pl.headOf ds) [46] [] 1))) ∧ Below w.heap.size w w') at h
    rw [Pl.head_dot hd1] at h
    exact h)
  have HC5 := Lib.hid (fun w he => written_any ds x w he hd2 (by omega) ⟨hx1, hx2⟩)
  have hws : (bs (Pl.written ds x)).size ≤ 1000 := by rw [bs_size]; have := written_len ds x ⟨hx1, hx2⟩; omega
  have HG := Lib.hid (show Calls Tryz.prog 155 #[.float .f64 a, .int .u8 101, .int .i64 (-1), .int .i64 64] w fun e w' => e = .returned (.string (bs (Pl.fmtE neg ds x))) ∧ Below w.heap.size w w' from HF.out)
  clear HF
  have HW := Lib.hid (bs_app [45] (Pl.written ds x))
  clear hd1 hd2 hd3 hd4 hd5 hhl hel t1 t2 hT hds hx hneg i1 i2 hf hz hf' hx1 hx2
  generalize bs (Pl.fmtE neg ds x) = S1 at *
  generalize bs (Pl.headOf ds ++ 101 :: Pl.expo x) = S2 at *
  generalize bs (Pl.headOf ds) = S3 at *
  generalize bs (Pl.expo x) = S4 at *
  generalize bs ds = S5 at *
  have HZ0 : FloatKind.f64.format.order a 0 = some .lt ∨ FloatKind.f64.format.order a 0 = some .gt := HZ.out
  clear HZ
  rcases HZ0 with hz0 | hz0
  all_goals
    go_enter Tryz.func108, Tryz.ntmps108
    go_wp2_with fail
    refine (of_any _ _).mono ?_
    rintro e w' ⟨rfl, rfl⟩
    go_wp2_with fail
    refine (HI1.out _).mono ?_
    rintro e w' ⟨rfl, rfl⟩
    go_wp2_with fail
    refine (HI2.out _).mono ?_
    rintro e w' ⟨rfl, rfl⟩
    go_wp2_with fail
    refine HG.out.mono ?_
    rintro e w1 ⟨rfl, hB1⟩
    go_wp2_with fail
    refine (HC1.out _).mono ?_
    rintro e w' ⟨rfl, rfl⟩
    have he1 := he.below hB1
    go_wp2_with fail
    refine (HC2.out _ he1).mono ?_
    rintro e w' ⟨rfl, n2, rfl⟩
    go_wp2_with fail
    refine (HC3.out _).mono ?_
    rintro e w3 ⟨rfl, hB3⟩
    have hB4 : Below w.heap.size w w3 := (below_drewN hB1 n2).trans (hB3.mono hB1.size)
    have he3 := he.below hB4
    clear hB1 hB3 he1
    go_wp2_with fail
    refine (HC4.out _ he3).mono ?_
    rintro e w4 ⟨rfl, hB5⟩
    have hB6 : Below w.heap.size w w4 := hB4.trans (hB5.mono hB4.size)
    have he4 := he3.below hB5
    clear hB5
    go_wp2_with fail
    refine (HC5.out _ he4).mono ?_
    rintro e w5 ⟨rfl, hB7⟩
    have HB := Lib.hid (hB6.trans (hB7.mono hB6.size))
    obtain ⟨S6, hS6⟩ : ∃ s, bs (Pl.written ds x) = s := ⟨_, rfl⟩
    rw [hS6] at hws HW ⊢
    have H6 := Lib.hid hS6
    clear hS6 hB6 hB7 hB4 he3 he4
    cases neg
    · go_wp2_with fail
      go_ret
      exact ⟨ret_bs (by rw [HR.out, ← H6.out]; rfl), HB.out⟩
    · go_wp2_with fail
      go_ret
      exact ⟨ret_bs (by rw [HR.out]; exact HW.out), HB.out⟩
end Go.Proofs.YtlodbibagmblkaaGreatDoor
namespace Go.Proofs.YtlodbibagmblkaaGreatDoor
open Go.RowKit Go.Lib
namespace Pl
def tens : List UInt8 := [48, 49, 50, 51, 52, 53, 54, 55, 56, 57]
/-- What stands behind the digits that a text begins with; how many these are. -/
def rest (l : List UInt8) : List UInt8 := Lib.trimLeftS l tens
def ndig (l : List UInt8) : Nat := l.length - (rest l).length
theorem rest_len (l : List UInt8) : (rest l).length ≤ l.length := (List.dropWhile_suffix _).length_le
theorem drop_ndig (l : List UInt8) : l.drop (ndig l) = rest l := by
  obtain ⟨t, ht⟩ := List.dropWhile_suffix (fun x => tens.contains x) (l := l)
  have e : t ++ rest l = l := ht
  unfold ndig
  have : l.length - (rest l).length = t.length := by have := congrArg List.length e; simp at this; omega
  rw [this]
  conv => lhs; rw [← e]
  simp
def formed (l : List UInt8) : Bool :=
  if 400 < l.length then false else
  if ndig (Lib.trimPrefix l [45]) = 0 ∨ Lib.hasPrefix (rest (Lib.trimPrefix l [45])) [46] = false ∨ ndig (Lib.trimPrefix (rest (Lib.trimPrefix l [45])) [46]) = 0 then false else
  if (rest (Lib.trimPrefix (rest (Lib.trimPrefix l [45])) [46])).isEmpty then true else
  Lib.hasPrefix (rest (Lib.trimPrefix (rest (Lib.trimPrefix l [45])) [46])) [101] && !(Lib.trimPrefix (Lib.trimPrefix (rest (Lib.trimPrefix (rest (Lib.trimPrefix l [45])) [46])) [101]) [45]).isEmpty && ndig (Lib.trimPrefix (Lib.trimPrefix (rest (Lib.trimPrefix (rest (Lib.trimPrefix l [45])) [46])) [101]) [45]) == (Lib.trimPrefix (Lib.trimPrefix (rest (Lib.trimPrefix (rest (Lib.trimPrefix l [45])) [46])) [101]) [45]).length
end Pl
theorem digits_any (l : List UInt8) (w : World) (hl : l.length ≤ 400) :
    Calls Tryz.prog 199 #[.string (bs l)] w fun e w' => e = .returned (.int .i64 (Pl.ndig l)) ∧ Below w.heap.size w w' := by
  have hsz : (bs l).size = l.length := rfl
  have HT := Lib.hid (show ∀ w, Calls Tryz.prog 196 #[.string (bs l), .string (bs Pl.tens)] w fun e w' => e = .returned (.string (bs (Pl.rest l))) ∧ Below w.heap.size w w' from fun w => by
    refine Tryz.strings_TrimLeft (bs l) (bs Pl.tens) w (by decide) ?_
    intro j b hb
    have key : ∀ b ∈ Pl.tens, b.toNat < 128 := by decide
    exact key b (List.mem_of_getElem? hb))
  have hrs : (bs (Pl.rest l)).size = (Pl.rest l).length := rfl
  have hr := Pl.rest_len l
  have HN := Lib.hid (show ((Pl.ndig l : Nat) : Int) = (l.length : Int) - (Pl.rest l).length by unfold Pl.ndig; omega)
  generalize bs l = s at hsz HT ⊢
  generalize bs (Pl.rest l) = t at hrs HT ⊢
  go_enter Tryz.func199, Tryz.ntmps199
  go_wp2_with fail
  refine (HT.out _).mono ?_
  rintro e w' ⟨rfl, hB⟩
  go_wp2_with fail
  go_ret
  exact ⟨ret_int (by rw [HN.out]), hB⟩
theorem cutP (l p : List UInt8) (w : World) : Calls Tryz.prog 156 #[.string (bs l), .string (bs p)] w fun e w' => e = .returned (.tuple #[.string (bs (Lib.trimPrefix l p)), .bool (Lib.hasPrefix l p)]) ∧ w' = w := Tryz.strings_CutPrefix (bs l) (bs p) w
theorem trimP (l p : List UInt8) (w : World) : Calls Tryz.prog 198 #[.string (bs l), .string (bs p)] w fun e w' => e = .returned (.string (bs (Lib.trimPrefix l p))) ∧ w' = w := Tryz.strings_TrimPrefix (bs l) (bs p) w
theorem trimPrefix_len (l p : List UInt8) : (Lib.trimPrefix l p).length ≤ l.length := by unfold Lib.trimPrefix; split <;> simp
theorem bs_rest (l : List UInt8) : (bs l).extract (Pl.ndig l) l.length = bs (Pl.rest l) := by
  rw [bs_extract, Pl.drop_ndig, List.take_of_length_le (by rw [← Pl.drop_ndig]; simp)]
theorem bs_empty (l : List UInt8) : (bs l).toList.isEmpty = l.isEmpty := by rw [Lib.toList_data]
def FormedOk (b : Bool) (w : World) (e : Ending) (w' : World) : Prop := e = .returned (.bool b) ∧ Below w.heap.size w w'
set_option maxHeartbeats 2000000 in
theorem formed_any (l : List UInt8) (w : World) (hbig : l.length ≤ 1000000) :
    Calls Tryz.prog 167 #[.string (bs l)] w (FormedOk (Pl.formed l) w) := by
  have hsz : (bs l).size = l.length := rfl
  by_cases c1 : 400 < l.length
  · have HR := Lib.hid (show Pl.formed l = false by unfold Pl.formed; rw [if_pos c1])
    generalize bs l = S0 at *
    go_enter Tryz.func167, Tryz.ntmps167
    go_wp2_with fail
    go_ret
    exact ⟨ret_bool (by rw [HR.out]), Below.refl _ _⟩
  · have c1' : l.length ≤ 400 := by omega
    have HT1 := Lib.hid (trimP l [45])
    obtain ⟨s1, hs1⟩ : ∃ s1, Lib.trimPrefix l [45] = s1 := ⟨_, rfl⟩
    have l1 : s1.length ≤ 400 := by rw [← hs1]; exact Nat.le_trans (trimPrefix_len l [45]) c1'
    rw [hs1] at HT1
    have HD1 := Lib.hid (fun w => digits_any s1 w l1)
    have e1 := Lib.hid (bs_rest s1)
    have z1 : (bs s1).size = s1.length := rfl
    have n1 : Pl.ndig s1 ≤ s1.length := by unfold Pl.ndig; omega
    obtain ⟨t1, ht1⟩ : ∃ t1, Pl.rest s1 = t1 := ⟨_, rfl⟩
    rw [ht1] at e1
    have HC1 := Lib.hid (cutP t1 [46])
    obtain ⟨r, hr⟩ : ∃ r, Lib.trimPrefix t1 [46] = r := ⟨_, rfl⟩
    obtain ⟨pt, hpt⟩ : ∃ pt, Lib.hasPrefix t1 [46] = pt := ⟨_, rfl⟩
    rw [hr, hpt] at HC1
    have l2 : r.length ≤ 400 := by
      rw [← hr]; refine Nat.le_trans (trimPrefix_len t1 [46]) ?_
      rw [← ht1]; exact Nat.le_trans (Pl.rest_len _) l1
    have HD2 := Lib.hid (fun w => digits_any r w l2)
    have e2 := Lib.hid (bs_rest r)
    have z2 : (bs r).size = r.length := rfl
    have n2 : Pl.ndig r ≤ r.length := by unfold Pl.ndig; omega
    obtain ⟨r2, hr2⟩ : ∃ r2, Pl.rest r = r2 := ⟨_, rfl⟩
    rw [hr2] at e2
    have HC2 := Lib.hid (cutP r2 [101])
    obtain ⟨is, his⟩ : ∃ is, Lib.hasPrefix r2 [101] = is := ⟨_, rfl⟩
    obtain ⟨q, hq⟩ : ∃ q, Lib.trimPrefix r2 [101] = q := ⟨_, rfl⟩
    rw [his, hq] at HC2
    have HT2 := Lib.hid (trimP q [45])
    obtain ⟨pw, hpw⟩ : ∃ pw, Lib.trimPrefix q [45] = pw := ⟨_, rfl⟩
    rw [hpw] at HT2
    have l3 : pw.length ≤ 400 := by
      rw [← hpw, ← hq, ← hr2]
      exact Nat.le_trans (trimPrefix_len _ _) (Nat.le_trans (trimPrefix_len _ _) (Nat.le_trans (Pl.rest_len _) l2))
    have HD3 := Lib.hid (fun w => digits_any pw w l3)
    have z3 : (bs pw).size = pw.length := rfl
    have HR := Lib.hid (show Pl.formed l = if Pl.ndig s1 = 0 ∨ pt = false ∨ Pl.ndig r = 0 then false else if r2.isEmpty then true else (is && !pw.isEmpty && Pl.ndig pw == pw.length) by
      unfold Pl.formed
      rw [if_neg c1]
      simp only [hs1, ht1, hr, hpt, hr2, his, hq, hpw])
    have b2 := bs_empty r2
    have b3 := bs_empty pw
    clear hs1 ht1 hr hpt hr2 his hq hpw c1
    generalize bs l = S0 at *
    generalize bs s1 = S1 at *
    generalize bs t1 = T1 at *
    generalize bs r = R1 at *
    generalize bs r2 = R2 at *
    generalize bs q = Q1 at *
    generalize bs pw = W1 at *
    generalize Pl.ndig s1 = n at *
    generalize Pl.ndig r = k at *
    generalize Pl.ndig pw = j at *
    go_enter Tryz.func167, Tryz.ntmps167
    go_wp2_with fail
    refine (HT1.out _).mono ?_
    rintro e w' ⟨rfl, rfl⟩
    go_wp2_with fail
    refine (HD1.out _).mono ?_
    rintro e w1 ⟨rfl, hB1⟩
    have e1' := e1.out
    have e2' := e2.out
    go_wp2_with fail
    refine (HC1.out _).mono ?_
    rintro e w' ⟨rfl, rfl⟩
    go_wp2_with fail
    refine (HD2.out _).mono ?_
    rintro e w2 ⟨rfl, hB2⟩
    have hB := hB1.trans (hB2.mono hB1.size)
    clear hB1 hB2
    by_cases hn0 : n = 0
    · have hb : ((n : Int) == 0) = true := by rw [beq_iff_eq]; omega
      have HQ := Lib.hid (show Pl.formed l = false by rw [HR.out, if_pos (.inl hn0)])
      clear hn0 HR
      go_wp2_with fail
      go_ret
      exact ⟨ret_bool (by rw [HQ.out]), hB⟩
    have hb : ((n : Int) == 0) = false := by rw [beq_eq_false_iff_ne]; omega
    cases pt
    · have HQ := Lib.hid (show Pl.formed l = false by rw [HR.out, if_pos (.inr (.inl rfl))])
      clear hn0 HR
      go_wp2_with fail
      go_ret
      exact ⟨ret_bool (by rw [HQ.out]), hB⟩
    by_cases hk0 : k = 0
    · have hb2 : ((k : Int) == 0) = true := by rw [beq_iff_eq]; omega
      have HQ := Lib.hid (show Pl.formed l = false by rw [HR.out, if_pos (.inr (.inr hk0))])
      clear hn0 hk0 HR
      go_wp2_with fail
      go_ret
      exact ⟨ret_bool (by rw [HQ.out]), hB⟩
    have hb2 : ((k : Int) == 0) = false := by rw [beq_eq_false_iff_ne]; omega
    have HR2 := Lib.hid (show Pl.formed l = if r2.isEmpty then true else (is && !pw.isEmpty && j == pw.length) by rw [HR.out, if_neg (by simp [hn0, hk0])])
    clear HR hn0 hk0
    cases he2 : r2.isEmpty
    · rw [he2] at b2 HR2
      go_wp2_with fail
      refine (HC2.out _).mono ?_
      rintro e w' ⟨rfl, rfl⟩
      go_wp2_with fail
      refine (HT2.out _).mono ?_
      rintro e w' ⟨rfl, rfl⟩
      cases is
      · have HQ := Lib.hid (show Pl.formed l = false by rw [HR2.out]; simp)
        clear HR2
        go_wp2_with fail
        go_ret
        exact ⟨ret_bool (by rw [HQ.out]), hB⟩
      cases he3 : pw.isEmpty
      · rw [he3] at b3 HR2
        go_wp2_with fail
        refine (HD3.out _).mono ?_
        rintro e w3 ⟨rfl, hB3⟩
        have HQ := Lib.hid (show Pl.formed l = ((j : Int) == (pw.length : Int)) by
          rw [HR2.out, Bool.eq_iff_iff]; simp; omega)
        clear HR2
        go_wp2_with fail
        go_ret
        exact ⟨ret_bool (by rw [HQ.out]), hB.trans (hB3.mono hB.size)⟩
      · rw [he3] at b3 HR2
        have HQ := Lib.hid (show Pl.formed l = false by rw [HR2.out]; simp)
        clear HR2
        go_wp2_with fail
        go_ret
        exact ⟨ret_bool (by rw [HQ.out]), hB⟩
    · rw [he2] at b2 HR2
      have HQ := Lib.hid (show Pl.formed l = true by rw [HR2.out]; simp)
      clear HR2
      go_wp2_with fail
      go_ret
      exact ⟨ret_bool (by rw [HQ.out]), hB⟩
end Go.Proofs.YtlodbibagmblkaaGreatDoor
namespace Go.Proofs.YtlodbibagmblkaaGreatDoor
namespace Pl
/-- What has been read of a text's digits: the number, how many digits, how many of these are in the number, where the point stands, whether a point, a digit was seen, whether something was left out. -/
structure St where
  m : Nat
  nd : Nat
  nm : Nat
  dp : Int
  dot : Bool
  dig : Bool
  tr : Bool
def St.zero : St := ⟨0, 0, 0, 0, false, false, false⟩
def step (s : St) (c : UInt8) : St :=
  if c = 46 then ⟨s.m, s.nd, s.nm, s.nd, true, s.dig, s.tr⟩
  else if c = 48 ∧ s.nd = 0 then ⟨s.m, s.nd, s.nm, s.dp - 1, s.dot, true, s.tr⟩
  else if s.nm < 19 then ⟨s.m * 10 + (c.toNat - 48), s.nd + 1, s.nm + 1, s.dp, s.dot, true, s.tr⟩
  else ⟨s.m, s.nd + 1, s.nm, s.dp, s.dot, true, s.tr || decide (c ≠ 48)⟩
def digit (c : UInt8) : Prop := 48 ≤ c.toNat ∧ c.toNat ≤ 57
def run (l : List UInt8) : St := l.foldl step St.zero
theorem run_snoc (l : List UInt8) (c : UInt8) : run (l ++ [c]) = step (run l) c := by simp [run]
structure St.Ok (s : St) (k : Nat) : Prop where
  m : s.m < 10 ^ s.nm
  nm : s.nm ≤ 19
  nd : s.nd ≤ k
  lo : -(k : Int) ≤ s.dp
  up : s.dp ≤ k
theorem step_ok {s : St} {k : Nat} {c : UInt8} (h : s.Ok k) (hc : c = 46 ∨ digit c) : (step s c).Ok (k + 1) := by
  have h1 := h.m; have h2 := h.nm; have h3 := h.nd; have h4 := h.lo; have h5 := h.up
  unfold step
  split
  · exact ⟨h1, h2, by simp only; omega, by simp only; omega, by simp only; omega⟩
  · split
    · exact ⟨h1, h2, by simp only; omega, by simp only; omega, by simp only; omega⟩
    · split
      · rename_i h46 _ _
        have hd : digit c := by rcases hc with e | e; exact absurd e h46; exact e
        refine ⟨?_, by simp only; omega, by simp only; omega, by simp only; omega, by simp only; omega⟩
        simp only
        have := hd.2
        rw [Nat.pow_succ]; omega
      · exact ⟨h1, h2, by simp only; omega, by simp only; omega, by simp only; omega⟩
theorem fold_ok : ∀ (l : List UInt8) (s : St) (k : Nat), s.Ok k → (∀ c ∈ l, c = 46 ∨ digit c) → (l.foldl step s).Ok (k + l.length)
  | [], s, k, h, _ => h
  | c :: l, s, k, h, hl => by
    rw [List.foldl_cons, List.length_cons, show k + (l.length + 1) = k + 1 + l.length by omega]
    exact fold_ok l _ _ (step_ok h (hl c (by simp))) (fun x hx => hl x (by simp [hx]))
theorem run_ok (l : List UInt8) (h : ∀ c ∈ l, c = 46 ∨ digit c) : (run l).Ok l.length := by
  have := fold_ok l St.zero 0 ⟨by decide, by decide, by decide, by decide, by decide⟩ h
  rwa [Nat.zero_add] at this
/-- A power's digits. -/
def estep (e : Nat) (c : UInt8) : Nat := if e < 10000 then e * 10 + (c.toNat - 48) else e
def erun (l : List UInt8) : Nat := l.foldl estep 0
theorem erun_snoc (l : List UInt8) (c : UInt8) : erun (l ++ [c]) = estep (erun l) c := by simp [erun]
theorem efold_le : ∀ (l : List UInt8) (e : Nat), e ≤ 100000 → (∀ c ∈ l, digit c) → l.foldl estep e ≤ 100000
  | [], e, h, _ => h
  | c :: l, e, h, hl => by
    rw [List.foldl_cons]
    refine efold_le l _ ?_ (fun x hx => hl x (by simp [hx]))
    have h2 := hl c (by simp)
    unfold estep digit at *
    split <;> omega
theorem erun_le (l : List UInt8) (h : ∀ c ∈ l, digit c) : erun l ≤ 100000 := efold_le l 0 (by decide) h
end Pl
end Go.Proofs.YtlodbibagmblkaaGreatDoor
