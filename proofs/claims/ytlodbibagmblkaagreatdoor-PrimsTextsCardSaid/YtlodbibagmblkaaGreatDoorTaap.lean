/- The table of floats: the contract of floats (what it lays; printed by gen_flt3.py). The table of all primitives: the contract of table (printed by gen_tbl.py). -/
import Derived.Test.YtlodbibagmblkaaGreatDoorTaao
namespace Go.Proofs.YtlodbibagmblkaaGreatDoor
open Go Go.RowKit Go.Lib
theorem lk_mem : ∀ {L : List (Int × Value)} {k : Int} {v : Value}, lk L k = some v → (k, v) ∈ L
  | [], _, _, h => by cases h
  | p :: L, k, v, h => by
    unfold lk at h
    split at h
    · rename_i e
      injection h with h
      rw [← e, ← h]
      simp
    · exact List.mem_cons_of_mem _ (lk_mem h)
theorem ranges_le {w : World} {b r n cnt : Nat} {D : DataW Value} {left : Lit → Bool} (h : w.ranges Tryz.prog 3 Rh b r n D left cnt) : cnt ≤ n := by
  obtain ⟨es, clock, since, seen, c0, _, _, hs, _, _, _, hc, _⟩ := h
  rw [← hc]
  refine Nat.le_trans ?_ hs
  unfold leftOf
  exact Array.size_filter_le
theorem drawn {L : List (Int × Value)} {x : Int} {c : Value} {kl : Lit} {y : DataW Value × List MemPlace} (hk : keyOf Tryz.prog 3 (.int .i64 x) = some kl) (hy : Rh c = some y) (hat : ∀ z, (puts L).atKey kl z = y.1) : (x, c) ∈ L := by
  obtain ⟨x', e, rfl, _⟩ := Maps.keyOf_int_inv Tryz.underlying3 hk
  injection e with _ e
  subst e
  unfold Rh at hy
  injection hy with hy
  subst hy
  have h1 := hat (.lit (.bool true))
  rw [puts_at] at h1
  cases hl : lk L x with
  | none => rw [hl] at h1; cases h1
  | some v =>
    rw [hl] at h1
    injection h1 with h1
    rw [h1] at hl
    exact lk_mem hl
set_option maxRecDepth 4000 in
set_option maxHeartbeats 4000000 in
theorem floats_any (b : Nat) (L : List (Int × Value)) (w : World) (h : MapAt w b L) (hL : L.length ≤ 500) :
    Calls Tryz.prog 55 #[.map (some b)] w fun e w' => e = .returned (.tuple #[]) ∧ ∃ L1, MapAt w' b (L1 ++ L) ∧ (∀ x ∈ L1, (41 ≤ x.1 ∧ x.1 ≤ 57) ∧ ¬ (43 ≤ x.1 ∧ x.1 ≤ 48)) ∧ L1.length ≤ 20 ∧ w.grownBy w' (some b) ∧ FltB w' b L1 := by
  have hbl := h.lt
  have hmm := @run_makeMap Tryz.prog
  have Aq0 := MapAt.new w
  have Ab0 := h.kept (World.grownBy_alloc w (.map #[] 0) none) (by simp)
  have Ag0 := World.grownBy_alloc w (.map #[] 0) (some b)
  obtain ⟨Aw0, hw0⟩ : ∃ w0, w.alloc (.map #[] 0) = w0 := ⟨_, rfl⟩
  have As0 : Aw0.heap.size = w.heap.size + 1 := by rw [← hw0]; simp
  rw [hw0] at Aq0 Ab0 Ag0
  clear h
  go_enter Tryz.func55, Tryz.ntmps55
  go_wp2_with (refine wpList_put _ rfl (.tmp 6) (.const (.int .i64 41)) (.func 92) 122 121 (.inr rfl) Tryz.underlying122 w.heap.size _ rfl Aq0 (by simp) 41 (.func (.func 92) #[] #[]) rfl rfl (by omega) ?_)
  intro Aw1 Aq1 hgg
  have Ab1 := Ab0.kept hgg (by intro e; injection e with e; omega)
  have Ag1 := Ag0.andThen hgg (fun _ e => .inl (by injection e with e; omega))
  have As1 : Aw0.heap.size ≤ Aw1.heap.size := hgg.size
  clear hgg Aq0 Ab0 Ag0
  go_wp2_with (refine wpList_put _ rfl (.tmp 6) (.const (.int .i64 42)) (.func 93) 122 121 (.inr rfl) Tryz.underlying122 w.heap.size _ rfl Aq1 (by simp) 42 (.func (.func 93) #[] #[]) rfl rfl (by omega) ?_)
  intro Aw2 Aq2 hgg
  have Ab2 := Ab1.kept hgg (by intro e; injection e with e; omega)
  have Ag2 := Ag1.andThen hgg (fun _ e => .inl (by injection e with e; omega))
  have As2 : Aw1.heap.size ≤ Aw2.heap.size := hgg.size
  clear hgg Aq1 Ab1 Ag1
  go_wp2_with (refine wpList_put _ rfl (.tmp 6) (.const (.int .i64 49)) (.func 94) 122 121 (.inr rfl) Tryz.underlying122 w.heap.size _ rfl Aq2 (by simp) 49 (.func (.func 94) #[] #[]) rfl rfl (by omega) ?_)
  intro Aw3 Aq3 hgg
  have Ab3 := Ab2.kept hgg (by intro e; injection e with e; omega)
  have Ag3 := Ag2.andThen hgg (fun _ e => .inl (by injection e with e; omega))
  have As3 : Aw2.heap.size ≤ Aw3.heap.size := hgg.size
  clear hgg Aq2 Ab2 Ag2
  go_wp2_with (refine wpList_put _ rfl (.tmp 6) (.const (.int .i64 50)) (.func 95) 122 121 (.inr rfl) Tryz.underlying122 w.heap.size _ rfl Aq3 (by simp) 50 (.func (.func 95) #[] #[]) rfl rfl (by omega) ?_)
  intro Aw4 Aq4 hgg
  have Ab4 := Ab3.kept hgg (by intro e; injection e with e; omega)
  have Ag4 := Ag3.andThen hgg (fun _ e => .inl (by injection e with e; omega))
  have As4 : Aw3.heap.size ≤ Aw4.heap.size := hgg.size
  clear hgg Aq3 Ab3 Ag3
  obtain ⟨AL, hAL⟩ : ∃ Lm : List (Int × Value), Lm = [(50, .func (.func 95) #[] #[]), (49, .func (.func 94) #[] #[]), (42, .func (.func 93) #[] #[]), (41, .func (.func 92) #[] #[])] := ⟨_, rfl⟩
  have ALM : Hid (∀ p ∈ AL, ((41 ≤ p.1 ∧ p.1 ≤ 57) ∧ ¬ (43 ≤ p.1 ∧ p.1 ≤ 48)) ∧ ∃ n, p.2 = .func (.func n) #[] #[]) := Lib.hid (by subst hAL; simp)
  have ALU : Hid (∀ p ∈ AL, lk AL p.1 = some p.2) := Lib.hid (by subst hAL; simp [lk])
  have ALF : Hid ((41, .func (.func 92) #[] #[]) ∈ AL ∧ (42, .func (.func 93) #[] #[]) ∈ AL ∧ (49, .func (.func 94) #[] #[]) ∈ AL ∧ (50, .func (.func 95) #[] #[]) ∈ AL) := Lib.hid (by subst hAL; simp)
  have Aq : MapAt Aw4 w.heap.size AL := by rw [hAL]; exact Aq4
  have Alen : AL.length = 4 := by rw [hAL]; rfl
  have Aq' : Aw4.ownsMap Tryz.prog 3 Rh w.heap.size 4 (puts AL) := by have := Aq; unfold MapAt at this; rw [Alen] at this; exact this
  have Abm : w.heap.size < Aw4.heap.size := by omega
  clear hAL Aq4 Aq
  go_wp2_with (at_range; refine wpList_range_own _ rfl (.tmp 7) 122 rfl 3 121 (Go.Maps.int_keyed Tryz.underlying3) Tryz.underlying122 Rh w.heap.size _ _ rfl Aq' ?_)
  intro Av hrg hgg Avs
  have hcn := ranges_le hrg
  have ARG := Lib.hid hrg
  have AB5 := Lib.hid (Ab4.kept hgg (by simp))
  have AG5 := Lib.hid (Ag4.andThen (hgg.but (some b)) (fun _ e => .inr e))
  have Ar5 : Aw4.heap.size < Av.heap.size := by omega
  clear hgg hrg Ab4 Ag4 Aq'
  go_wp2_with fail
  go_loopw [9] (fun _ wr => ∃ (left : Lit → Bool) (cnt : Nat) (L1 : List (Int × Value)), wr.ranges Tryz.prog 3 Rh w.heap.size Aw4.heap.size 4 (puts AL) left cnt ∧ L1.length + cnt ≤ 4 ∧ MapAt wr b (L1 ++ L) ∧ Hid (∀ x ∈ L1, (41 ≤ x.1 ∧ x.1 ≤ 57) ∧ ¬ (43 ≤ x.1 ∧ x.1 ≤ 48)) ∧ w.grownBy wr (some b) ∧ Aw4.heap.size < wr.heap.size ∧ Hid (∀ p ∈ AL, left (.int .i64 p.1) = true ∨ F2 Aw4.heap.size wr b L1 p.1 p.2)) (fun _ wr => wr.rangeLeft w.heap.size Aw4.heap.size)
  case atStart => exact ⟨_, _, [], ARG.out, by simpa using hcn, AB5.out, Lib.hid (by simp), AG5.out, Ar5, Lib.hid (fun p hp => .inl (has_puts (ALU.out p hp)))⟩
  case round =>
    obtain ⟨left, cnt, Al1, hrg, Ahl1, hm, Ahk, hg, Asz, Afe⟩ := hrel
    have AHG := Lib.hid hg
    have AHM := Lib.hid hm
    have hleq := hrg.left_eq
    clear hg hm
    go_wp2_with (at_next; refine wpList_next_ranges _ rfl (.tmp 8) rfl 3 (Go.Maps.int_keyed Tryz.underlying3) Rh (Value.int .i64) (fun v : Value => v) (fun key kl hk => by obtain ⟨x, e, _, _⟩ := Maps.keyOf_int_inv Tryz.underlying3 hk; exact ⟨x, e⟩) (fun v y _ => ⟨v, rfl⟩) w.heap.size Aw4.heap.size _ _ left cnt rfl hrg ?_ ?_)
    · intro hc0 hl0
      have AHX := Lib.hid hc0
      have AFE : Hid (∀ p ∈ AL, F2 Aw4.heap.size wr b Al1 p.1 p.2) := Lib.hid (fun p hp => by
        rcases Afe.out p hp with h | h
        · rw [hl0] at h; cases h
        · exact h)
      clear hrg hleq hl0 hc0
      have hcnt : Al1.length ≤ 4 := by have := AHX.out; omega
      have hm0 := AHM.out
      have hg00 := AHG.out
      have hkeys1 := Ahk
      obtain ⟨u, hu⟩ : ∃ u, wr = u := ⟨_, rfl⟩
      rw [hu] at hm0 hg00 Asz AFE ⊢
      clear AHM AHG AHX hu Afe
      have hmm := @run_makeMap Tryz.prog
      have Bq0 := MapAt.new u
      have Bb0 := hm0.kept (World.grownBy_alloc u (.map #[] 0) none) (by simp)
      have Bg0 := hg00.andThen (World.grownBy_alloc u (.map #[] 0) (some b)) (fun _ e => .inr e)
      have BU0 := World.grownBy_alloc u (.map #[] 0) (some b)
      obtain ⟨Bw0, hBw0⟩ : ∃ w0, u.alloc (.map #[] 0) = w0 := ⟨_, rfl⟩
      have Bs0 : Bw0.heap.size = u.heap.size + 1 := by rw [← hBw0]; simp
      have hub : b < u.heap.size := hm0.lt
      have huw : w.heap.size ≤ u.heap.size := hg00.size
      rw [hBw0] at Bq0 Bb0 Bg0 BU0
      clear hm0 hg00
      go_wp2_with (refine wpList_put _ rfl (.tmp 18) (.const (.int .i64 52)) (.func 97) 124 123 (.inr rfl) Tryz.underlying124 u.heap.size _ rfl Bq0 (by simp) 52 (.func (.func 97) #[] #[]) rfl rfl (by omega) ?_)
      intro Bw1 Bq1 hgg
      have Bb1 := Bb0.kept hgg (by intro e; injection e with e; omega)
      have Bg1 := Bg0.andThen hgg (fun _ e => .inl (by injection e with e; omega))
      have BU1 := BU0.andThen hgg (fun _ e => .inl (by injection e with e; omega))
      have Bs1 : Bw0.heap.size ≤ Bw1.heap.size := hgg.size
      clear hgg Bq0 Bb0 Bg0
      go_wp2_with (refine wpList_put _ rfl (.tmp 18) (.const (.int .i64 55)) (.func 98) 124 123 (.inr rfl) Tryz.underlying124 u.heap.size _ rfl Bq1 (by simp) 55 (.func (.func 98) #[] #[]) rfl rfl (by omega) ?_)
      intro Bw2 Bq2 hgg
      have Bb2 := Bb1.kept hgg (by intro e; injection e with e; omega)
      have Bg2 := Bg1.andThen hgg (fun _ e => .inl (by injection e with e; omega))
      have BU2 := BU1.andThen hgg (fun _ e => .inl (by injection e with e; omega))
      have Bs2 : Bw1.heap.size ≤ Bw2.heap.size := hgg.size
      clear hgg Bq1 Bb1 Bg1
      go_wp2_with (refine wpList_put _ rfl (.tmp 18) (.const (.int .i64 57)) (.func 99) 124 123 (.inr rfl) Tryz.underlying124 u.heap.size _ rfl Bq2 (by simp) 57 (.func (.func 99) #[] #[]) rfl rfl (by omega) ?_)
      intro Bw3 Bq3 hgg
      have Bb3 := Bb2.kept hgg (by intro e; injection e with e; omega)
      have Bg3 := Bg2.andThen hgg (fun _ e => .inl (by injection e with e; omega))
      have BU3 := BU2.andThen hgg (fun _ e => .inl (by injection e with e; omega))
      have Bs3 : Bw2.heap.size ≤ Bw3.heap.size := hgg.size
      clear hgg Bq2 Bb2 Bg2
      obtain ⟨BL, hBL⟩ : ∃ Lm : List (Int × Value), Lm = [(57, .func (.func 99) #[] #[]), (55, .func (.func 98) #[] #[]), (52, .func (.func 97) #[] #[])] := ⟨_, rfl⟩
      have BLM : Hid (∀ p ∈ BL, ((41 ≤ p.1 ∧ p.1 ≤ 57) ∧ ¬ (43 ≤ p.1 ∧ p.1 ≤ 48)) ∧ ∃ n, p.2 = .func (.func n) #[] #[]) := Lib.hid (by subst hBL; simp)
      have BLU : Hid (∀ p ∈ BL, lk BL p.1 = some p.2) := Lib.hid (by subst hBL; simp [lk])
      have BLF : Hid ((52, .func (.func 97) #[] #[]) ∈ BL ∧ (55, .func (.func 98) #[] #[]) ∈ BL ∧ (57, .func (.func 99) #[] #[]) ∈ BL) := Lib.hid (by subst hBL; simp)
      have BLH : Hid (∀ p ∈ BL, 51 ≤ p.1) := Lib.hid (by subst hBL; simp)
      have Bq : MapAt Bw3 u.heap.size BL := by rw [hBL]; exact Bq3
      have Blen : BL.length = 3 := by rw [hBL]; rfl
      have Bq' : Bw3.ownsMap Tryz.prog 3 Rh u.heap.size 3 (puts BL) := by have := Bq; unfold MapAt at this; rw [Blen] at this; exact this
      have Bbm : u.heap.size < Bw3.heap.size := by omega
      clear hBL Bq3 Bq
      go_wp2_with (at_range; refine wpList_range_own _ rfl (.tmp 19) 124 rfl 3 123 (Go.Maps.int_keyed Tryz.underlying3) Tryz.underlying124 Rh u.heap.size _ _ rfl Bq' ?_)
      intro Bv hrg hgg Bvs
      have hcn := ranges_le hrg
      have BRG := Lib.hid hrg
      have BB5 := Lib.hid (Bb3.kept hgg (by simp))
      have BG5 := Lib.hid (Bg3.andThen (hgg.but (some b)) (fun _ e => .inr e))
      have BU5 := BU3.andThen (hgg.but (some b)) (fun _ e => .inr e)
      have Br5 : Bw3.heap.size < Bv.heap.size := by omega
      clear hgg hrg Bb3 Bg3 Bq'
      go_wp2_with fail
      go_loopw [21] (fun _ wr => ∃ (left : Lit → Bool) (cnt : Nat) (L1 : List (Int × Value)), wr.ranges Tryz.prog 3 Rh u.heap.size Bw3.heap.size 3 (puts BL) left cnt ∧ L1.length + cnt ≤ 7 ∧ MapAt wr b (L1 ++ L) ∧ Hid (∀ x ∈ L1, (41 ≤ x.1 ∧ x.1 ≤ 57) ∧ ¬ (43 ≤ x.1 ∧ x.1 ≤ 48)) ∧ w.grownBy wr (some b) ∧ Bw3.heap.size < wr.heap.size ∧ Hid (∀ p ∈ BL, left (.int .i64 p.1) = true ∨ F1 Bw3.heap.size wr b L1 p.1 p.2) ∧ u.grownBy wr (some b) ∧ Hid (∀ k v, lk Al1 k = some v → k < 51 → lk L1 k = some v)) (fun _ wr => wr.rangeLeft u.heap.size Bw3.heap.size)
      case atStart => exact ⟨_, _, Al1, BRG.out, by omega, BB5.out, hkeys1, BG5.out, Br5, Lib.hid (fun p hp => .inl (has_puts (BLU.out p hp))), BU5, Lib.hid (fun k v h _ => h)⟩
      case round =>
        obtain ⟨left, cnt, Bl1, hrg, Bhl1, hm, Bhk, hg, Bsz, Bfe, hu0, hlk0⟩ := hrel
        have BHG := Lib.hid hg
        have BHM := Lib.hid hm
        have hleq := hrg.left_eq
        clear hg hm
        go_wp2_with (at_next; refine wpList_next_ranges _ rfl (.tmp 20) rfl 3 (Go.Maps.int_keyed Tryz.underlying3) Rh (Value.int .i64) (fun v : Value => v) (fun key kl hk => by obtain ⟨x, e, _, _⟩ := Maps.keyOf_int_inv Tryz.underlying3 hk; exact ⟨x, e⟩) (fun v y _ => ⟨v, rfl⟩) u.heap.size Bw3.heap.size _ _ left cnt rfl hrg ?_ ?_)
        · intro hc0 hl0
          have BHX := Lib.hid hc0
          have BFE : Hid (∀ p ∈ BL, F1 Bw3.heap.size wr b Bl1 p.1 p.2) := Lib.hid (fun p hp => by
            rcases Bfe.out p hp with h | h
            · rw [hl0] at h; cases h
            · exact h)
          clear hrg hleq hl0 hc0
          have z0 := BHM.out
          have x0 := BHG.out
          have o0 := hu0
          obtain ⟨BR, hBR⟩ : ∃ x, wr = x := ⟨_, rfl⟩
          rw [hBR] at z0 x0 o0 BFE ⊢
          have p0 : BR.grownBy BR (some b) := World.grownBy.refl _ _
          clear BHM BHG hu0 hBR
          go_wp2_with (at_mapUpdate; refine wpList_put _ rfl (.tmp 30) (.const (.int .i64 51)) (.tmp 31) 50 48 (.inl rfl) Tryz.underlying50 b _ rfl z0 (by first | (rw [List.length_append]; omega) | (simp only [List.length_cons, List.length_append]; omega)) 51 (primv ⟨#[70]⟩ (.func (.func 101) #[] #[])) rfl rfl (by omega) ?_)
          intro y1 z1 hgg
          have x1 := x0.andThen hgg (fun _ e => .inr e)
          have o1 := o0.andThen hgg (fun _ e => .inr e)
          have p1 := p0.andThen hgg (fun _ e => .inr e)
          clear hgg z0 x0 o0 p0
          go_wp2_with (at_mapUpdate; refine wpList_put _ rfl (.tmp 32) (.const (.int .i64 53)) (.tmp 33) 50 48 (.inl rfl) Tryz.underlying50 b _ rfl z1 (by first | (rw [List.length_append]; omega) | (simp only [List.length_cons, List.length_append]; omega)) 53 (primv ⟨#[70]⟩ (.func (.func 103) #[] #[])) rfl rfl (by omega) ?_)
          intro y2 z2 hgg
          have x2 := x1.andThen hgg (fun _ e => .inr e)
          have o2 := o1.andThen hgg (fun _ e => .inr e)
          have p2 := p1.andThen hgg (fun _ e => .inr e)
          clear hgg z1 x1 o1 p1
          go_wp2_with (at_mapUpdate; refine wpList_put _ rfl (.tmp 34) (.const (.int .i64 54)) (.tmp 35) 50 48 (.inl rfl) Tryz.underlying50 b _ rfl z2 (by first | (rw [List.length_append]; omega) | (simp only [List.length_cons, List.length_append]; omega)) 54 (primv ⟨#[70, 76]⟩ (.func (.func 105) #[] #[])) rfl rfl (by omega) ?_)
          intro y3 z3 hgg
          have x3 := x2.andThen hgg (fun _ e => .inr e)
          have o3 := o2.andThen hgg (fun _ e => .inr e)
          have p3 := p2.andThen hgg (fun _ e => .inr e)
          clear hgg z2 x2 o2 p2
          go_wp2_with (at_mapUpdate; refine wpList_put _ rfl (.tmp 36) (.const (.int .i64 56)) (.tmp 37) 50 48 (.inl rfl) Tryz.underlying50 b _ rfl z3 (by first | (rw [List.length_append]; omega) | (simp only [List.length_cons, List.length_append]; omega)) 56 (primv ⟨#[70]⟩ (.func (.func 107) #[] #[])) rfl rfl (by omega) ?_)
          intro y4 z4 hgg
          have x4 := x3.andThen hgg (fun _ e => .inr e)
          have o4 := o3.andThen hgg (fun _ e => .inr e)
          have p4 := p3.andThen hgg (fun _ e => .inr e)
          clear hgg z3 x3 o3 p3
          go_wp2_with fail
          go_end0
          refine ⟨rfl, ((56 : Int), primv ⟨#[70]⟩ (.func (.func 107) #[] #[])) :: ((54 : Int), primv ⟨#[70, 76]⟩ (.func (.func 105) #[] #[])) :: ((53 : Int), primv ⟨#[70]⟩ (.func (.func 103) #[] #[])) :: ((51 : Int), primv ⟨#[70]⟩ (.func (.func 101) #[] #[])) :: Bl1, z4, fun u hu => ?_, by simp only [List.length_cons]; omega, x4, ?_⟩
          · simp only [List.mem_cons] at hu
            rcases hu with rfl | rfl | rfl | rfl | hu
            · exact ⟨⟨by show (41 : Int) ≤ 56; omega, by show (56 : Int) ≤ 57; omega⟩, by show ¬ ((43 : Int) ≤ 56 ∧ (56 : Int) ≤ 48); omega⟩
            · exact ⟨⟨by show (41 : Int) ≤ 54; omega, by show (54 : Int) ≤ 57; omega⟩, by show ¬ ((43 : Int) ≤ 54 ∧ (54 : Int) ≤ 48); omega⟩
            · exact ⟨⟨by show (41 : Int) ≤ 53; omega, by show (53 : Int) ≤ 57; omega⟩, by show ¬ ((43 : Int) ≤ 53 ∧ (53 : Int) ≤ 48); omega⟩
            · exact ⟨⟨by show (41 : Int) ≤ 51; omega, by show (51 : Int) ≤ 57; omega⟩, by show ¬ ((43 : Int) ≤ 51 ∧ (51 : Int) ≤ 48); omega⟩
            · exact Bhk.out u hu
          · obtain ⟨a1, a2, a3, a4⟩ := ALF.out
            obtain ⟨b1, b2, b3⟩ := BLF.out
            have up2 : ∀ k v, (k = 41 ∨ k = 42 ∨ k = 49 ∨ k = 50) → F2 Aw4.heap.size u b Al1 k v → F2 Aw4.heap.size y4 b (((56 : Int), primv ⟨#[70]⟩ (.func (.func 107) #[] #[])) :: ((54 : Int), primv ⟨#[70, 76]⟩ (.func (.func 105) #[] #[])) :: ((53 : Int), primv ⟨#[70]⟩ (.func (.func 103) #[] #[])) :: ((51 : Int), primv ⟨#[70]⟩ (.func (.func 101) #[] #[])) :: Bl1) k v := fun k v hk h => by
              obtain ⟨pk, pf, h1, r⟩ := h.kept o4 (.inl rfl)
              have h2 := hlk0.out k _ h1 (by omega)
              exact ⟨pk, pf, by rw [lk_miss _ _ (by omega), lk_miss _ _ (by omega), lk_miss _ _ (by omega), lk_miss _ _ (by omega)]; exact h2, r⟩
            have up1 : ∀ k v, (k = 52 ∨ k = 55 ∨ k = 57) → F1 Bw3.heap.size BR b Bl1 k v → F1 Bw3.heap.size y4 b (((56 : Int), primv ⟨#[70]⟩ (.func (.func 107) #[] #[])) :: ((54 : Int), primv ⟨#[70, 76]⟩ (.func (.func 105) #[] #[])) :: ((53 : Int), primv ⟨#[70]⟩ (.func (.func 103) #[] #[])) :: ((51 : Int), primv ⟨#[70]⟩ (.func (.func 101) #[] #[])) :: Bl1) k v := fun k v hk h => by
              obtain ⟨pf, h1, r⟩ := h.kept p4 (.inl rfl)
              exact ⟨pf, by rw [lk_miss _ _ (by omega), lk_miss _ _ (by omega), lk_miss _ _ (by omega), lk_miss _ _ (by omega)]; exact h1, r⟩
            exact ⟨⟨_, up2 41 _ (by omega) (AFE.out _ a1)⟩, ⟨_, up2 42 _ (by omega) (AFE.out _ a2)⟩, ⟨_, up2 49 _ (by omega) (AFE.out _ a3)⟩, ⟨_, up2 50 _ (by omega) (AFE.out _ a4)⟩, ⟨_, up1 52 _ (by omega) (BFE.out _ b1)⟩, ⟨_, up1 55 _ (by omega) (BFE.out _ b2)⟩, ⟨_, up1 57 _ (by omega) (BFE.out _ b3)⟩, by rw [lk_miss _ _ (by omega), lk_miss _ _ (by omega), lk_miss _ _ (by omega)]; exact lk_hit _ _ _, by rw [lk_miss _ _ (by omega), lk_miss _ _ (by omega)]; exact lk_hit _ _ _, by rw [lk_miss _ _ (by omega)]; exact lk_hit _ _ _, lk_hit _ _ _⟩
        · intro x c kl ya yb w6 cnt6 hkl hleft hR hat hrg6 hlt6 hg6 hs6 hen
          have hdr := drawn hkl hR hat
          obtain ⟨hx, nn, hcv⟩ := BLM.out _ hdr
          simp only at hx hcv
          subst hcv
          have HKL := Lib.hid (keyOf_is hkl)
          have hlx := BLU.out _ hdr
          have hf6 : Hid (∀ p ∈ BL, left (.int .i64 p.1) = true ∨ F1 Bw3.heap.size w6 b Bl1 p.1 p.2) := Lib.hid (fun p hp => (Bfe.out p hp).imp id (fun h => h.kept hg6 (.inr (.inl (Nat.le_refl _)))))
          have hxh := BLH.out _ hdr
          simp only at hxh
          have hm6 := BHM.out.kept hg6 (by intro e; injection e with e; omega)
          have hg7 := BHG.out.andThen hg6 (fun _ e => .inl (by injection e with e; omega))
          have hu7 := hu0.andThen hg6 (fun _ e => .inl (by injection e with e; omega))
          have hs6a := Nat.le_of_eq hs6.symm
          clear hkl hR hat hrg hs6 hdr
          obtain ⟨W7, hW7⟩ : ∃ W7, w6.alloc (.cells #[.func (.func nn) #[] #[]] 123) = W7 := ⟨_, rfl⟩
          have hg67 : w6.grownBy W7 none := by
            rw [← hW7]
            exact World.grownBy_alloc w6 _ none
          have hm7 := hm6.kept hg67 (by simp)
          have hg8 := hg7.andThen (hg67.but (some b)) (fun _ e => .inr e)
          have hf7 : Hid (∀ p ∈ BL, left (.int .i64 p.1) = true ∨ F1 Bw3.heap.size W7 b Bl1 p.1 p.2) := Lib.hid (fun p hp => (hf6.out p hp).imp id (fun h => h.kept (hg67.but (some b)) (.inl rfl)))
          have hu8 := hu7.andThen (hg67.but (some b)) (fun _ e => .inr e)
          have hrg7 := hrg6.kept hg67 (by simp) (by simp)
          have hs7 : w6.heap.size ≤ W7.heap.size := hg67.size
          have hcf : W7.cell? ⟨w6.heap.size, 0, none⟩ = some (.func (.func nn) #[] #[]) := by
            rw [← hW7]
            have q : (w6.alloc (.cells #[.func (.func nn) #[] #[]] 123)).heap[w6.heap.size]? = some (.cells #[.func (.func nn) #[] #[]] 123) := heap_alloc_at _ _
            exact cell_one q
          have hz7 : w6.heap.size < W7.heap.size := by rw [← hW7]; simp
          have hbz := hm6.lt
          have HNEW : Hid (∀ W8, W7.grownBy W8 (some b) → F1 Bw3.heap.size W8 b ((x, primv ⟨#[70]⟩ (.func (.func 100) #[] #[.pointer (some ⟨w6.heap.size, 0, none⟩)])) :: Bl1) x (.func (.func nn) #[] #[])) := Lib.hid (fun W8 hg => by
            have := hg.size
            exact ⟨_, by unfold lk; rw [if_pos rfl], grown_cell hg hcf hz7 (by omega), by omega, by omega, by omega⟩)
          clear hg67 hm6 hg7 hrg6
          go_wp2_with (at_mapUpdate; refine wpList_put _ rfl (.tmp 26) (.tmp 27) (.tmp 29) 50 48 (.inl rfl) Tryz.underlying50 b _ rfl hm7 (by rw [List.length_append]; omega) x (primv ⟨#[70]⟩ (.func (.func 100) #[] #[.pointer (some ⟨w6.heap.size, 0, none⟩)])) rfl rfl (by omega) ?_)
          intro w8 hm8 hgg
          have hg9 := Lib.hid (hg8.andThen hgg (fun _ e => .inr e))
          have hf8 : Hid (∀ p ∈ BL, left (.int .i64 p.1) = true ∨ F1 Bw3.heap.size w8 b Bl1 p.1 p.2) := Lib.hid (fun p hp => (hf7.out p hp).imp id (fun h => h.kept hgg (.inl rfl)))
          have hnw := Lib.hid (HNEW.out w8 hgg)
          have hu9 := Lib.hid (hu8.andThen hgg (fun _ e => .inr e))
          have hrg8 := Lib.hid (hrg7.kept hgg (by intro e; injection e with e; omega) (by intro e; injection e with e; omega))
          have hm9 := Lib.hid hm8
          have hs8 := hgg.size
          clear hm7 hg8 hrg7 hgg hm8
          go_wp2_with fail
          go_roundw
          case rel =>
            refine ⟨_, cnt6, _ :: Bl1, hrg8.out, by simp only [List.length_cons]; omega, hm9.out, Lib.hid (fun z hz => ?_), hg9.out, by omega, Lib.hid (fun p hp => ?_), hu9.out, Lib.hid (fun k v h hk => by unfold lk; rw [if_neg (by simp only; omega)]; exact hlk0.out k v h hk)⟩
            · rcases List.mem_cons.1 hz with rfl | hz
              · exact hx
              · exact Bhk.out z hz
            · by_cases hpx : p.1 = x
              · right
                have h1 := BLU.out p hp
                rw [hpx] at h1
                have h2 := hlx.symm.trans h1
                injection h2 with h2
                rw [← h2, hpx]
                exact hnw.out
              · rcases hf8.out p hp with h | h
                · left
                  rw [HKL.out]
                  exact left_other h hpx
                · right
                  exact h.cons (fun e => hpx e.symm)
          case measure => rw [hrg8.out.left_eq, hleq]; omega
    · intro x c kl ya yb w6 cnt6 hkl hleft hR hat hrg6 hlt6 hg6 hs6 hen
      have hdr := drawn hkl hR hat
      obtain ⟨hx, nn, hcv⟩ := ALM.out _ hdr
      simp only at hx hcv
      subst hcv
      have HKL := Lib.hid (keyOf_is hkl)
      have hlx := ALU.out _ hdr
      have hf6 : Hid (∀ p ∈ AL, left (.int .i64 p.1) = true ∨ F2 Aw4.heap.size w6 b Al1 p.1 p.2) := Lib.hid (fun p hp => (Afe.out p hp).imp id (fun h => h.kept hg6 (.inr (.inl (Nat.le_refl _)))))
      have hm6 := AHM.out.kept hg6 (by intro e; injection e with e; omega)
      have hg7 := AHG.out.andThen hg6 (fun _ e => .inl (by injection e with e; omega))
      have hs6a := Nat.le_of_eq hs6.symm
      clear hkl hR hat hrg hs6 hdr
      obtain ⟨W7, hW7⟩ : ∃ W7, (w6.alloc (.cells #[.int .i64 x] 3)).alloc (.cells #[.func (.func nn) #[] #[]] 121) = W7 := ⟨_, rfl⟩
      have hg67 : w6.grownBy W7 none := by
        rw [← hW7]
        exact (World.grownBy_alloc w6 _ none).andThen (World.grownBy_alloc _ _ none) (fun _ e => .inr e)
      have hm7 := hm6.kept hg67 (by simp)
      have hg8 := hg7.andThen (hg67.but (some b)) (fun _ e => .inr e)
      have hf7 : Hid (∀ p ∈ AL, left (.int .i64 p.1) = true ∨ F2 Aw4.heap.size W7 b Al1 p.1 p.2) := Lib.hid (fun p hp => (hf6.out p hp).imp id (fun h => h.kept (hg67.but (some b)) (.inl rfl)))
      have hrg7 := hrg6.kept hg67 (by simp) (by simp)
      have hs7 : w6.heap.size ≤ W7.heap.size := hg67.size
      have hcx : W7.cell? ⟨w6.heap.size, 0, none⟩ = some (.int .i64 x) := by
        rw [← hW7]
        have q : ((w6.alloc (.cells #[.int .i64 x] 3)).alloc (.cells #[.func (.func nn) #[] #[]] 121)).heap[w6.heap.size]? = some (.cells #[.int .i64 x] 3) := by
          rw [Below.heap_alloc _ _ _ (by simp)]; exact heap_alloc_at _ _
        simp [World.cell?, q]
      have hcf : W7.cell? ⟨w6.heap.size + 1, 0, none⟩ = some (.func (.func nn) #[] #[]) := by
        rw [← hW7]
        have q := heap_alloc_at (w6.alloc (.cells #[.int .i64 x] 3)) (.cells #[.func (.func nn) #[] #[]] 121)
        rw [show (w6.alloc (.cells #[.int .i64 x] 3)).heap.size = w6.heap.size + 1 by simp] at q
        exact cell_one q
      have hz7 : w6.heap.size + 1 < W7.heap.size := by rw [← hW7]; simp
      have hbz := hm6.lt
      have HNEW : Hid (∀ W8, W7.grownBy W8 (some b) → F2 Aw4.heap.size W8 b ((x, primv ⟨#[70, 70]⟩ (.func (.func 96) #[] #[.pointer (some ⟨w6.heap.size, 0, none⟩), .pointer (some ⟨w6.heap.size + 1, 0, none⟩)])) :: Al1) x (.func (.func nn) #[] #[])) := Lib.hid (fun W8 hg => by
        have := hg.size
        exact ⟨_, _, by unfold lk; rw [if_pos rfl], grown_cell hg hcx (by omega) (by omega), grown_cell hg hcf hz7 (by omega), by omega, by omega, by omega, by omega, by omega, by omega⟩)
      clear hg67 hm6 hg7 hrg6
      go_wp2_with (at_mapUpdate; refine wpList_put _ rfl (.tmp 14) (.tmp 15) (.tmp 17) 50 48 (.inl rfl) Tryz.underlying50 b _ rfl hm7 (by rw [List.length_append]; omega) x (primv ⟨#[70, 70]⟩ (.func (.func 96) #[] #[.pointer (some ⟨w6.heap.size, 0, none⟩), .pointer (some ⟨w6.heap.size + 1, 0, none⟩)])) rfl rfl (by omega) ?_)
      intro w8 hm8 hgg
      have hg9 := Lib.hid (hg8.andThen hgg (fun _ e => .inr e))
      have hf8 : Hid (∀ p ∈ AL, left (.int .i64 p.1) = true ∨ F2 Aw4.heap.size w8 b Al1 p.1 p.2) := Lib.hid (fun p hp => (hf7.out p hp).imp id (fun h => h.kept hgg (.inl rfl)))
      have hnw := Lib.hid (HNEW.out w8 hgg)
      have hrg8 := Lib.hid (hrg7.kept hgg (by intro e; injection e with e; omega) (by intro e; injection e with e; omega))
      have hm9 := Lib.hid hm8
      have hs8 := hgg.size
      clear hm7 hg8 hrg7 hgg hm8
      go_wp2_with fail
      go_roundw
      case rel =>
        refine ⟨_, cnt6, _ :: Al1, hrg8.out, by simp only [List.length_cons]; omega, hm9.out, Lib.hid (fun z hz => ?_), hg9.out, by omega, Lib.hid (fun p hp => ?_)⟩
        · rcases List.mem_cons.1 hz with rfl | hz
          · exact hx
          · exact Ahk.out z hz
        · by_cases hpx : p.1 = x
          · right
            have h1 := ALU.out p hp
            rw [hpx] at h1
            have h2 := hlx.symm.trans h1
            injection h2 with h2
            rw [← h2, hpx]
            exact hnw.out
          · rcases hf8.out p hp with h | h
            · left
              rw [HKL.out]
              exact left_other h hpx
            · right
              exact h.cons (fun e => hpx e.symm)
      case measure => rw [hrg8.out.left_eq, hleq]; omega
end Go.Proofs.YtlodbibagmblkaaGreatDoor
namespace Go.Proofs.YtlodbibagmblkaaGreatDoor
open Go Go.RowKit Go.Lib
/-- a primitive of two integers by a function -/
def InsAt (w : World) (L : List (Int × Value)) (n : Int) (f : Nat) : Prop := ∃ p, lk L n = some (insv p) ∧ w.cell? ⟨p, 0, none⟩ = some (.func (.func f) #[] #[]) ∧ p < w.heap.size
theorem InsAt.below {w w' : World} {L : List (Int × Value)} {n : Int} {f : Nat} (h : InsAt w L n f) (hb : Below w.heap.size w w') : InsAt w' L n f := by
  obtain ⟨p, h1, h2, h3⟩ := h
  exact ⟨p, h1, by rw [hb.cell (p := ⟨p, 0, none⟩) h3]; exact h2, Nat.lt_of_lt_of_le h3 hb.size⟩
structure TabOk (w : World) (L : List (Int × Value)) : Prop where
  i1 : InsAt w L 1 26
  i2 : InsAt w L 2 27
  i9 : InsAt w L 9 28
  i10 : InsAt w L 10 29
  i11 : InsAt w L 11 31
  i12 : InsAt w L 12 32
  i13 : InsAt w L 13 33
  i14 : InsAt w L 14 35
  i15 : InsAt w L 15 36
  i16 : InsAt w L 16 37
  i17 : InsAt w L 17 38
  i19 : InsAt w L 19 39
  tx : ∀ k v, lk textsL k = some v → lk L k = some v
  no : lk L 0 = none
  or : OrdAt w L 0 ⟨#[73, 73]⟩ 76 41 42
  of : OrdAt w L 40 ⟨#[70, 70]⟩ 80 45 46
  fl : FltAt w L
  i18 : lk L 18 = some (primv ⟨#[73, 76]⟩ (.func (.func 47) #[] #[]))
  i20 : lk L 20 = some (primv ⟨#[73, 76]⟩ (.func (.func 49) #[] #[]))
  i21 : lk L 21 = some (primv ⟨#[73]⟩ (.func (.func 52) #[] #[]))
  non : ∀ n : Int, ¬ (1 ≤ n ∧ n ≤ 21) → ¬ (41 ≤ n ∧ n ≤ 57) → ¬ (61 ≤ n ∧ n ≤ 72) → ¬ (81 ≤ n ∧ n ≤ 84) → lk L n = none
theorem OrdAt.below {w w' : World} {L : List (Int × Value)} {fr : Int} {s : ByteArray} {fc fg fb : Nat} (h : OrdAt w L fr s fc fg fb) (hb : Below w.heap.size w w') : OrdAt w' L fr s fc fg fb := by
  obtain ⟨pb, pg, h1, h2, h3, h4, h5⟩ := h
  refine ⟨pb, pg, by rw [hb.cell (p := ⟨pb, 0, none⟩) h3]; exact h1, by rw [hb.cell (p := ⟨pg, 0, none⟩) h4]; exact h2, Nat.lt_of_lt_of_le h3 hb.size, Nat.lt_of_lt_of_le h4 hb.size, fun how e1 e2 => ?_⟩
  obtain ⟨p, p1, p2, p3⟩ := h5 how e1 e2
  exact ⟨p, p1, by rw [hb.cell (p := ⟨p, 0, none⟩) p3]; exact p2, Nat.lt_of_lt_of_le p3 hb.size⟩
theorem TabOk.below {w w' : World} {L : List (Int × Value)} (h : TabOk w L) (hb : Below w.heap.size w w') : TabOk w' L :=
  ⟨h.i1.below hb, h.i2.below hb, h.i9.below hb, h.i10.below hb, h.i11.below hb, h.i12.below hb, h.i13.below hb, h.i14.below hb, h.i15.below hb, h.i16.below hb, h.i17.below hb, h.i19.below hb, h.tx, h.no, h.or.below hb, h.of.below hb, h.fl.below hb, h.i18, h.i20, h.i21, h.non⟩
theorem texts_keys2 : ∀ x ∈ textsL, (61 ≤ x.1 ∧ x.1 ≤ 72) ∨ (81 ≤ x.1 ∧ x.1 ≤ 84) := by
  intro x hx
  simp only [textsL, List.mem_cons, List.not_mem_nil, or_false] at hx
  rcases hx with rfl | rfl | rfl | rfl | rfl | rfl | rfl | rfl | rfl | rfl | rfl | rfl | rfl | rfl | rfl | rfl <;> decide
theorem texts_keys : ∀ x ∈ textsL, 61 ≤ x.1 := by
  intro x hx
  simp only [textsL, List.mem_cons, List.not_mem_nil, or_false] at hx
  rcases hx with rfl | rfl | rfl | rfl | rfl | rfl | rfl | rfl | rfl | rfl | rfl | rfl | rfl | rfl | rfl | rfl <;> decide
set_option maxRecDepth 8000 in
set_option maxHeartbeats 8000000 in
theorem table_any (w : World) : Calls Tryz.prog 18 #[] w fun e w' => ∃ b L, e = .returned (.map (some b)) ∧ MapAt w' b L ∧ TabOk w' L ∧ Below w.heap.size w w' := by
  have hmm := @run_makeMap Tryz.prog
  obtain ⟨W1, hW1⟩ : ∃ W1, (w.alloc (.map #[] 0)).alloc (.cells #[.map (some w.heap.size)] 50) = W1 := ⟨_, rfl⟩
  have m0 : MapAt W1 w.heap.size [] := by rw [← hW1]; exact (MapAt.new w).kept (World.grownBy_alloc _ _ none) (by simp)
  have g0 : w.grownBy W1 (some w.heap.size) := by rw [← hW1]; exact (World.grownBy_alloc w _ _).andThen (World.grownBy_alloc _ _ _) (fun _ e => .inr e)
  have c0 : W1.cell? ⟨w.heap.size + 1, 0, none⟩ = some (.map (some w.heap.size)) := by
    have q := heap_alloc_at (w.alloc (.map #[] 0)) (.cells #[.map (some w.heap.size)] 50)
    rw [hW1] at q
    have e : (w.alloc (.map #[] 0)).heap.size = w.heap.size + 1 := by simp
    rw [e] at q
    simp [World.cell?, q]
  have s0 : w.heap.size + 1 < W1.heap.size := by rw [← hW1]; simp
  have k0 : Ins W1 w.heap.size [] := fun x hx => by simp at hx
  obtain ⟨b, hb⟩ : ∃ b, w.heap.size = b := ⟨_, rfl⟩
  have HB := Lib.hid hb
  have M0 := Lib.hid m0
  have G0 := Lib.hid g0
  have K0 := Lib.hid k0
  clear m0 g0 k0 hb
  go_enter Tryz.func18, Tryz.ntmps18
  go_wp2_with fail
  refine (ints_any 1 26 w.heap.size (w.heap.size + 1) _ _ _ M0.out (by simp) K0.out (by omega) c0 s0 (by omega)).mono ?_
  rintro e w1 ⟨rfl, p1, m, k, g, c1, s1⟩
  have M1 := Lib.hid m
  have K1 := Lib.hid k
  have G1 := Lib.hid (G0.out.andThen g (fun _ e => .inr e))
  clear m k g M0 K0 G0 c0 s0
  go_wp2_with fail
  refine (ints_any 2 27 w.heap.size (w.heap.size + 1) _ _ _ M1.out (by simp) K1.out (by omega) c1 s1 (by omega)).mono ?_
  rintro e w2 ⟨rfl, p2, m, k, g, c2, s2⟩
  have M2 := Lib.hid m
  have K2 := Lib.hid k
  have G2 := Lib.hid (G1.out.andThen g (fun _ e => .inr e))
  clear m k g M1 K1 G1 c1 s1
  go_wp2_with fail
  refine (ints_any 9 28 w.heap.size (w.heap.size + 1) _ _ _ M2.out (by simp) K2.out (by omega) c2 s2 (by omega)).mono ?_
  rintro e w3 ⟨rfl, p3, m, k, g, c3, s3⟩
  have M3 := Lib.hid m
  have K3 := Lib.hid k
  have G3 := Lib.hid (G2.out.andThen g (fun _ e => .inr e))
  clear m k g M2 K2 G2 c2 s2
  go_wp2_with fail
  refine (ints_any 10 29 w.heap.size (w.heap.size + 1) _ _ _ M3.out (by simp) K3.out (by omega) c3 s3 (by omega)).mono ?_
  rintro e w4 ⟨rfl, p4, m, k, g, c4, s4⟩
  have M4 := Lib.hid m
  have K4 := Lib.hid k
  have G4 := Lib.hid (G3.out.andThen g (fun _ e => .inr e))
  clear m k g M3 K3 G3 c3 s3
  go_wp2_with fail
  refine (ints_any 11 31 w.heap.size (w.heap.size + 1) _ _ _ M4.out (by simp) K4.out (by omega) c4 s4 (by omega)).mono ?_
  rintro e w5 ⟨rfl, p5, m, k, g, c5, s5⟩
  have M5 := Lib.hid m
  have K5 := Lib.hid k
  have G5 := Lib.hid (G4.out.andThen g (fun _ e => .inr e))
  clear m k g M4 K4 G4 c4 s4
  go_wp2_with fail
  refine (ints_any 12 32 w.heap.size (w.heap.size + 1) _ _ _ M5.out (by simp) K5.out (by omega) c5 s5 (by omega)).mono ?_
  rintro e w6 ⟨rfl, p6, m, k, g, c6, s6⟩
  have M6 := Lib.hid m
  have K6 := Lib.hid k
  have G6 := Lib.hid (G5.out.andThen g (fun _ e => .inr e))
  clear m k g M5 K5 G5 c5 s5
  go_wp2_with fail
  refine (ints_any 13 33 w.heap.size (w.heap.size + 1) _ _ _ M6.out (by simp) K6.out (by omega) c6 s6 (by omega)).mono ?_
  rintro e w7 ⟨rfl, p7, m, k, g, c7, s7⟩
  have M7 := Lib.hid m
  have K7 := Lib.hid k
  have G7 := Lib.hid (G6.out.andThen g (fun _ e => .inr e))
  clear m k g M6 K6 G6 c6 s6
  go_wp2_with fail
  refine (ints_any 14 35 w.heap.size (w.heap.size + 1) _ _ _ M7.out (by simp) K7.out (by omega) c7 s7 (by omega)).mono ?_
  rintro e w8 ⟨rfl, p8, m, k, g, c8, s8⟩
  have M8 := Lib.hid m
  have K8 := Lib.hid k
  have G8 := Lib.hid (G7.out.andThen g (fun _ e => .inr e))
  clear m k g M7 K7 G7 c7 s7
  go_wp2_with fail
  refine (ints_any 15 36 w.heap.size (w.heap.size + 1) _ _ _ M8.out (by simp) K8.out (by omega) c8 s8 (by omega)).mono ?_
  rintro e w9 ⟨rfl, p9, m, k, g, c9, s9⟩
  have M9 := Lib.hid m
  have K9 := Lib.hid k
  have G9 := Lib.hid (G8.out.andThen g (fun _ e => .inr e))
  clear m k g M8 K8 G8 c8 s8
  go_wp2_with fail
  refine (ints_any 16 37 w.heap.size (w.heap.size + 1) _ _ _ M9.out (by simp) K9.out (by omega) c9 s9 (by omega)).mono ?_
  rintro e w10 ⟨rfl, p10, m, k, g, c10, s10⟩
  have M10 := Lib.hid m
  have K10 := Lib.hid k
  have G10 := Lib.hid (G9.out.andThen g (fun _ e => .inr e))
  clear m k g M9 K9 G9 c9 s9
  go_wp2_with fail
  refine (ints_any 17 38 w.heap.size (w.heap.size + 1) _ _ _ M10.out (by simp) K10.out (by omega) c10 s10 (by omega)).mono ?_
  rintro e w11 ⟨rfl, p11, m, k, g, c11, s11⟩
  have M11 := Lib.hid m
  have K11 := Lib.hid k
  have G11 := Lib.hid (G10.out.andThen g (fun _ e => .inr e))
  clear m k g M10 K10 G10 c10 s10
  go_wp2_with fail
  refine (ints_any 19 39 w.heap.size (w.heap.size + 1) _ _ _ M11.out (by simp) K11.out (by omega) c11 s11 (by omega)).mono ?_
  rintro e w12 ⟨rfl, p12, m, k, g, c12, s12⟩
  have M12 := Lib.hid m
  have K12 := Lib.hid k
  have G12 := Lib.hid (G11.out.andThen g (fun _ e => .inr e))
  clear m k g M11 K11 G11 c11 s11
  go_wp2_with fail
  refine (ordersLarge_any 0 ⟨#[73, 73]⟩ 41 42 w.heap.size _ _ M12.out (by simp) (by omega)).mono ?_
  rintro e v1 ⟨rfl, L1, m, hL1, hl1, g, opb, opg, ox⟩
  have OA := Lib.hid ox
  clear ox
  have MA := Lib.hid m
  have KA := Lib.hid (K12.out.kept g)
  have GA := Lib.hid (G12.out.andThen g (fun _ e => .inr e))
  have cA := grown_cell g c12 s12 (by omega)
  have sA := Nat.lt_of_lt_of_le s12 g.size
  have HL1 := Lib.hid hL1
  clear m g hL1 M12 K12 G12 c12 s12
  go_wp2_with fail
  refine (ordersU_any 40 ⟨#[70, 70]⟩ 45 46 w.heap.size _ _ MA.out (by simp only [List.length_append, List.length_cons, List.length_nil]; omega) (by omega)).mono ?_
  rintro e v2 ⟨rfl, L2, m, hL2, hl2, g, opb2, opg2, ox⟩
  have PB := Lib.hid ox
  clear ox
  have MB := Lib.hid m
  have KB := Lib.hid (KA.out.kept g)
  have OB := Lib.hid (OA.out.kept g)
  have GB := Lib.hid (GA.out.andThen g (fun _ e => .inr e))
  have cB := grown_cell g cA sA (by omega)
  have sB := Nat.lt_of_lt_of_le sA g.size
  have HL2 := Lib.hid hL2
  clear m g hL2 MA KA GA cA sA
  go_wp2_with (at_mapUpdate; refine wpList_put _ rfl (.tmp 33) (.const (.int .i64 18)) (.tmp 34) 50 48 (.inl rfl) Tryz.underlying50 w.heap.size _ rfl MB.out (by simp only [List.length_append, List.length_cons, List.length_nil]; omega) 18 (primv ⟨#[73, 76]⟩ (.func (.func 47) #[] #[])) rfl rfl (by omega) ?_)
  intro x0 m g
  have MC := Lib.hid m
  have KC := Lib.hid (KB.out.kept g)
  have OC := Lib.hid (OB.out.kept g)
  have PC := Lib.hid (PB.out.kept g)
  have GC := Lib.hid (GB.out.andThen g (fun _ e => .inr e))
  have cC := grown_cell g cB sB (by omega)
  have sC := Nat.lt_of_lt_of_le sB g.size
  clear m g MB KB GB cB sB
  go_wp2_with (at_mapUpdate; refine wpList_put _ rfl (.tmp 35) (.const (.int .i64 20)) (.tmp 36) 50 48 (.inl rfl) Tryz.underlying50 w.heap.size _ rfl MC.out (by simp only [List.length_append, List.length_cons, List.length_nil]; omega) 20 (primv ⟨#[73, 76]⟩ (.func (.func 49) #[] #[])) rfl rfl (by omega) ?_)
  intro x1 m g
  have MD := Lib.hid m
  have KD := Lib.hid (KC.out.kept g)
  have OD := Lib.hid (OC.out.kept g)
  have PD := Lib.hid (PC.out.kept g)
  have GD := Lib.hid (GC.out.andThen g (fun _ e => .inr e))
  have cD := grown_cell g cC sC (by omega)
  have sD := Nat.lt_of_lt_of_le sC g.size
  clear m g MC KC GC cC sC
  go_wp2_with (at_mapUpdate; refine wpList_put _ rfl (.tmp 37) (.const (.int .i64 21)) (.tmp 38) 50 48 (.inl rfl) Tryz.underlying50 w.heap.size _ rfl MD.out (by simp only [List.length_append, List.length_cons, List.length_nil]; omega) 21 (primv ⟨#[73]⟩ (.func (.func 52) #[] #[])) rfl rfl (by omega) ?_)
  intro x2 m g
  have ME := Lib.hid m
  have KE := Lib.hid (KD.out.kept g)
  have OE := Lib.hid (OD.out.kept g)
  have PE := Lib.hid (PD.out.kept g)
  have GE := Lib.hid (GD.out.andThen g (fun _ e => .inr e))
  have cE := grown_cell g cD sD (by omega)
  have sE := Nat.lt_of_lt_of_le sD g.size
  clear m g MD KD GD cD sD
  go_wp2_with fail
  refine (floats_any w.heap.size _ _ ME.out (by simp only [List.length_append, List.length_cons, List.length_nil]; omega)).mono ?_
  rintro e v3 ⟨rfl, L3, m, hL3, hl3, g, hfb⟩
  have FF := Lib.hid hfb
  have MF := Lib.hid m
  have KF := Lib.hid (KE.out.kept g)
  have OF := Lib.hid (OE.out.kept g)
  have PF := Lib.hid (PE.out.kept g)
  have GF := Lib.hid (GE.out.andThen g (fun _ e => .inr e))
  have cF := grown_cell g cE sE (by omega)
  have sF := Nat.lt_of_lt_of_le sE g.size
  have HL3 := Lib.hid hL3
  clear m g hL3 hfb ME KE GE cE sE
  go_wp2_with fail
  refine (texts_any w.heap.size _ _ MF.out (by simp only [List.length_append, List.length_cons, List.length_nil]; omega)).mono ?_
  rintro e v4 ⟨rfl, m, g⟩
  have MG := Lib.hid m
  have KG := Lib.hid (KF.out.kept g)
  have OG := Lib.hid (OF.out.kept g)
  have PG := Lib.hid (PF.out.kept g)
  have FG := Lib.hid (FF.out.kept g)
  have GG := Lib.hid (GF.out.andThen g (fun _ e => .inr e))
  have cG := grown_cell g cF sF (by omega)
  have sG := Nat.lt_of_lt_of_le sF g.size
  clear m g MF KF GF cF sF
  go_wp2_with fail
  go_ret
  obtain ⟨LI, hLI⟩ : ∃ LI : List (Int × Value), LI = [(19, insv p12), (17, insv p11), (16, insv p10), (15, insv p9), (14, insv p8), (13, insv p7), (12, insv p6), (11, insv p5), (10, insv p4), (9, insv p3), (2, insv p2), (1, insv p1)] := ⟨_, rfl⟩
  obtain ⟨LL, hLL⟩ : ∃ LL, LL = textsL ++ (L3 ++ ((21, primv ⟨#[73]⟩ (.func (.func 52) #[] #[])) :: (20, primv ⟨#[73, 76]⟩ (.func (.func 49) #[] #[])) :: (18, primv ⟨#[73, 76]⟩ (.func (.func 47) #[] #[])) :: (L2 ++ (L1 ++ LI)))) := ⟨_, rfl⟩
  have MG2 : MapAt v4 w.heap.size LL := by rw [hLL, hLI]; exact MG.out
  refine ⟨w.heap.size, LL, rfl, MG2, ?_, (Below.refl _ _).grown GG.out (Nat.le_refl _) (fun k hk => by injection hk with hk; omega)⟩
  have h1 := HL1.out
  have h2 := HL2.out
  have h3 := HL3.out
  have skip : ∀ (n : Int), n < 41 → ¬ (3 ≤ n ∧ n ≤ 8) → n ≠ 18 → n ≠ 20 → n ≠ 21 → lk LL n = lk LI n := by
    intro n e1 e2 e3 e4 e5
    rw [hLL]
    rw [lk_skip (k := n) (fun x hx => by have := texts_keys x hx; omega), lk_skip (k := n) (A := L3) (fun x hx => by have := (h3 x hx); omega), lk_miss (j := 21) (k := n) _ _ (by omega), lk_miss (j := 20) (k := n) _ _ (by omega), lk_miss (j := 18) (k := n) _ _ (by omega), lk_skip (k := n) (A := L2) (fun x hx => by have := h2 x hx; omega), lk_skip (k := n) (A := L1) (fun x hx => by have := h1 x hx; omega)]
  have K := KG.out
  have of8 : OrdAt v4 LL 40 ⟨#[70, 70]⟩ 80 45 46 := PG.out.at fun n v e1 e2 e3 => by
    rw [hLL]
    rw [lk_skip (k := n) (fun x hx => by have := texts_keys x hx; omega), lk_skip (k := n) (A := L3) (fun x hx => by have := (h3 x hx); omega), lk_miss (j := 21) (k := n) _ _ (by omega), lk_miss (j := 20) (k := n) _ _ (by omega), lk_miss (j := 18) (k := n) _ _ (by omega), lk_append, e3]
  have fl8 : FltAt v4 LL := FG.out.at.sub fun n v e1 e2 e3 => by
    rw [hLL, lk_skip (k := n) (fun x hx => by have := texts_keys x hx; omega), lk_append, e3]
  have i18 : lk LL 18 = some (primv ⟨#[73, 76]⟩ (.func (.func 47) #[] #[])) := by
    rw [hLL, lk_skip (k := 18) (fun x hx => by have := texts_keys x hx; omega), lk_skip (k := 18) (A := L3) (fun x hx => by have := (h3 x hx); omega), lk_miss (j := 21) (k := 18) _ _ (by omega), lk_miss (j := 20) (k := 18) _ _ (by omega)]; exact lk_hit _ _ _
  have i20 : lk LL 20 = some (primv ⟨#[73, 76]⟩ (.func (.func 49) #[] #[])) := by
    rw [hLL, lk_skip (k := 20) (fun x hx => by have := texts_keys x hx; omega), lk_skip (k := 20) (A := L3) (fun x hx => by have := (h3 x hx); omega), lk_miss (j := 21) (k := 20) _ _ (by omega)]; exact lk_hit _ _ _
  have i21 : lk LL 21 = some (primv ⟨#[73]⟩ (.func (.func 52) #[] #[])) := by
    rw [hLL, lk_skip (k := 21) (fun x hx => by have := texts_keys x hx; omega), lk_skip (k := 21) (A := L3) (fun x hx => by have := (h3 x hx); omega)]; exact lk_hit _ _ _
  have non8 : ∀ n : Int, ¬ (1 ≤ n ∧ n ≤ 21) → ¬ (41 ≤ n ∧ n ≤ 57) → ¬ (61 ≤ n ∧ n ≤ 72) → ¬ (81 ≤ n ∧ n ≤ 84) → lk LL n = none := fun n e1 e2 e3 e4 => by
    rw [hLL, lk_skip (k := n) (fun x hx => by have := texts_keys2 x hx; omega), lk_skip (k := n) (A := L3) (fun x hx => by have := (h3 x hx); omega), lk_miss (j := 21) (k := n) _ _ (by omega), lk_miss (j := 20) (k := n) _ _ (by omega), lk_miss (j := 18) (k := n) _ _ (by omega), lk_skip (k := n) (A := L2) (fun x hx => by have := h2 x hx; omega), lk_skip (k := n) (A := L1) (fun x hx => by have := h1 x hx; omega), hLI]
    rw [lk_none]
    intro x hx
    simp only [List.mem_cons, List.not_mem_nil, or_false] at hx
    rcases hx with rfl | rfl | rfl | rfl | rfl | rfl | rfl | rfl | rfl | rfl | rfl | rfl <;> (simp only; omega)
  have or8 : OrdAt v4 LL 0 ⟨#[73, 73]⟩ 76 41 42 := OG.out.at fun n v e1 e2 e3 => by
    rw [hLL]
    rw [lk_skip (k := n) (fun x hx => by have := texts_keys x hx; omega), lk_skip (k := n) (A := L3) (fun x hx => by have := (h3 x hx); omega), lk_miss (j := 21) (k := n) _ _ (by omega), lk_miss (j := 20) (k := n) _ _ (by omega), lk_miss (j := 18) (k := n) _ _ (by omega), lk_skip (k := n) (A := L2) (fun x hx => by have := h2 x hx; omega), lk_append, e3]
  have i1 : InsAt v4 LL 1 26 := ⟨p1, by rw [skip 1 (by omega) (by omega) (by omega) (by omega) (by omega), hLI]; rw [lk_miss (j := 19) (k := 1) _ _ (by decide)]; rw [lk_miss (j := 17) (k := 1) _ _ (by decide)]; rw [lk_miss (j := 16) (k := 1) _ _ (by decide)]; rw [lk_miss (j := 15) (k := 1) _ _ (by decide)]; rw [lk_miss (j := 14) (k := 1) _ _ (by decide)]; rw [lk_miss (j := 13) (k := 1) _ _ (by decide)]; rw [lk_miss (j := 12) (k := 1) _ _ (by decide)]; rw [lk_miss (j := 11) (k := 1) _ _ (by decide)]; rw [lk_miss (j := 10) (k := 1) _ _ (by decide)]; rw [lk_miss (j := 9) (k := 1) _ _ (by decide)]; rw [lk_miss (j := 2) (k := 1) _ _ (by decide)]; exact lk_hit _ _ _, (K (_, p1) (by simp)).1, (K (26, p1) (by simp)).2.1⟩
  have i2 : InsAt v4 LL 2 27 := ⟨p2, by rw [skip 2 (by omega) (by omega) (by omega) (by omega) (by omega), hLI]; rw [lk_miss (j := 19) (k := 2) _ _ (by decide)]; rw [lk_miss (j := 17) (k := 2) _ _ (by decide)]; rw [lk_miss (j := 16) (k := 2) _ _ (by decide)]; rw [lk_miss (j := 15) (k := 2) _ _ (by decide)]; rw [lk_miss (j := 14) (k := 2) _ _ (by decide)]; rw [lk_miss (j := 13) (k := 2) _ _ (by decide)]; rw [lk_miss (j := 12) (k := 2) _ _ (by decide)]; rw [lk_miss (j := 11) (k := 2) _ _ (by decide)]; rw [lk_miss (j := 10) (k := 2) _ _ (by decide)]; rw [lk_miss (j := 9) (k := 2) _ _ (by decide)]; exact lk_hit _ _ _, (K (_, p2) (by simp)).1, (K (27, p2) (by simp)).2.1⟩
  have i9 : InsAt v4 LL 9 28 := ⟨p3, by rw [skip 9 (by omega) (by omega) (by omega) (by omega) (by omega), hLI]; rw [lk_miss (j := 19) (k := 9) _ _ (by decide)]; rw [lk_miss (j := 17) (k := 9) _ _ (by decide)]; rw [lk_miss (j := 16) (k := 9) _ _ (by decide)]; rw [lk_miss (j := 15) (k := 9) _ _ (by decide)]; rw [lk_miss (j := 14) (k := 9) _ _ (by decide)]; rw [lk_miss (j := 13) (k := 9) _ _ (by decide)]; rw [lk_miss (j := 12) (k := 9) _ _ (by decide)]; rw [lk_miss (j := 11) (k := 9) _ _ (by decide)]; rw [lk_miss (j := 10) (k := 9) _ _ (by decide)]; exact lk_hit _ _ _, (K (_, p3) (by simp)).1, (K (28, p3) (by simp)).2.1⟩
  have i10 : InsAt v4 LL 10 29 := ⟨p4, by rw [skip 10 (by omega) (by omega) (by omega) (by omega) (by omega), hLI]; rw [lk_miss (j := 19) (k := 10) _ _ (by decide)]; rw [lk_miss (j := 17) (k := 10) _ _ (by decide)]; rw [lk_miss (j := 16) (k := 10) _ _ (by decide)]; rw [lk_miss (j := 15) (k := 10) _ _ (by decide)]; rw [lk_miss (j := 14) (k := 10) _ _ (by decide)]; rw [lk_miss (j := 13) (k := 10) _ _ (by decide)]; rw [lk_miss (j := 12) (k := 10) _ _ (by decide)]; rw [lk_miss (j := 11) (k := 10) _ _ (by decide)]; exact lk_hit _ _ _, (K (_, p4) (by simp)).1, (K (29, p4) (by simp)).2.1⟩
  have i11 : InsAt v4 LL 11 31 := ⟨p5, by rw [skip 11 (by omega) (by omega) (by omega) (by omega) (by omega), hLI]; rw [lk_miss (j := 19) (k := 11) _ _ (by decide)]; rw [lk_miss (j := 17) (k := 11) _ _ (by decide)]; rw [lk_miss (j := 16) (k := 11) _ _ (by decide)]; rw [lk_miss (j := 15) (k := 11) _ _ (by decide)]; rw [lk_miss (j := 14) (k := 11) _ _ (by decide)]; rw [lk_miss (j := 13) (k := 11) _ _ (by decide)]; rw [lk_miss (j := 12) (k := 11) _ _ (by decide)]; exact lk_hit _ _ _, (K (_, p5) (by simp)).1, (K (31, p5) (by simp)).2.1⟩
  have i12 : InsAt v4 LL 12 32 := ⟨p6, by rw [skip 12 (by omega) (by omega) (by omega) (by omega) (by omega), hLI]; rw [lk_miss (j := 19) (k := 12) _ _ (by decide)]; rw [lk_miss (j := 17) (k := 12) _ _ (by decide)]; rw [lk_miss (j := 16) (k := 12) _ _ (by decide)]; rw [lk_miss (j := 15) (k := 12) _ _ (by decide)]; rw [lk_miss (j := 14) (k := 12) _ _ (by decide)]; rw [lk_miss (j := 13) (k := 12) _ _ (by decide)]; exact lk_hit _ _ _, (K (_, p6) (by simp)).1, (K (32, p6) (by simp)).2.1⟩
  have i13 : InsAt v4 LL 13 33 := ⟨p7, by rw [skip 13 (by omega) (by omega) (by omega) (by omega) (by omega), hLI]; rw [lk_miss (j := 19) (k := 13) _ _ (by decide)]; rw [lk_miss (j := 17) (k := 13) _ _ (by decide)]; rw [lk_miss (j := 16) (k := 13) _ _ (by decide)]; rw [lk_miss (j := 15) (k := 13) _ _ (by decide)]; rw [lk_miss (j := 14) (k := 13) _ _ (by decide)]; exact lk_hit _ _ _, (K (_, p7) (by simp)).1, (K (33, p7) (by simp)).2.1⟩
  have i14 : InsAt v4 LL 14 35 := ⟨p8, by rw [skip 14 (by omega) (by omega) (by omega) (by omega) (by omega), hLI]; rw [lk_miss (j := 19) (k := 14) _ _ (by decide)]; rw [lk_miss (j := 17) (k := 14) _ _ (by decide)]; rw [lk_miss (j := 16) (k := 14) _ _ (by decide)]; rw [lk_miss (j := 15) (k := 14) _ _ (by decide)]; exact lk_hit _ _ _, (K (_, p8) (by simp)).1, (K (35, p8) (by simp)).2.1⟩
  have i15 : InsAt v4 LL 15 36 := ⟨p9, by rw [skip 15 (by omega) (by omega) (by omega) (by omega) (by omega), hLI]; rw [lk_miss (j := 19) (k := 15) _ _ (by decide)]; rw [lk_miss (j := 17) (k := 15) _ _ (by decide)]; rw [lk_miss (j := 16) (k := 15) _ _ (by decide)]; exact lk_hit _ _ _, (K (_, p9) (by simp)).1, (K (36, p9) (by simp)).2.1⟩
  have i16 : InsAt v4 LL 16 37 := ⟨p10, by rw [skip 16 (by omega) (by omega) (by omega) (by omega) (by omega), hLI]; rw [lk_miss (j := 19) (k := 16) _ _ (by decide)]; rw [lk_miss (j := 17) (k := 16) _ _ (by decide)]; exact lk_hit _ _ _, (K (_, p10) (by simp)).1, (K (37, p10) (by simp)).2.1⟩
  have i17 : InsAt v4 LL 17 38 := ⟨p11, by rw [skip 17 (by omega) (by omega) (by omega) (by omega) (by omega), hLI]; rw [lk_miss (j := 19) (k := 17) _ _ (by decide)]; exact lk_hit _ _ _, (K (_, p11) (by simp)).1, (K (38, p11) (by simp)).2.1⟩
  have i19 : InsAt v4 LL 19 39 := ⟨p12, by rw [skip 19 (by omega) (by omega) (by omega) (by omega) (by omega), hLI];  exact lk_hit _ _ _, (K (_, p12) (by simp)).1, (K (39, p12) (by simp)).2.1⟩
  exact ⟨i1, i2, i9, i10, i11, i12, i13, i14, i15, i16, i17, i19, fun k v hk => by rw [hLL, lk_append, hk], by rw [skip 0 (by omega) (by omega) (by omega) (by omega) (by omega), hLI]; rw [lk_none]; intro x hx; simp only [List.mem_cons, List.not_mem_nil, or_false] at hx; rcases hx with rfl | rfl | rfl | rfl | rfl | rfl | rfl | rfl | rfl | rfl | rfl | rfl <;> simp, or8, of8, fl8, i18, i20, i21, non8⟩
end Go.Proofs.YtlodbibagmblkaaGreatDoor
