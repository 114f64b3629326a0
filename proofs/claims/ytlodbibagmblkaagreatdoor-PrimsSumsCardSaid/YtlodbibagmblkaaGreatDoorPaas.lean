/- A long quotient of words: the contract of div where the divisor has two words or more. Quotients by nought: Quo and Div fail. Quotients of all large numbers: the contracts of Quo and Div. -/
import Derived.Test.YtlodbibagmblkaaGreatDoorPaaq
import Derived.Test.YtlodbibagmblkaaGreatDoorPaar
import Derived.Test.YtlodbibagmblkaaGreatDoorPaak
import Derived.Test.YtlodbibagmblkaaGreatDoorPaag
import Derived.Test.YtlodbibagmblkaaGreatDoorPaae
import Derived.Laws.CopyOwn
import Derived.Test.YtlodbibagmblkaaGreatDoorPaap
namespace Go.Proofs.YtlodbibagmblkaaGreatDoor
open Go.RowKit Go.Lib
set_option maxHeartbeats 1000000 in
theorem lz32_any (x : Nat) (w : World) (hx : x < 4294967296) :
    Calls Tryz.prog 137 #[.int .u32 x] w fun e w' => e = .returned (.int .i64 (32 - (Lib.bitLen x : Int))) ∧ w = w' := by
  have HQ := Lib.hid (fun w => Tryz.bits_Len32 (x : Int) w (by omega) (by omega))
  have hbl : Lib.bitLen x ≤ 32 := bitLen_le x 32 (by omega) (by omega)
  rw [Int.toNat_natCast] at HQ
  obtain ⟨L, hL⟩ : ∃ L, Lib.bitLen x = L := ⟨_, rfl⟩
  rw [hL] at HQ hbl ⊢
  clear hL
  go_enter Tryz.func137, Tryz.ntmps137
  go_wp2_with fail
  refine (HQ.out _).mono ?_
  rintro e w' ⟨rfl, rfl⟩
  go_wp2_with fail
  go_ret
  exact ⟨rfl, rfl⟩
theorem left_wd (v : Value) (N sh : Nat) (w : World) (h : Rd w v (Pl.wd N)) (hl : (Pl.wd N).length ≤ 2000) (hs : sh < 32) :
    Calls Tryz.prog 83 #[v, .int .u64 sh] w fun e w' => ∃ v', e = .returned v' ∧ Rd w' v' (Pl.wd (N * 2 ^ sh)) ∧ Below w.heap.size w w' := by
  have h1 := left_any v (Pl.wd N) sh w h hl (Pl.wd_ws N) (by omega)
  have hlt : N * 2 ^ sh < 4294967296 ^ (sh / 32 + (Pl.wd N).length + 1) := by
    have h2 := Pl.num_ws (Pl.wd_ws N)
    rw [Pl.wd_num] at h2
    have h3 : (2 : Nat) ^ sh ≤ 2 ^ 32 := Nat.pow_le_pow_right (by decide) (by omega)
    rw [show sh / 32 = 0 by omega, Nat.zero_add, Nat.pow_succ]
    exact Nat.lt_of_lt_of_le (Nat.mul_lt_mul_of_pos_right h2 (Nat.two_pow_pos _)) (Nat.mul_le_mul_left _ h3)
  rw [Pl.wd_num, show LeftOk w (sh / 32 + (Pl.wd N).length + 1) (N * 2 ^ sh) = fun e w' => ∃ v', e = .returned v' ∧ Rd w' v' (Pl.trimW (Pl.dn (sh / 32 + (Pl.wd N).length + 1) (N * 2 ^ sh))) ∧ Below w.heap.size w w' from rfl, Pl.trimW_wd (fun x hx => Pl.dn_lt hx) (Pl.num_dn _ _ hlt)] at h1
  exact h1
theorem right_wd (v : Value) (N sh : Nat) (w : World) (h : Rd w v (Pl.wd N)) (hl : (Pl.wd N).length ≤ 2000) (hs : sh < 32) :
    Calls Tryz.prog 84 #[v, .int .u64 sh] w (RightOk w (Pl.wd (N / 2 ^ sh))) := by
  have e : Pl.shr (Pl.wd N) sh = Pl.wd (N / 2 ^ sh) := by
    have h2 := Pl.num_ws (Pl.wd_ws N)
    rw [Pl.wd_num] at h2
    unfold Pl.shr
    rw [Pl.wd_num, show sh / 32 = 0 by omega, Nat.sub_zero]
    exact Pl.trimW_wd (fun x hx => Pl.dn_lt hx) (Pl.num_dn _ _ (Nat.lt_of_le_of_lt (Nat.div_le_self _ _) h2))
  rw [← e]
  rcases Nat.eq_zero_or_pos (Pl.wd N).length with h0 | h0
  · exact right_far v _ sh w h (by omega) (by omega)
  · exact right_near v _ sh w h hl (Pl.wd_ws N) (by omega) (by omega)
theorem splice_wv (us : List Nat) (n : Nat) : splice (wv (List.replicate n 0)) 0 (wv us) = wv (us ++ List.replicate (n - us.length) 0) := by
  unfold splice
  rw [wv_app, wv_len]
  simp [wv]
/-- words copied into a new row -/
theorem copy_words {w : World} {g n uc : Nat} {ua : Option Addr} {us : List Nat} (hrow : Wrow w g (List.replicate n 0)) (hru : Rd w (.slice ua us.length uc) us) (hl : us.length ≤ n) :
    ∃ w', (Builtin.copy_ #[90, 90] 3 #[.slice (some ⟨g, 0, none⟩) n n, .slice ua us.length uc]).run Tryz.prog w = .ok (goInt us.length) w' ∧ Wrow w' g (us ++ List.replicate (n - us.length) 0) ∧ Below g w w' := by
  obtain ⟨i0, hi, hz0, hz1, hz2⟩ := info_parts info74
  have hsz : (Tryz.prog.info? 103).map (·.size) = some 1 := by rw [hi]; simp [hz1]
  rcases hru with ⟨h1, h2⟩ | ⟨b, cap, h1, h2, h3, h4⟩
  · subst h2
    refine ⟨w, ?_, by simpa using hrow, Below.refl _ _⟩
    exact run_copy_none w _ _ _ _ _ _ _ _ _ _ Tryz.underlying90 hsz (by simp)
  · injection h1 with e1 _ _
    subst e1
    have hrun := run_copy_row (P := Tryz.prog) w 90 90 3 103 g 0 n n ⟨b, 0, none⟩ us.length uc (wcells (List.replicate n 0)) 103 (wv us) Tryz.underlying90 hsz hrow (by rw [wv_len]; exact (Nat.min_eq_left hl).symm) (fun j v hj => by
      rw [add_plain, Nat.zero_add]
      unfold wv at hj
      rw [List.getElem?_map] at hj
      obtain ⟨x, hx, rfl⟩ := Option.map_eq_some_iff.1 hj
      exact h4 j x hx) (by rw [wv_len]; simpa [wcells] using hl) (fun v hv => by
      obtain ⟨x, _, rfl⟩ := List.mem_map.1 hv
      rfl)
    rw [wv_len] at hrun
    refine ⟨_, hrun, ?_, below_setRow (Below.refl _ _) (Nat.le_refl _) _⟩
    unfold Wrow
    rw [setRow_heap w g _ _ _ _ hrow]
    have e := splice_wv us n
    unfold splice at e
    rw [wv_len] at e
    simp only [List.append_assoc] at e ⊢
    rw [show (wcells (List.replicate n 0)).toList = wv (List.replicate n 0) from rfl, e]
    rfl
theorem Mid.of {w : World} {g : Nat} {cur pre us post : List Nat} {p n N : Nat} (h : Wrow w g cur) (e : cur = pre ++ (us ++ post)) (hp : pre.length = p) (hn : us.length = n) (hN : p + n + post.length = N) (ws : Pl.Ws us) : Mid w g pre us post p n N := ⟨by rw [← e]; exact h, hp, hn, hN, ws⟩
theorem Onl.row {g g' : Nat} {w w' : World} {zs : List Nat} (h : Onl g w w') (hr : Wrow w g' zs) (hne : g' ≠ g) : Wrow w' g' zs := by
  unfold Wrow
  rw [h.rest g' hne]
  exact hr
/-- what the top word of a number tells -/
theorem top_facts {B m : Nat} (h : (Pl.wd B).length = m + 1) : ∃ L, Lib.bitLen ((Pl.wd B).getD m 0) = L ∧ 2 ^ (L - 1) ≤ (Pl.wd B).getD m 0 ∧ (Pl.wd B).getD m 0 < 2 ^ L ∧ 0 < L ∧ L ≤ 32 := by
  have h0 : (Pl.wd B).getD m 0 ≠ 0 := by
    rcases Pl.wd_tr B with e | ⟨l, c, e, hc⟩
    · rw [e] at h; simp at h
    · rw [e] at h ⊢
      have hl : l.length = m := by simpa using h
      rw [List.getD_eq_getElem?_getD, List.getElem?_append_right (by omega), hl, Nat.sub_self]
      exact hc
  have hw := Pl.getD_ws (Pl.wd_ws B) m
  generalize (Pl.wd B).getD m 0 = t at *
  have hL : t.log2 + 1 = Lib.bitLen t := by rw [log2_len h0 (show t < 18446744073709551616 by omega)]
  refine ⟨_, rfl, ?_, ?_, ?_, bitLen_le t 32 (by omega) (by omega)⟩
  · rw [← hL, Nat.add_sub_cancel]; exact Nat.log2_self_le h0
  · rw [← hL]; exact Nat.lt_log2_self
  · rw [← hL]; omega
set_option maxRecDepth 4000 in
set_option maxHeartbeats 8000000 in
theorem ndiv_long (vx vy : Value) (A B : Nat) (w : World) (hx : Rd w vx (Pl.wd A)) (hy : Rd w vy (Pl.wd B)) (la : (Pl.wd A).length ≤ 1500) (lb : 2 ≤ (Pl.wd B).length) (hge : B ≤ A) :
    Calls Tryz.prog 70 #[vx, vy] w (DivW w A B) := by
  obtain ⟨i0, hi, hz0, hz1, hz2⟩ := info_parts info74
  obtain ⟨m, hm⟩ : ∃ m, (Pl.wd B).length = m + 2 := ⟨(Pl.wd B).length - 2, by omega⟩
  have hlen : m + 2 ≤ (Pl.wd A).length := by
    rw [← hm]
    refine Pl.wd_len_pow ?_
    have := Pl.num_ws (Pl.wd_ws A)
    rw [Pl.wd_num] at this
    omega
  have HC := Lib.hid (ncmp_any vx vy _ _ w hx hy (by omega) (by omega) (Pl.wd_ws A) (Pl.wd_ws B))
  rw [Pl.wd_num, Pl.wd_num] at HC
  have ho : decide (Pl.ordn A B < 0) = false := decide_eq_false (by unfold Pl.ordn; rw [if_neg (by omega)]; split <;> omega)
  obtain ⟨L, hL, hL1, hL2, hL0, hL32⟩ := top_facts hm
  obtain ⟨hV1, hV2, hV3, hV4⟩ := Pl.norm_facts hm rfl hL1 hL2 hL0 hL32
  obtain ⟨up, hup⟩ : ∃ up, 32 - L = up := ⟨_, rfl⟩
  rw [hup] at hV1 hV2 hV3 hV4
  have hups : up < 32 := by omega
  have hs0 : 0 < 2 ^ up := Nat.two_pow_pos _
  have hA : A < 4294967296 ^ (Pl.wd A).length := by
    have := Pl.num_ws (Pl.wd_ws A)
    rwa [Pl.wd_num] at this
  have hBl : 4294967296 ^ (m + 1) ≤ B := by
    have := Pl.tr_ge (Pl.wd_tr B) (fun e => by rw [e] at hm; simp at hm)
    rwa [Pl.wd_num, hm] at this
  have hB0 : 0 < B := Nat.lt_of_lt_of_le (Nat.pow_pos (by decide)) hBl
  -- the results, by numbers
  have HQ : Hid (∀ us cur qs, Pl.Lq us cur qs (B * 2 ^ up) 0 → Pl.num us = A * 2 ^ up → m + 2 ≤ cur.length → Pl.num qs = A / B ∧ Pl.num (cur.take (m + 2)) = A % B * 2 ^ up) := Lib.hid (fun us cur qs h hu hc => by
    have h1 := h.done hu hV3 (Nat.mul_pos hB0 hs0) hc
    rw [Nat.mul_div_mul_right _ _ hs0, Nat.mul_mod_mul_right] at h1
    exact h1)
  have HLV := Lib.hid (fun W (v : Value) (h : Rd W v (Pl.wd B)) => left_wd v B up W h (by omega) hups)
  have HLU := Lib.hid (fun W (v : Value) (h : Rd W v (Pl.wd A)) => left_wd v A up W h (by omega) hups)
  have HRI := Lib.hid (fun W (v : Value) (h : Rd W v (Pl.wd (A % B * 2 ^ up))) => right_wd v (A % B * 2 ^ up) up W h (Nat.le_trans (Pl.wd_len_pow (k := m + 2) (by
    have h1 : A % B * 2 ^ up < B * 2 ^ up := Nat.mul_lt_mul_of_pos_right (Nat.mod_lt _ hB0) hs0
    exact Nat.lt_trans h1 hV3)) (by omega)) hups)
  simp only [Nat.mul_div_cancel _ hs0] at HRI
  have hUl : (Pl.wd (A * 2 ^ up)).length ≤ (Pl.wd A).length + 1 := by
    refine Pl.wd_len_pow ?_
    rw [Nat.pow_succ]
    have h3 : (2 : Nat) ^ up ≤ 2 ^ 32 := Nat.pow_le_pow_right (by decide) (by omega)
    exact Nat.lt_of_lt_of_le (Nat.mul_lt_mul_of_pos_right hA hs0) (Nat.mul_le_mul_left _ h3)
  have HTOP := Lib.hid (fun (us : List Nat) (k : Nat) (hk : k + (m + 2) = (Pl.wd A).length + 1) (h1 : Pl.num us = A * 2 ^ up) (h2 : us.length = (Pl.wd A).length + 1) => Pl.top_less (A := A) (B := B) (s := 2 ^ up) (nB := m + 2) hk (by omega) hA (by simpa using hBl) hs0 h1 h2)
  obtain ⟨V, hV⟩ : ∃ V, B * 2 ^ up = V := ⟨_, rfl⟩
  obtain ⟨U, hU⟩ : ∃ U, A * 2 ^ up = U := ⟨_, rfl⟩
  have hV0 : 0 < V := by rw [← hV]; exact Nat.mul_pos hB0 hs0
  rw [hV] at hV1 hV2 hV3 HQ HLV HTOP
  rw [hU] at HQ HLU HTOP hUl
  have HV3 := Lib.hid hV3
  have hwl := Pl.getD_ws (Pl.wd_ws B) (m + 1)
  have HLZ := Lib.hid (fun W => lz32_any ((Pl.wd B).getD (m + 1) 0) W hwl)
  rw [hL] at HLZ
  have hupI : (32 : Int) - (L : Int) = (up : Int) := by omega
  rw [hupI] at HLZ
  obtain ⟨xa, xc, rfl⟩ := hx.form
  obtain ⟨ya, yc, rfl⟩ := hy.form
  have HX := Lib.hid hx
  have HY := Lib.hid hy
  obtain ⟨n, hn⟩ : ∃ n, (Pl.wd A).length = n := ⟨_, rfl⟩
  rw [hn] at HX HC la hlen hUl HTOP ⊢
  obtain ⟨by_, rfl, hby, hcy⟩ := hy.at (k := m + 1) (by omega)
  obtain ⟨t, ht⟩ : ∃ t, (Pl.wd B).getD (m + 1) 0 = t := ⟨_, rfl⟩
  rw [ht] at hcy hwl HLZ
  rw [hm] at HY HC ⊢
  obtain ⟨ord, hord⟩ : ∃ o, Pl.ordn A B = o := ⟨_, rfl⟩
  rw [hord] at HC ho
  obtain ⟨nQ, hnQ⟩ : ∃ nQ, nQ + (m + 2) = n + 1 := ⟨n + 1 - (m + 2), by omega⟩
  have HV1 : Hid ((Pl.wd V).length = m + 2) := Lib.hid hV1
  have HV2 := Lib.hid hV2
  clear hx hy hm hn hL hL1 hL2 hL0 hL32 hup hV1 hV2 hV3 hV4 hA hBl hB0 hV hU hge hord ht lb hs0
  have hm1 : ((m + 2 : Nat) : Int) - 1 = ((m + 1 : Nat) : Int) := by omega
  have hm2 : (((m + 2 : Nat) : Int) == 1) = false := by rw [beq_eq_false_iff_ne]; omega
  have hupw : IntKind.u64.wrap (up : Int) = (up : Int) := by rw [IntKind.wrap_u64]; omega
  go_enter Tryz.func70, Tryz.ntmps70
  go_wp2_with fail
  refine HC.out.mono ?_
  rintro e w1 ⟨rfl, hb1⟩
  have hcy1 : w1.cell? ⟨by_, m + 1, none⟩ = some (.int .u32 (t : Nat)) := by rw [hb1.cell (p := ⟨by_, m + 1, none⟩) hby]; exact hcy
  have HB1 := Lib.hid hb1
  have HX1 := Lib.hid (HX.out.below hb1)
  have HY1 := Lib.hid (HY.out.below hb1)
  have hs1 := hb1.size
  clear hb1 HC hcy
  go_wp2_with fail
  refine (HLZ.out _).mono ?_
  rintro e w' ⟨rfl, rfl⟩
  go_wp2_with fail
  refine (HLV.out _ _ (by exact HY1.out)).mono ?_
  rintro e w2 ⟨vv, rfl, hrv, hb2⟩
  obtain ⟨va, vc, rfl⟩ := hrv.form
  rw [HV1.out]
  have HB2 := Lib.hid (chain HB1.out hb2 hs1)
  have HX2 := Lib.hid (HX1.out.below hb2)
  have HRV := Lib.hid hrv
  have hs2 : w.heap.size ≤ w2.heap.size := Nat.le_trans hs1 hb2.size
  clear hb2 hcy1 HLZ HX1 HY1 HB1 hrv
  go_wp2_with (at_make; refine wpList_make_full _ rfl _ _ 90 rfl w2.heap.size 103 i0 (.int .u32 0) 1 Tryz.underlying90 hi hz0 hz1 .i64 .i64 _ _ (n + 1) rfl rfl (by omega) (by omega) (by rw [hz2]; omega) (by unfold maxLen; omega) (by simp) ?_)
  intro w3 ho3 hg3
  obtain ⟨gu, hgu⟩ : ∃ g, w2.heap.size = g := ⟨_, rfl⟩
  have hrow := made_row ho3
  rw [hgu] at hrow hs2 ⊢
  have HB3 := Lib.hid (show Below gu w2 w3 from (Below.refl _ _).grown hg3 (by omega) (fun k hk => by cases hk))
  have HROW := Lib.hid hrow
  have HX3 := Lib.hid (HX2.out.below (by rw [hgu]; exact HB3.out))
  -- the divisor, in any world that keeps what lies below u
  have HVB : Hid (∀ b, va = some ⟨b, 0, none⟩ → b < gu) := Lib.hid (fun b hb => by
    obtain ⟨b', e, hlt, _⟩ := HRV.out.at (k := 0) (by rw [HV1.out]; omega)
    rw [e] at hb
    injection hb with hb; injection hb with hb
    omega)
  have HVR : Hid (∀ W, Below gu w2 W → Rd W (.slice va (m + 2) vc) (Pl.wd V)) := Lib.hid (fun W hb => by
    have h1 := HRV.out.below (w' := W) (by rw [hgu]; exact hb)
    rwa [HV1.out] at h1)
  have HG2 := Lib.hid hs2
  clear ho3 hg3 hrow hgu HX2 HRV hs2
  have hul := HROW.out.lt
  go_wp2_with fail
  refine (HLU.out _ _ (by exact HX3.out)).mono ?_
  rintro e w4 ⟨vu, rfl, hru, hb4⟩
  have hrow4 : Wrow w4 gu (List.replicate (n + 1) 0) := by unfold Wrow; rw [hb4.block _ hul]; exact HROW.out
  have HB4 := Lib.hid (HB3.out.trans (hb4.mono (by omega)))
  have hul4 : gu < w4.heap.size := hrow4.lt
  obtain ⟨ua, uc, rfl⟩ := hru.form
  obtain ⟨w5, hrun, hrow5, hb5⟩ := copy_words hrow4 hru hUl
  obtain ⟨lu, hlu⟩ : ∃ lu, (Pl.wd U).length = lu := ⟨_, rfl⟩
  obtain ⟨us0, hus0⟩ : ∃ us0, Pl.wd U ++ List.replicate (n + 1 - (Pl.wd U).length) 0 = us0 := ⟨_, rfl⟩
  have HU0 : Hid (Pl.num us0 = U ∧ us0.length = n + 1 ∧ Pl.Ws us0) := Lib.hid (by
    rw [← hus0]
    refine ⟨?_, ?_, ?_⟩
    · rw [Pl.num_append, Pl.num_replicate, Pl.wd_num]; simp
    · rw [List.length_append, List.length_replicate]; omega
    · intro x hx
      rcases List.mem_append.1 hx with hx | hx
      · exact Pl.wd_ws U x hx
      · exact Pl.ws_replicate _ x hx)
  rw [hus0] at hrow5
  have hul5 : gu < w5.heap.size := hrow5.lt
  have HROW5 := Lib.hid hrow5
  have HB5 := Lib.hid (HB4.out.trans hb5)
  rw [hlu] at hUl hrun ⊢
  have hnI : (n : Int) + 1 - ((m : Int) + 2) = (nQ : Int) := by omega
  clear hb4 hru HX3 HB3 HROW hrow4 hul hrow5 hb5 HB4 hlu hus0 HLU HLV
  go_wp2_with (at_make; refine wpList_make_full _ rfl _ _ 90 rfl w5.heap.size 103 i0 (.int .u32 0) 1 Tryz.underlying90 hi hz0 hz1 .i64 .i64 _ _ nQ rfl rfl (by omega) (by omega) (by rw [hz2]; omega) (by unfold maxLen; omega) (by simp) ?_)
  intro w6 ho6 hg6
  obtain ⟨gq, hgq⟩ : ∃ g, w5.heap.size = g := ⟨_, rfl⟩
  have hrow6 := made_row ho6
  rw [hgq] at hrow6 hul5 ⊢
  have hb6 : Below gq w5 w6 := (Below.refl _ _).grown hg6 (by omega) (fun k hk => by cases hk)
  have HB6 := Lib.hid (HB5.out.trans (hb6.mono (Nat.le_of_lt hul5)))
  have HQ6 := Lib.hid hrow6
  have HROW6 : Hid (Wrow w6 gu us0) := Lib.hid (by unfold Wrow; rw [hb6.block _ hul5]; exact HROW5.out)
  clear ho6 hg6 hrow6 hgq hb6 HROW5 HB5 hi hz0 hz1 hz2 hrun
  have hqu : gq ≠ gu := by omega
  go_wp2_with fail
  go_loopw [13] (fun s13 wr => ∃ (k : Nat) (cur qs : List Nat), k ≤ nQ ∧ s13 = .int .i64 ((k : Int) - 1) ∧ Wrow wr gu cur ∧ Wrow wr gq qs ∧ qs.length = nQ ∧ Pl.Ws qs ∧ Hid (Pl.Lq us0 cur qs V k) ∧ Below gu w2 wr) (fun s13 _ => (RowKit.intOf s13 + 1).toNat)
  case atStart => exact ⟨nQ, us0, List.replicate nQ 0, Nat.le_refl _, rfl, HROW6.out, HQ6.out, by simp, Pl.ws_replicate _, Lib.hid (Pl.Lq.start HU0.out.2.2 (HTOP.out us0 nQ hnQ HU0.out.1 HU0.out.2.1) (by rw [List.drop_replicate, Pl.num_replicate])), HB6.out⟩
  case round =>
    obtain ⟨k, cur, qs, hk, rfl, hrc, hrq, hql, hqw, hlq, hbw⟩ := hrel
    cases k with
    | succ j =>
      have hjl : j + (m + 2) < us0.length := by rw [HU0.out.2.1]; omega
      obtain ⟨pre, mid, post, hcur, hp, hm, hN, hwm, hz, _, hp2, hnm, hlt⟩ := hlq.out.open HU0.out.2.2 HV3.out hV0 hjl
      rw [HU0.out.2.1] at hN
      have hmid : Mid wr gu pre mid post j (m + 3) (n + 1) := Mid.of hrc hcur hp (by omega) (by omega) hwm
      have htk := ntake_any (Pl.wd V) pre mid post va vc gu (n + 1) m j (n + 1) wr hmid (HVR.out wr hbw) HVB.out HV1.out (Pl.wd_ws V) HV2.out (by rw [Pl.wd_num]; exact hlt) (by omega)
      rw [Pl.wd_num] at htk
      have hdl := Pl.word_quo hV0 hlt
      have HNX := Lib.hid (fun (us' : List Nat) (h1 : us'.length = m + 2 + 1) (h2 : Pl.Ws us') (h3 : Pl.num us' = Pl.num mid % V) => Pl.Lq.next (qs := qs) hlq.out hV0 hjl (by rw [hql]; omega) hcur hp hp2 hm hz hnm h1 h2 h3)
      obtain ⟨d, hd⟩ : ∃ d, Pl.num mid / V = d := ⟨_, rfl⟩
      obtain ⟨r, hr⟩ : ∃ r, Pl.num mid % V = r := ⟨_, rfl⟩
      rw [hd, hr] at htk
      rw [hd] at hdl
      rw [hd, hr] at HNX
      have HTK := Lib.hid htk
      have HRQ := Lib.hid hrq
      have HQL := Lib.hid hql
      have HQW := Lib.hid hqw
      have HBW := Lib.hid hbw
      have hjI : ((j + 1 : Nat) : Int) - 1 = (j : Int) := by omega
      rw [hjI]
      have hjq : j < nQ := by omega
      clear hrc hrq hql hqw hlq hbw hcur hp hm hN hwm hz hp2 hnm hlt hmid htk hd hr hjl hjI
      go_wp2_with fail
      refine HTK.out.mono ?_
      rintro e w7 ⟨us', rfl, hmid7, hnum7, honl, hsz⟩
      have hrq7 := honl.row HRQ.out hqu
      have hcell := hrq7.cell (k := j) (by rw [HQL.out]; exact hjq)
      have hfree := hrq7.free j
      have HQ7 := Lib.hid (hrq7.set j d)
      have HU7 := Lib.hid (hmid7.row.other (b := gq) (k := j) (v := .int .u32 (d : Nat)) hqu)
      have HL7 := Lib.hid (HNX.out us' hmid7.hn hmid7.ws hnum7)
      have HB7 := Lib.hid ((HBW.out.trans honl.low).setCell (p := ⟨gq, j, none⟩) (Nat.le_of_lt hul5) (.int .u32 (d : Nat)))
      clear hrq7 hmid7 hnum7 honl hsz
      go_wp2_with fail
      go_roundw
      case rel => exact ⟨j, _, qs.set j d, by omega, by go_num, HU7.out, HQ7.out, by rw [List.length_set]; exact HQL.out, HQW.out.set j hdl, HL7, HB7.out⟩
      case measure => simp [RowKit.intOf]
    | zero =>
      have hcl : cur.length = n + 1 := by rw [hlq.out.len]; exact HU0.out.2.1
      have hres := HQ.out us0 cur qs hlq.out HU0.out.1 (by rw [hcl]; omega)
      have hrd : Rd wr (.slice (some ⟨gu, 0, none⟩) (m + 2) (n + 1)) (cur.take (m + 2)) := .inr ⟨gu, n + 1, by rw [List.length_take, Nat.min_eq_left (by omega)], by rw [List.length_take]; omega, hrc.lt, fun i x hx => by
        rw [List.getElem?_take] at hx
        split at hx
        · obtain ⟨hi, e⟩ := List.getElem?_eq_some_iff.1 hx
          rw [hrc.cell hi, List.getD_eq_getElem?_getD, hx]; rfl
        · cases hx⟩
      have htr := trim_any _ _ wr hrd (by rw [List.length_take]; omega)
      rw [show TrimOk wr (cur.take (m + 2)) = fun e w' => ∃ v', e = .returned v' ∧ Rd wr v' (Pl.trimW (cur.take (m + 2))) ∧ wr = w' from rfl, Pl.trimW_wd ((hlq.out.ws).take _) hres.2] at htr
      have HTR := Lib.hid htr
      have HTQ := Lib.hid (fun (W : World) (h : Rd W (.slice (some ⟨gq, 0, none⟩) nQ nQ) qs) => trim_any _ _ W h (by rw [hql]; omega))
      have HTW := Lib.hid (Pl.trimW_wd hqw hres.1)
      have HRQ := Lib.hid hrq
      have HQL := Lib.hid hql
      have HBW := Lib.hid hbw
      clear hrc hrq hql hqw hlq hbw hcl hres hrd htr
      have hz1 : decide ((0 : Int) ≤ ((0 : Nat) : Int) - 1) = false := by decide
      go_wp2_with fail
      refine HTR.out.mono ?_
      rintro e w' ⟨vr, rfl, hrr, rfl⟩
      have HRR := Lib.hid hrr
      obtain ⟨ra, rn, rc, rfl⟩ := rd_form hrr
      clear hrr HTR
      go_wp2_with fail
      refine (HRI.out _ _ (by exact HRR.out)).mono ?_
      rintro e w8 ⟨vr, b, rfl, hr8, hb8⟩
      have hq8 : Wrow w8 gq qs := by unfold Wrow; rw [hb8.block _ HRQ.out.lt]; exact HRQ.out
      have hrd8 := hq8.rd (cap := nQ) (by rw [HQL.out]; exact Nat.le_refl _)
      rw [HQL.out] at hrd8
      have HT8 := Lib.hid (HTQ.out w8 hrd8)
      have HR8 := Lib.hid hr8
      have HB8 := Lib.hid (HB2.out.trans ((HBW.out.trans (hb8.mono (Nat.le_of_lt (Nat.lt_trans hul5 HRQ.out.lt)))).mono HG2.out))
      obtain ⟨sa, sn, sc, rfl⟩ := rd_form hr8
      clear hr8 hb8 hq8 hrd8 HTQ HRI
      go_wp2_with fail
      refine HT8.out.mono ?_
      rintro e w' ⟨vq, rfl, hrr, rfl⟩
      rw [HTW.out] at hrr
      have HQ8 := Lib.hid hrr
      obtain ⟨qa, qn, qc, rfl⟩ := rd_form hrr
      clear hrr
      go_wp2_with fail
      go_ret2
      exact ⟨_, _, rfl, HQ8.out, HR8.out, HB8.out⟩
/-- div does as it should of all numbers -/
theorem divHyp_any {A B : Nat} (hA : A < 256 ^ 4096) (hB : B < 256 ^ 4096) (h0 : 0 < B) : DivHyp A B := fun vx vy w hx hy => by
  have hl := Nat.le_trans (Pl.wd_len A hA) (show 1024 ≤ 1500 by decide)
  have hB0 : Pl.wd B ≠ [] := fun e => by
    have := Pl.wd_num B
    rw [e] at this
    simp [Pl.num] at this
    omega
  rcases Nat.lt_or_ge A B with h | h
  · exact ndiv_less vx vy A B w hx hy (by omega) (Nat.le_trans (Pl.wd_len B hB) (by decide)) h
  · have h1 : 0 < (Pl.wd B).length := List.length_pos_iff.2 hB0
    by_cases h2 : (Pl.wd B).length = 1
    · exact ndiv_one vx vy A B w hx hy (by omega) h2 h
    · exact ndiv_long vx vy A B w hx hy hl (by omega) h
end Go.Proofs.YtlodbibagmblkaaGreatDoor
namespace Go.Proofs.YtlodbibagmblkaaGreatDoor
open Go.RowKit Go.Lib
set_option maxRecDepth 4000 in
set_option maxHeartbeats 4000000 in
theorem lquo_zero (A B : Int) (w : World) (hA : Pl.Big A) (hB : Pl.Big B) (h0 : B = 0) :
    Calls Tryz.prog 34 #[lof A, lof B] w fun e w' => e = .returned (.tuple #[lv false [], lv false [], .int .i64 90]) ∧ Below w.heap.size w w' := by
  have HTW := Lib.hid (fun W => ltwo_any A B W hA hB)
  have hlb : (Pl.wd B.natAbs).length = 0 := by rw [h0]; show (Pl.wd 0).length = 0; rw [Pl.wd_zero]; rfl
  obtain ⟨na, hna⟩ : ∃ na, decide (A < 0) = na := ⟨_, rfl⟩
  obtain ⟨nb, hnb⟩ : ∃ nb, decide (B < 0) = nb := ⟨_, rfl⟩
  have ha : lof A = .agg #[.bool na, .string (bs (Pl.dgs A.natAbs))] := by unfold lof lv; rw [hna]
  have hb : lof B = .agg #[.bool nb, .string (bs (Pl.dgs B.natAbs))] := by unfold lof lv; rw [hnb]
  rw [ha] at HTW ⊢
  rw [hb] at HTW ⊢
  rw [hna] at HTW
  rw [hnb] at HTW
  generalize bs (Pl.dgs A.natAbs) = sa at *
  generalize bs (Pl.dgs B.natAbs) = sb at *
  generalize A.natAbs = U at *
  generalize B.natAbs = V at *
  clear ha hb hna hnb hA hB h0
  obtain ⟨W3, hW3⟩ : ∃ W3, (((w.alloc (.cells #[.bool na, .string sa] 43)).alloc (.cells #[.bool nb, .string sb] 43)).alloc (.cells #[.bool false, .string ⟨#[]⟩] 43)).alloc (.cells #[.bool false, .string ⟨#[]⟩] 43) = W3 := ⟨_, rfl⟩
  have P0 : Hid (P2 W3 w.heap.size 43 (.bool na) (.string sa)) := Lib.hid (by rw [← hW3]; exact (((P2.new _ _ _ _).alloc _).alloc _).alloc _)
  have P1 : Hid (P2 W3 (w.heap.size + 1) 43 (.bool nb) (.string sb)) := Lib.hid (by
    rw [← hW3]
    have := ((P2.new (w.alloc (.cells #[.bool na, .string sa] 43)) 43 (.bool nb) (.string sb)).alloc (.cells #[.bool false, .string ⟨#[]⟩] 43)).alloc (.cells #[.bool false, .string ⟨#[]⟩] 43)
    simpa using this)
  have R0 : Hid (P2 W3 (w.heap.size + 2) 43 (.bool false) (.string ⟨#[]⟩)) := Lib.hid (by
    rw [← hW3]
    have := (P2.new ((w.alloc (.cells #[.bool na, .string sa] 43)).alloc (.cells #[.bool nb, .string sb] 43)) 43 (.bool false) (.string ⟨#[]⟩)).alloc (.cells #[.bool false, .string ⟨#[]⟩] 43)
    simpa using this)
  have R1 : Hid (P2 W3 (w.heap.size + 3) 43 (.bool false) (.string ⟨#[]⟩)) := Lib.hid (by
    rw [← hW3]
    have := P2.new (((w.alloc (.cells #[.bool na, .string sa] 43)).alloc (.cells #[.bool nb, .string sb] 43)).alloc (.cells #[.bool false, .string ⟨#[]⟩] 43)) 43 (.bool false) (.string ⟨#[]⟩)
    simpa using this)
  have HB3 : Hid (Below w.heap.size w W3) := Lib.hid (by rw [← hW3]; exact ((((Below.refl _ _).alloc (Nat.le_refl _) _).alloc (by simp) _).alloc (by simp; omega) _).alloc (by simp; omega) _)
  have hs3 : w.heap.size + 4 ≤ W3.heap.size := by rw [← hW3]; simp
  obtain ⟨p0, p1, _, _⟩ := P0.out.cells
  obtain ⟨q0, q1, _, _⟩ := P1.out.cells
  go_enter Tryz.func34, Tryz.ntmps34
  go_wp2_with fail
  refine (HTW.out _).mono ?_
  rintro e w4 ⟨va, vb, rfl, hra, hrb, hb4⟩
  obtain ⟨aa, ac, rfl⟩ := hra.form
  obtain ⟨ba, bc, rfl⟩ := hrb.form
  generalize (Pl.wd U).length = lu at *
  generalize (Pl.wd V).length = lv' at *
  subst hlb
  obtain ⟨W5, hW5⟩ : ∃ W5, (w4.alloc (.cells #[.slice aa lu ac, .bool na] 92)).alloc (.cells #[.slice ba 0 bc, .bool nb] 92) = W5 := ⟨_, rfl⟩
  have hb5 : Below w4.heap.size w4 W5 := by rw [← hW5]; exact ((Below.refl _ _).alloc (Nat.le_refl _) _).alloc (by simp) _
  have hs4 : w.heap.size + 4 ≤ w4.heap.size := Nat.le_trans hs3 hb4.size
  have HB5 := Lib.hid (chain (chain HB3.out hb4 (by omega)) hb5 (by omega))
  have R05 := Lib.hid ((R0.out.below hb4).below hb5)
  have R15 := Lib.hid ((R1.out.below hb4).below hb5)
  have RA := Lib.hid (hra.below hb5)
  have RB := Lib.hid (hrb.below hb5)
  have PA : Hid (P2 W5 w4.heap.size 92 (.slice aa lu ac) (.bool na)) := Lib.hid (by rw [← hW5]; exact (P2.new _ _ _ _).alloc _)
  have PB : Hid (P2 W5 (w4.heap.size + 1) 92 (.slice ba 0 bc) (.bool nb)) := Lib.hid (P2.at1 hW5)
  have hs5 : w.heap.size + 4 ≤ W5.heap.size := Nat.le_trans hs4 hb5.size
  clear p0 p1 q0 q1 P0 P1 R0 R1 HB3 hs3 hb4 hra hrb hW3 hb5
  have F0 := Lib.hid ((R05.out.set (.bool false) (.string ⟨#[]⟩)).both (k := w.heap.size + 2) (j := w.heap.size + 3) (x := .bool false) (y := .string ⟨#[]⟩) (by omega))
  have F1 := Lib.hid ((R15.out.both (k := w.heap.size + 3) (j := w.heap.size + 2) (x := .bool false) (y := .string ⟨#[]⟩) (by omega)).set (.bool false) (.string ⟨#[]⟩))
  have ZB := Lib.hid (below_set2 (below_set2 HB5.out (show w.heap.size ≤ w.heap.size + 2 by omega) (.bool false) (.string ⟨#[]⟩)) (show w.heap.size ≤ w.heap.size + 3 by omega) (.bool false) (.string ⟨#[]⟩))
  obtain ⟨r0, r1, f0, f1⟩ := (show P2 W5 (w.heap.size + 1 + 1) _ (.bool false) (.string ⟨#[]⟩) from R05.out).cells
  obtain ⟨t0, t1, g0, g1⟩ := (show P2 W5 (w.heap.size + 1 + 1 + 1) _ (.bool false) (.string ⟨#[]⟩) from R15.out).cells
  obtain ⟨p0, p1, _, _⟩ := PA.out.cells
  obtain ⟨q0, q1, _, _⟩ := PB.out.cells
  go_wp2_with fail
  obtain ⟨k0, k1, _, _⟩ := (show P2 _ (w.heap.size + 1 + 1) _ (.bool false) (.string ⟨#[]⟩) from F0.out).cells
  obtain ⟨l0, l1, _, _⟩ := (show P2 _ (w.heap.size + 1 + 1 + 1) _ (.bool false) (.string ⟨#[]⟩) from F1.out).cells
  refine bodyPost_ret (v := .tuple #[.agg #[.bool false, .string ⟨#[]⟩], .agg #[.bool false, .string ⟨#[]⟩], .int .i64 90]) (by simp [results, Tryz.results34, go_sem, k0, k1, l0, l1]) rfl ⟨rfl, ZB.out⟩
set_option maxRecDepth 4000 in
set_option maxHeartbeats 4000000 in
theorem ldiv_err (ag bg qg rg : Bool) (as_ bs_ qs rs : ByteArray) (en : Int) (w : World) (hq : ∀ W, Calls Tryz.prog 34 #[.agg #[.bool ag, .string as_], .agg #[.bool bg, .string bs_]] W fun e w' => e = .returned (.tuple #[.agg #[.bool qg, .string qs], .agg #[.bool rg, .string rs], .int .i64 en]) ∧ Below W.heap.size W w')
    (he : en ≠ 0) :
    Calls Tryz.prog 30 #[.agg #[.bool ag, .string as_], .agg #[.bool bg, .string bs_]] w fun e w' => e = .returned (.tuple #[.agg #[.bool qg, .string qs], .agg #[.bool rg, .string rs], .int .i64 en]) ∧ Below w.heap.size w w' := by
  have HQ := Lib.hid hq
  clear hq
  obtain ⟨W3, hW3⟩ : ∃ W3, (((w.alloc (.cells #[.bool ag, .string as_] 43)).alloc (.cells #[.bool bg, .string bs_] 43)).alloc (.cells #[.bool false, .string ⟨#[]⟩] 43)).alloc (.cells #[.bool false, .string ⟨#[]⟩] 43) = W3 := ⟨_, rfl⟩
  have P0 : Hid (P2 W3 w.heap.size 43 (.bool ag) (.string as_)) := Lib.hid (by rw [← hW3]; exact (((P2.new _ _ _ _).alloc _).alloc _).alloc _)
  have P1 : Hid (P2 W3 (w.heap.size + 1) 43 (.bool bg) (.string bs_)) := Lib.hid (by
    rw [← hW3]
    have := ((P2.new (w.alloc (.cells #[.bool ag, .string as_] 43)) 43 (.bool bg) (.string bs_)).alloc (.cells #[.bool false, .string ⟨#[]⟩] 43)).alloc (.cells #[.bool false, .string ⟨#[]⟩] 43)
    simpa using this)
  have R0 : Hid (P2 W3 (w.heap.size + 2) 43 (.bool false) (.string ⟨#[]⟩)) := Lib.hid (by
    rw [← hW3]
    have := (P2.new ((w.alloc (.cells #[.bool ag, .string as_] 43)).alloc (.cells #[.bool bg, .string bs_] 43)) 43 (.bool false) (.string ⟨#[]⟩)).alloc (.cells #[.bool false, .string ⟨#[]⟩] 43)
    simpa using this)
  have R1 : Hid (P2 W3 (w.heap.size + 3) 43 (.bool false) (.string ⟨#[]⟩)) := Lib.hid (by
    rw [← hW3]
    have := P2.new (((w.alloc (.cells #[.bool ag, .string as_] 43)).alloc (.cells #[.bool bg, .string bs_] 43)).alloc (.cells #[.bool false, .string ⟨#[]⟩] 43)) 43 (.bool false) (.string ⟨#[]⟩)
    simpa using this)
  have HB3 : Hid (Below w.heap.size w W3) := Lib.hid (by rw [← hW3]; exact ((((Below.refl _ _).alloc (Nat.le_refl _) _).alloc (by simp) _).alloc (by simp; omega) _).alloc (by simp; omega) _)
  have hs3 : w.heap.size + 4 ≤ W3.heap.size := by rw [← hW3]; simp
  obtain ⟨p0, p1, _, _⟩ := P0.out.cells
  obtain ⟨q0, q1, _, _⟩ := P1.out.cells
  go_enter Tryz.func30, Tryz.ntmps30
  go_wp2_with fail
  refine (HQ.out _).mono ?_
  rintro e w4 ⟨rfl, hb4⟩
  have hs4 : w.heap.size + 4 ≤ w4.heap.size := Nat.le_trans hs3 hb4.size
  obtain ⟨W5, hW5⟩ : ∃ W5, (w4.alloc (.cells #[.bool qg, .string qs] 43)).alloc (.cells #[.bool rg, .string rs] 43) = W5 := ⟨_, rfl⟩
  have hb5 : Below w4.heap.size w4 W5 := by rw [← hW5]; exact ((Below.refl _ _).alloc (Nat.le_refl _) _).alloc (by simp) _
  have HB5 := Lib.hid (chain (chain HB3.out hb4 (by omega)) hb5 (by omega))
  have P15 := Lib.hid ((P1.out.below hb4).below hb5)
  have R05 := Lib.hid ((R0.out.below hb4).below hb5)
  have R15 := Lib.hid ((R1.out.below hb4).below hb5)
  have PQ : Hid (P2 W5 w4.heap.size 43 (.bool qg) (.string qs)) := Lib.hid (by rw [← hW5]; exact (P2.new _ _ _ _).alloc _)
  have PR : Hid (P2 W5 (w4.heap.size + 1) 43 (.bool rg) (.string rs)) := Lib.hid (P2.at1 hW5)
  clear p0 p1 q0 q1 P0 P1 R0 R1 HB3 hs3 hW3 hb4 hb5
  obtain ⟨q0, q1, _, _⟩ := P15.out.cells
  obtain ⟨a0, a1, _, _⟩ := PQ.out.cells
  obtain ⟨b0, b1, _, _⟩ := PR.out.cells
  obtain ⟨r0, r1, f0, f1⟩ := R05.out.cells
  obtain ⟨t0, t1, g0, g1⟩ := R15.out.cells
  have F0 := Lib.hid ((R05.out.set (.bool qg) (.string qs)).both (k := w.heap.size + 2) (j := w.heap.size + 3) (x := .bool rg) (y := .string rs) (by omega))
  have F1 := Lib.hid ((R15.out.both (k := w.heap.size + 3) (j := w.heap.size + 2) (x := .bool qg) (y := .string qs) (by omega)).set (.bool rg) (.string rs))
  have ZB := Lib.hid (below_set2 (below_set2 HB5.out (show w.heap.size ≤ w.heap.size + 2 by omega) (.bool qg) (.string qs)) (show w.heap.size ≤ w.heap.size + 3 by omega) (.bool rg) (.string rs))
  go_wp2_with fail
  go_region
  go_wp2_with fail
  obtain ⟨k0, k1, _, _⟩ := F0.out.drew.cells
  obtain ⟨l0, l1, _, _⟩ := F1.out.drew.cells
  refine bodyPost_ret (v := .tuple #[.agg #[.bool qg, .string qs], .agg #[.bool rg, .string rs], .int .i64 en]) (by simp [results, Tryz.results30, go_sem, k0, k1, l0, l1]) rfl ⟨rfl, ZB.out.drew⟩
end Go.Proofs.YtlodbibagmblkaaGreatDoor
namespace Go.Proofs.YtlodbibagmblkaaGreatDoor
open Go.RowKit Go.Lib
namespace Pl
/-- is a quotient cut towards nought to be mended? -/
def mends (A B : Int) : Prop := A.tmod B ≠ 0 ∧ decide (A.tmod B < 0) ≠ decide (B < 0)
instance (A B : Int) : Decidable (mends A B) := by unfold mends; infer_instance
/-- a quotient cut down, and what it leaves -/
def fq (A B : Int) : Int := if mends A B then A.tdiv B - 1 else A.tdiv B
def fr (A B : Int) : Int := if mends A B then A.tmod B + B else A.tmod B
theorem fq_fr (A B : Int) : fq A B * B + fr A B = A := by
  have h := Int.mul_tdiv_add_tmod A B
  rw [Int.mul_comm] at h
  unfold fq fr
  split
  · rw [Int.sub_mul, Int.one_mul]; omega
  · exact h
theorem tq_tr (A B : Int) : A.tdiv B * B + A.tmod B = A := by
  have h := Int.mul_tdiv_add_tmod A B
  rwa [Int.mul_comm] at h
theorem Big.le {a b : Int} (h : Big b) (hab : a.natAbs ≤ b.natAbs) : Big a := Nat.lt_of_le_of_lt hab h
theorem Big.tdiv {A B : Int} (h : Big A) : Big (A.tdiv B) := h.le (by rw [Int.natAbs_tdiv]; exact Nat.div_le_self _ _)
theorem Big.tmod {A B : Int} (h : Big A) : Big (A.tmod B) := h.le (by rw [Int.natAbs_tmod]; exact Nat.mod_le _ _)
theorem mends_facts {A B : Int} (h : mends A B) (h0 : B ≠ 0) : (A.tdiv B - 1).natAbs ≤ A.natAbs ∧ (A.tmod B + B).natAbs ≤ B.natAbs := by
  obtain ⟨h1, h2⟩ := h
  have hq : (A.tdiv B).natAbs = A.natAbs / B.natAbs := Int.natAbs_tdiv A B
  have hr : (A.tmod B).natAbs = A.natAbs % B.natAbs := Int.natAbs_tmod A B
  have hlt : A.natAbs % B.natAbs < B.natAbs := Nat.mod_lt _ (by omega)
  have hle : A.natAbs % B.natAbs ≤ A.natAbs := Nat.mod_le _ _
  have h3 : ¬ (A.tmod B < 0 ↔ B < 0) := fun h => h2 (decide_eq_decide.2 h)
  constructor
  · have hB : 2 ≤ B.natAbs := by omega
    have h4 : A.natAbs / B.natAbs ≤ A.natAbs / 2 := Nat.div_le_div_left hB (by decide)
    omega
  · omega
end Pl
theorem lquo_all (A B : Int) (w : World) (hA : Pl.Big A) (hB : Pl.Big B) (h0 : B ≠ 0) :
    Calls Tryz.prog 34 #[lof A, lof B] w fun e w' => e = .returned (.tuple #[lof (A.tdiv B), lof (A.tmod B), .int .i64 0]) ∧ Below w.heap.size w w' :=
  lquo_any A B w hA hB h0 (divHyp_any hA hB (by omega))
theorem ldiv_all (A B : Int) (w : World) (hA : Pl.Big A) (hB : Pl.Big B) (h0 : B ≠ 0) :
    Calls Tryz.prog 30 #[lof A, lof B] w fun e w' => e = .returned (.tuple #[lof (Pl.fq A B), lof (Pl.fr A B), .int .i64 0]) ∧ Below w.heap.size w w' := by
  by_cases h : Pl.mends A B
  · have hf := Pl.mends_facts h h0
    unfold Pl.fq Pl.fr
    rw [if_pos h, if_pos h]
    exact ldiv_mend A B (A.tdiv B) (A.tmod B) w (fun W => lquo_all A B W hA hB h0) h.1 h.2 hA.tdiv (hA.le hf.1) hA.tmod hB (hB.le hf.2)
  · unfold Pl.fq Pl.fr
    rw [if_neg h, if_neg h]
    refine ldiv_same _ _ _ _ _ _ _ _ w (fun W => lquo_all A B W hA hB h0) ?_
    by_cases hr : A.tmod B = 0
    · left
      rw [hr]
      have h3 : Pl.dgs 0 = [] := by
        have := Pl.dgs_empty 0
        simpa using this
      show (bs (Pl.dgs 0)).toList.isEmpty = true
      rw [h3, ByteArray.toList_eq]
      rfl
    · right
      by_cases hs : decide (A.tmod B < 0) = decide (B < 0)
      · exact hs
      · exact absurd ⟨hr, hs⟩ h
theorem ldiv_zero (A B : Int) (w : World) (hA : Pl.Big A) (hB : Pl.Big B) (h0 : B = 0) :
    Calls Tryz.prog 30 #[lof A, lof B] w fun e w' => e = .returned (.tuple #[lv false [], lv false [], .int .i64 90]) ∧ Below w.heap.size w w' :=
  ldiv_err _ _ _ _ _ _ _ _ 90 w (fun W => lquo_zero A B W hA hB h0) (by decide)
end Go.Proofs.YtlodbibagmblkaaGreatDoor
