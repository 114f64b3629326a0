/- A multiple of words taken away in place: the contract of nat.take. -/
import Derived.Test.YtlodbibagmblkaaGreatDoorPaap
namespace Go.Proofs.YtlodbibagmblkaaGreatDoor
open Go.RowKit Go.Lib
set_option maxRecDepth 4000 in
set_option maxHeartbeats 16000000 in
theorem ntake_any (vs pre us post : List Nat) (va : Option Addr) (vc g cap m p N : Nat) (w : World) (hu : Mid w g pre us post p (m + 3) N) (hv : Rd w (.slice va (m + 2) vc) vs) (hg : ∀ b, va = some ⟨b, 0, none⟩ → b < g) (lv : vs.length = m + 2) (wv : Pl.Ws vs) (half : 2147483648 ≤ vs.getD (m + 1) 0) (hlt : Pl.num us < Pl.num vs * 4294967296) (hN : N ≤ 6000) :
    Calls Tryz.prog 138 #[.slice (some ⟨g, 0, none⟩) N cap, .slice va (m + 2) vc, .int .i64 p] w fun e w' => ∃ us', e = .returned (.int .u32 (Pl.num us / Pl.num vs : Nat)) ∧ Mid w' g pre us' post p (m + 3) N ∧ Pl.num us' = Pl.num us % Pl.num vs ∧ Onl g w w' ∧ w'.heap.size = w.heap.size := by
  have HAT := Lib.hid (Pl.at_top hu.hn lv hu.ws wv half hlt)
  have hU1 : Pl.num us < 4294967296 ^ (m + 3) := by have := Pl.num_ws hu.ws; rwa [hu.hn] at this
  have HU := Lib.hid hu
  have hn0 := hu.hN
  obtain ⟨b, rfl, hbw, _⟩ := hv.at (k := 0) (by rw [lv]; omega)
  have hbg := hg b rfl
  have HVC : Hid (∀ W, Onl g w W → ∀ k, k < m + 2 → W.cell? ⟨b, k, none⟩ = some (.int .u32 (vs.getD k 0 : Nat))) := Lib.hid (fun W hb k hk => by
    rw [hb.cell (p := ⟨b, k, none⟩) hbg]
    obtain ⟨b', e, _, hc⟩ := hv.at (k := k) (by rw [lv]; exact hk)
    injection e with e; injection e with e; subst e
    exact hc)
  have u2l := Pl.getD_ws hu.ws (m + 2)
  have u1l := Pl.getD_ws hu.ws (m + 1)
  have u0l := Pl.getD_ws hu.ws m
  have v1l := Pl.getD_ws wv (m + 1)
  have v0l := Pl.getD_ws wv m
  have cu2 := hu.cell (i := m + 2) (by omega)
  have cu1 := hu.cell (i := m + 1) (by omega)
  have cu0 := hu.cell (i := m) (by omega)
  have cv1 := HVC.out w (Onl.refl _ _) (m + 1) (by omega)
  have cv0 := HVC.out w (Onl.refl _ _) m (by omega)
  obtain ⟨u2, hu2⟩ : ∃ x, us.getD (m + 2) 0 = x := ⟨_, rfl⟩
  obtain ⟨u1, hu1⟩ : ∃ x, us.getD (m + 1) 0 = x := ⟨_, rfl⟩
  obtain ⟨u0, hu0⟩ : ∃ x, us.getD m 0 = x := ⟨_, rfl⟩
  obtain ⟨v1, hv1⟩ : ∃ x, vs.getD (m + 1) 0 = x := ⟨_, rfl⟩
  obtain ⟨v0, hv0⟩ : ∃ x, vs.getD m 0 = x := ⟨_, rfl⟩
  rw [hu2] at HAT u2l cu2
  rw [hu1] at HAT u1l cu1
  rw [hu0] at HAT u0l cu0
  rw [hv1] at HAT v1l cv1 half
  rw [hv0] at HAT v0l cv0
  have HLV := Lib.hid lv
  have HWV := Lib.hid wv
  have HEU := Lib.hid (And.intro hu2 (And.intro hu1 hu0))
  have HEV := Lib.hid (And.intro hv1 hv0)
  clear hv hg lv wv hlt hU1 hu hu2 hu1 hu0 hv1 hv0
  obtain ⟨n, hn⟩ : ∃ n, m + 2 = n := ⟨_, rfl⟩
  obtain ⟨n1, hn1⟩ : ∃ n, m + 1 = n := ⟨_, rfl⟩
  rw [hn] at cu2 ⊢
  rw [hn1] at cu1 cv1
  obtain ⟨q2, hq2⟩ : ∃ q, p + n = q := ⟨_, rfl⟩
  obtain ⟨q1, hq1⟩ : ∃ q, p + n1 = q := ⟨_, rfl⟩
  obtain ⟨q0, hq0⟩ : ∃ q, p + m = q := ⟨_, rfl⟩
  rw [hq2] at cu2
  rw [hq1] at cu1
  rw [hq0] at cu0
  have i2 : (p : Int) + (n : Int) = (q2 : Int) := by omega
  have i1 : (q2 : Int) - 1 = (q1 : Int) := by omega
  have i0 : (q2 : Int) - 2 = (q0 : Int) := by omega
  have j1 : (n : Int) - 1 = (n1 : Int) := by omega
  have j0 : (n : Int) - 2 = (m : Int) := by omega
  have b2 : q2 < N := by omega
  have b1 : q1 < N := by omega
  have b0 : q0 < N := by omega
  have d1 : n1 < n := by omega
  have d0 : m < n := by omega
  have HX := Lib.hid (And.intro hn (And.intro hn1 (And.intro hq2 (And.intro hq1 hq0))))
  clear hn hn1 hq2 hq1 hq0 hn0
  have hor1 := or64_hi u2l u1l
  obtain ⟨top, htop⟩ : ∃ t, u2 * 4294967296 + u1 = t := ⟨_, rfl⟩
  rw [htop] at hor1
  have htl : top < 18446744073709551616 := by omega
  obtain ⟨g0, hg0⟩ : ∃ x, top / v1 = x := ⟨_, rfl⟩
  obtain ⟨r0, hr0⟩ : ∃ x, top % v1 = x := ⟨_, rfl⟩
  have hqI : (top : Int) / (v1 : Int) = (g0 : Int) := by rw [← hg0]; simp
  have hrI : (top : Int) % (v1 : Int) = (r0 : Int) := by rw [← hr0]; simp
  have hqT : (top : Int).tdiv (v1 : Int) = (g0 : Int) := by rw [Int.tdiv_eq_ediv_of_nonneg (by omega)]; exact hqI
  have hrT : (top : Int).tmod (v1 : Int) = (r0 : Int) := by rw [Int.tmod_eq_emod_of_nonneg (by omega)]; exact hrI
  have hgl : g0 ≤ 8589934592 := by
    rw [← hg0]
    refine Nat.le_trans (Nat.div_le_div_left half (by decide)) ?_
    omega
  have hrl : r0 < v1 := by rw [← hr0]; exact Nat.mod_lt _ (by omega)
  have HST : Hid (g0 * v1 + r0 = top ∧ Pl.num us / Pl.num vs ≤ g0) := Lib.hid ⟨by rw [← hg0, ← hr0, Nat.mul_comm]; exact Nat.div_add_mod top v1, by rw [← hg0, ← htop]; exact HAT.out.start⟩
  have HTOP := Lib.hid htop
  clear hg0 hr0 htop
  go_enter Tryz.func138, Tryz.ntmps138
  go_wp2_with fail
  go_region
  go_wp2_with fail
  go_region
  go_wp2_with fail
  go_loopw [9, 10] (fun s9 s10 wr => ∃ gg r : Nat, s9 = .int .u64 gg ∧ s10 = .int .u64 r ∧ gg ≤ 8589934592 ∧ r < 4294967296 ∧ Hid (gg * v1 + r = top ∧ Pl.num us / Pl.num vs ≤ gg) ∧ Mid wr g pre us post p (m + 3) N ∧ Onl g w wr ∧ wr.heap.size = w.heap.size) (fun _ s10 _ => 4294967296 - (RowKit.intOf s10).toNat)
  case atStart => exact ⟨g0, r0, rfl, rfl, hgl, by omega, HST, HU.out.drew.drew, ((Onl.refl _ _).drew).drew, rfl⟩
  case round =>
    obtain ⟨gg, r, rfl, rfl, hggl, hrr, hinv, hmid, hbw2, hsz⟩ := hrel
    have HMID := Lib.hid hmid
    have HBW := Lib.hid hbw2
    have HSZ := Lib.hid hsz
    have HX2 := HX.out
    have cu0 : wr.cell? ⟨g, q0, none⟩ = some (.int .u32 (u0 : Nat)) := by
      have := hmid.cell (i := m) (by omega)
      rw [HEU.out.2.2, HX2.2.2.2.2] at this
      exact this
    have cv0 : wr.cell? ⟨b, m, none⟩ = some (.int .u32 (v0 : Nat)) := by
      have := HVC.out wr hbw2 m (by omega)
      rwa [HEV.out.2] at this
    have cv1 : wr.cell? ⟨b, n1, none⟩ = some (.int .u32 (v1 : Nat)) := by
      have := HVC.out wr hbw2 (m + 1) (by omega)
      rwa [HEV.out.1, HX2.2.1] at this
    have hor2 := or64_hi hrr u0l
    obtain ⟨rv, hrv⟩ : ∃ x, r * 4294967296 + u0 = x := ⟨_, rfl⟩
    rw [hrv] at hor2
    -- the guess is told too great
    have HDN : Hid (4294967296 ≤ gg ∨ rv < gg * v0 → Pl.num us / Pl.num vs ≤ gg - 1 ∧ 1 ≤ gg) := Lib.hid (fun h => by
      refine ⟨HAT.out.down (by rw [HTOP.out]; exact hinv.out.1) (by rw [hrv]; exact h), ?_⟩
      rcases h with h | h
      · omega
      · rcases Nat.eq_zero_or_pos gg with e | e
        · rw [e, Nat.zero_mul] at h; omega
        · exact e)
    have HNR : Hid (gg < 4294967296 → gg * v0 ≤ rv → gg ≤ Pl.num us / Pl.num vs + 1) := Lib.hid (fun h1 h2 => HAT.out.near (by rw [HTOP.out]; exact hinv.out.1) h1 (by rw [hrv]; exact h2))
    by_cases hge : 4294967296 ≤ gg
    · obtain ⟨t, ht⟩ : ∃ t, gg / 4294967296 = t + 1 := ⟨gg / 4294967296 - 1, by omega⟩
      have htI : (gg : Int) / 4294967296 = (t : Int) + 1 := by omega
      have ht0 : decide ((0 : Int) < (t : Int) + 1) = true := decide_eq_true (by omega)
      clear ht
      obtain ⟨hdn, hg1⟩ := HDN.out (.inl hge)
      have hwg : IntKind.u64.wrap ((gg : Int) - 1) = ((gg - 1 : Nat) : Int) := by rw [IntKind.wrap_u64]; omega
      obtain ⟨G, hG⟩ : ∃ G, gg - 1 = G := ⟨_, rfl⟩
      obtain ⟨r', hr'⟩ : ∃ x, r + v1 = x := ⟨_, rfl⟩
      have hwr : IntKind.u64.wrap ((r : Int) + (v1 : Int)) = (r' : Int) := by rw [IntKind.wrap_u64]; omega
      rw [hG] at hwg
      have HNX : Hid (G * v1 + r' = top ∧ Pl.num us / Pl.num vs ≤ G) := Lib.hid (by
        rw [← hG]
        refine ⟨?_, hdn⟩
        have h1 := hinv.out.1
        obtain ⟨y, hy⟩ : ∃ y, gg = y + 1 := ⟨gg - 1, by omega⟩
        rw [hy] at h1 ⊢
        rw [Nat.add_sub_cancel]
        rw [Nat.add_mul, Nat.one_mul] at h1
        omega)
      have hGl : G ≤ 8589934592 := by omega
      have hrgt : r < r' := by omega
      by_cases hr2 : r' < 4294967296
      · have hsh : (r' : Int) / 4294967296 = 0 := by omega
        clear hdn hg1 hG hr' hrv hmid hbw2 hsz HX2 hinv HDN HNR
        go_wp2_with fail
        first | go_region | fail
        go_wp2_with fail
        go_roundw
        case rel => exact ⟨G, r', rfl, rfl, hGl, hr2, HNX, HMID.out.drew, HBW.out.drew, HSZ.out⟩
        case measure => simp [RowKit.intOf]; omega
      · have hsh : (r' : Int) / 4294967296 = 1 := by omega
        have HEG : Hid (G < 4294967296 ∧ Pl.num us / Pl.num vs ≤ G ∧ G ≤ Pl.num us / Pl.num vs + 1) := Lib.hid (by
          have hb := HAT.out.broke (by rw [HTOP.out]; exact HNX.out.1) (by omega)
          exact ⟨hb.1, HNX.out.2, HAT.out.near (by rw [HTOP.out]; exact HNX.out.1) hb.1 hb.2⟩)
        clear hdn hg1 hG hr' hrv hmid hbw2 hsz HX2 hinv HDN HNR
        go_wp2_with fail
        first | go_region | fail
        go_wp2_with fail
        go_wp2_with fail
        have HME := Lib.hid HMID.out.drew
        have HBE := Lib.hid HBW.out.drew
        have HSE : Hid (wr.drew.heap.size = w.heap.size) := Lib.hid HSZ.out
        generalize wr.drew = wE at *
        obtain ⟨hGB, _, _⟩ := HEG.out
        clear HMID HBW HSZ cu0 cv0 cv1 hor2 i1 i0 j1 j0 hqI hrI hqT hrT hor1 hgl hrl HST htl
        go_loopw [11, 12, 13, 14, 15, 94] (fun s11 s12 _ _ _ s94 wr => ∃ (i c bb : Nat) (ys : List Nat), i ≤ n ∧ c < 4294967296 ∧ bb ≤ 1 ∧ s11 = .int .u64 c ∧ s12 = .int .u32 bb ∧ s94 = .int .i64 i ∧ Mid wr g pre ys post p (m + 3) N ∧ Hid (ys.drop i = us.drop i) ∧ Hid (Pl.num (ys.take i) + G * Pl.num (vs.take i) = Pl.num (us.take i) + 4294967296 ^ i * (c + bb)) ∧ Onl g w wr ∧ wr.heap.size = w.heap.size) (fun _ _ _ _ _ s94 _ => n - (RowKit.intOf s94).toNat)
        case atStart => exact ⟨0, 0, 0, us, Nat.zero_le _, by decide, by decide, rfl, rfl, rfl, HME.out, Lib.hid rfl, Lib.hid (by simp [Pl.num]), HBE.out, HSE.out⟩
        case round =>
          obtain ⟨i, c, bb, ys, hi, hc, hbb, rfl, rfl, rfl, hmid, hdr, hnm, hbw3, hsz3⟩ := hrel
          have HMI := Lib.hid hmid
          have HBI := Lib.hid hbw3
          have HSI := Lib.hid hsz3
          have HXX := HX.out
          by_cases hin : i < n
          · have hcv := HVC.out wr hbw3 i (by omega)
            have hcu := hmid.cell (i := i) (by omega)
            have hgd : ys.getD i 0 = us.getD i 0 := by
              have h1 := congrArg (fun l => l.getD 0 0) hdr.out
              simpa [List.getD_eq_getElem?_getD] using h1
            have hul := Pl.getD_ws HU.out.ws i
            have hxl := Pl.getD_ws HWV.out i
            have hfree := hmid.row.free (p + i)
            obtain ⟨u, hu⟩ : ∃ u, us.getD i 0 = u := ⟨_, rfl⟩
            obtain ⟨x, hx⟩ : ∃ x, vs.getD i 0 = x := ⟨_, rfl⟩
            rw [hgd, hu] at hcu
            rw [hu] at hul
            rw [hx] at hcv hxl
            obtain ⟨hs1, hs2⟩ := Pl.mul_bound (a := G) (y := x) (z := 0) (c := c) hGB hxl (by decide) hc
            rw [Nat.add_zero] at hs1 hs2
            have hgx1 : G * x ≤ 4294967295 * 4294967295 := Nat.mul_le_mul (by omega) (by omega)
            have HGX := Lib.hid (show ∀ lo c' : Nat, (G * x + c) % 4294967296 = lo → (G * x + c) / 4294967296 = c' → G * vs.getD i 0 + c = lo + 4294967296 * c' from fun lo c' h1 h2 => by rw [hx]; omega)
            obtain ⟨gx, hgx⟩ : ∃ y, G * x = y := ⟨_, rfl⟩
            have hgxI : (G : Int) * (x : Int) = (gx : Int) := by rw [← hgx]; simp
            rw [hgx] at hgx1 hs1 hs2 HGX
            obtain ⟨sm, hsm⟩ : ∃ y, gx + c = y := ⟨_, rfl⟩
            rw [hsm] at hs1 hs2 HGX
            have hwx : IntKind.u64.wrap (x : Int) = (x : Int) := by rw [IntKind.wrap_u64]; omega
            have hwgx : IntKind.u64.wrap (gx : Int) = (gx : Int) := by rw [IntKind.wrap_u64]; omega
            have hwsm : IntKind.u64.wrap ((gx : Int) + (c : Int)) = (sm : Int) := by rw [IntKind.wrap_u64]; omega
            obtain ⟨lo, hlo⟩ : ∃ y, sm % 4294967296 = y := ⟨_, rfl⟩
            obtain ⟨c', hc'⟩ : ∃ y, sm / 4294967296 = y := ⟨_, rfl⟩
            have HGX2 := Lib.hid (HGX.out lo c' hlo hc')
            rw [hc'] at hs2
            have hloI : (sm : Int) % 4294967296 = (lo : Int) := by omega
            have hcI : (sm : Int) / 4294967296 = (c' : Int) := by omega
            have hlol : lo < 4294967296 := by omega
            obtain ⟨d, hd⟩ : ∃ d, (u + 8589934592 - lo - bb) % 4294967296 = d := ⟨_, rfl⟩
            obtain ⟨b', hb'⟩ : ∃ b', (if u < lo + bb then 1 else 0) = b' := ⟨_, rfl⟩
            have hwd := Pl.sub_word hul hlol hbb hd.symm
            rw [hb'] at hwd
            have hdl : d < 4294967296 := by omega
            have hbl' : b' ≤ 1 := by rw [← hb']; split <;> omega
            have HSB := Lib.hid (fun W => sub32_any u lo bb d b' W hul hlol hbb hd hb')
            have HRN := Lib.hid (Pl.take_round (us := us) (vs := vs) (ys := ys) (i := i) (c := c) (b := bb) (d := d) (lo := lo) (c' := c') (b' := b') (g := G) (by rw [hmid.hn]; omega) hnm.out (by rw [hu]; exact hwd) HGX2.out)
            have HM2 := Lib.hid (hmid.set (i := i) (d := d) (by omega) hdl)
            have HB2 := Lib.hid (hbw3.setCell (p := ⟨g, p + i, none⟩) rfl (.int .u32 (d : Nat)))
            have HDR : Hid ((ys.set i d).drop (i + 1) = us.drop (i + 1)) := Lib.hid (by
              rw [List.drop_set_of_lt (by omega)]
              have h1 := congrArg (List.drop 1) hdr.out
              rwa [List.drop_drop, List.drop_drop] at h1)
            have hpiN : p + i < N := by omega
            have hpiI : (p : Int) + (i : Int) = ((p + i : Nat) : Int) := by omega
            obtain ⟨pi, hpi⟩ : ∃ q, p + i = q := ⟨_, rfl⟩
            rw [hpi] at hcu hfree HM2 HB2 hpiN hpiI
            clear hmid hdr hnm hbw3 hsz3 hgx hsm hlo hc' hd hb' hwd hu hx hgd hpi HXX HGX HGX2
            go_wp2_with fail
            refine (HSB.out _).mono ?_
            rintro e w' ⟨rfl, rfl⟩
            go_wp2_with fail
            go_roundw
            case rel => exact ⟨i + 1, c', b', ys.set i d, by omega, hs2, hbl', rfl, rfl, by go_num, HM2.out, HDR, HRN.out |> Lib.hid, HB2.out, by simpa [World.setCell] using HSI.out⟩
            case measure => simp [RowKit.intOf]; omega
          · have hie : i = n := by omega
            subst hie
            have hgd : ys.getD i 0 = us.getD i 0 := by
              have h1 := congrArg (fun l => l.getD 0 0) hdr.out
              simpa [List.getD_eq_getElem?_getD] using h1
            have hcu := hmid.cell (i := m + 2) (by omega)
            have hfree := hmid.row.free q2
            have hHU := HEU.out.1
            rw [HXX.1] at hcu hHU
            rw [hgd, hHU, HXX.2.2.1] at hcu
            have hcI : (c : Int) % 4294967296 = (c : Int) := by omega
            obtain ⟨d, hd⟩ : ∃ d, (u2 + 8589934592 - c - bb) % 4294967296 = d := ⟨_, rfl⟩
            obtain ⟨b2, hb2⟩ : ∃ b', (if u2 < c + bb then 1 else 0) = b' := ⟨_, rfl⟩
            have hwd := Pl.sub_word u2l hc hbb hd.symm
            rw [hb2] at hwd
            have hdl : d < 4294967296 := by omega
            have hbl2 : b2 ≤ 1 := by rw [← hb2]; split <;> omega
            have HSB := Lib.hid (fun W => sub32_any u2 c bb d b2 W u2l hc hbb hd hb2)
            have hv0 : vs.getD i 0 = 0 := by rw [List.getD_eq_getElem?_getD, List.getElem?_eq_none (by rw [HLV.out]; omega)]; rfl
            have hrn := Pl.take_round (us := us) (vs := vs) (ys := ys) (i := i) (c := c) (b := bb) (d := d) (lo := c) (c' := 0) (b' := b2) (g := G) (by rw [hmid.hn]; omega) hnm.out (by rw [hHU]; exact hwd) (by rw [hv0]; simp)
            rw [List.take_of_length_le (by rw [List.length_set, hmid.hn]; omega), List.take_of_length_le (by rw [HLV.out]; omega), List.take_of_length_le (by rw [HU.out.hn]; omega), Nat.zero_add] at hrn
            have hM2 := hmid.set (i := m + 2) (d := d) (by omega) hdl
            rw [HXX.1, HXX.2.2.1] at hM2
            have hVp := HAT.out.b.2.2
            have hNl : Pl.num (ys.set i d) < 4294967296 ^ (i + 1) := by
              have := Pl.num_ws hM2.ws
              rwa [hM2.hn, show m + 3 = i + 1 by omega] at this
            have hUl : Pl.num us < 4294967296 ^ (i + 1) := by
              have := Pl.num_ws HU.out.ws
              rwa [HU.out.hn, show m + 3 = i + 1 by omega] at this
            have HTR := Lib.hid (Pl.took_right hVp hNl hUl hbl2 hrn HEG.out.2.1 HEG.out.2.2 rfl)
            have HM2 := Lib.hid hM2
            have HB2 := Lib.hid (hbw3.setCell (p := ⟨g, q2, none⟩) rfl (.int .u32 (d : Nat)))
            have HUL := Lib.hid (Nat.lt_of_le_of_lt (Nat.mod_le (Pl.num us) (Pl.num vs)) hUl)
            obtain ⟨zs0, hzs0⟩ : ∃ z, ys.set i d = z := ⟨_, rfl⟩
            rw [hzs0] at HM2 HTR
            have hGI : (G : Int) % 4294967296 = (G : Int) := by omega
            clear hmid hdr hnm hbw3 hsz3 hd hb2 hwd hgd hHU hrn hM2 hVp hNl hUl hzs0 hv0
            rcases (show b2 = 0 ∨ b2 = 1 by omega) with rfl | rfl
            · have HF := Lib.hid (HTR.out.1 rfl)
              clear HTR
              go_wp2_with fail
              refine (HSB.out _).mono ?_
              rintro e w' ⟨rfl, rfl⟩
              go_wp2_with fail
              go_ret
              exact ⟨zs0, by rw [HF.out.1]; rfl, HM2.out, HF.out.2, HB2.out, by simpa [World.setCell] using HSI.out⟩
            · have HF := Lib.hid (HTR.out.2 rfl)
              clear HTR
              obtain ⟨Q, hQ⟩ : ∃ Q, Pl.num us / Pl.num vs = Q := ⟨_, rfl⟩
              have HQ := Lib.hid hQ
              have hGQ : G = Q + 1 := by have := HF.out.1; rwa [hQ] at this
              have hwG : IntKind.u64.wrap ((G : Int) - 1) = (Q : Int) := by rw [IntKind.wrap_u64]; omega
              have hQI : (Q : Int) % 4294967296 = (Q : Int) := by omega
              have HGQ := Lib.hid hGQ
              clear hQ hGQ
              obtain ⟨W5, hW5⟩ : ∃ W5, wr.setCell ⟨g, q2, none⟩ (.int .u32 (d : Nat)) = W5 := ⟨_, rfl⟩
              rw [hW5] at HM2 HB2
              have HS5 : Hid (W5.heap.size = w.heap.size) := Lib.hid (by rw [← hW5]; simpa [World.setCell] using HSI.out)
              go_wp2_with fail
              refine (HSB.out _).mono ?_
              rintro e w' ⟨rfl, rfl⟩
              go_wp2_with fail
              clear hcu hfree HMI HBI HSI HSB
              go_loopw [16, 17, 18, 150] (fun s16 _ _ s150 wr => ∃ (j k : Nat) (zs : List Nat), j ≤ i ∧ k ≤ 1 ∧ s16 = .int .u32 k ∧ s150 = .int .i64 j ∧ Mid wr g pre zs post p (m + 3) N ∧ Hid (zs.drop j = zs0.drop j) ∧ Hid (Pl.num (zs.take j) + 4294967296 ^ j * k = Pl.num (zs0.take j) + Pl.num (vs.take j)) ∧ Onl g w wr ∧ wr.heap.size = w.heap.size) (fun _ _ _ s150 _ => i - (RowKit.intOf s150).toNat)
              case atStart => exact ⟨0, 0, zs0, Nat.zero_le _, by decide, rfl, rfl, HM2.out, Lib.hid rfl, Lib.hid (by simp [Pl.num]), HB2.out, HS5.out⟩
              case round =>
                obtain ⟨j, k, zs, hj, hk, rfl, rfl, hmid, hdr, hnm, hbw3, hsz3⟩ := hrel
                have HSI := Lib.hid hsz3
                have hXX := HX.out
                by_cases hjn : j < i
                · have hcv := HVC.out wr hbw3 j (by omega)
                  have hcu := hmid.cell (i := j) (by omega)
                  have hgd : zs.getD j 0 = zs0.getD j 0 := by
                    have h1 := congrArg (fun l => l.getD 0 0) hdr.out
                    simpa [List.getD_eq_getElem?_getD] using h1
                  have hul := Pl.getD_ws HM2.out.ws j
                  have hxl := Pl.getD_ws HWV.out j
                  have hfree := hmid.row.free (p + j)
                  obtain ⟨u, hu⟩ : ∃ u, zs0.getD j 0 = u := ⟨_, rfl⟩
                  obtain ⟨x, hx⟩ : ∃ x, vs.getD j 0 = x := ⟨_, rfl⟩
                  rw [hgd, hu] at hcu
                  rw [hu] at hul
                  rw [hx] at hcv hxl
                  obtain ⟨d3, hd3⟩ : ∃ d, (u + x + k) % 4294967296 = d := ⟨_, rfl⟩
                  obtain ⟨k', hk'⟩ : ∃ q, (u + x + k) / 4294967296 = q := ⟨_, rfl⟩
                  have HAD := Lib.hid (fun W => add32_any u x k d3 k' W hul hxl hk hd3 hk')
                  have hd3l : d3 < 4294967296 := by omega
                  have hk'l : k' ≤ 1 := by omega
                  have HRN := Lib.hid (Pl.back_round (us := zs0) (vs := vs) (ys := zs) (i := j) (k := k) (d := d3) (k' := k') (by rw [hmid.hn]; omega) hnm.out (by rw [hu, hx]; omega))
                  have HM3 := Lib.hid (hmid.set (i := j) (d := d3) (by omega) hd3l)
                  have HB3 := Lib.hid (hbw3.setCell (p := ⟨g, p + j, none⟩) rfl (.int .u32 (d3 : Nat)))
                  have HDR : Hid ((zs.set j d3).drop (j + 1) = zs0.drop (j + 1)) := Lib.hid (by
                    rw [List.drop_set_of_lt (by omega)]
                    have h1 := congrArg (List.drop 1) hdr.out
                    rwa [List.drop_drop, List.drop_drop] at h1)
                  have hpjN : p + j < N := by omega
                  have hpjI : (p : Int) + (j : Int) = ((p + j : Nat) : Int) := by omega
                  obtain ⟨pj, hpj⟩ : ∃ q, p + j = q := ⟨_, rfl⟩
                  rw [hpj] at hcu hfree HM3 HB3 hpjN hpjI
                  clear hmid hdr hnm hbw3 hsz3 hd3 hk' hu hx hgd hpj hXX
                  go_wp2_with fail
                  refine (HAD.out _).mono ?_
                  rintro e w' ⟨rfl, rfl⟩
                  go_wp2_with fail
                  go_roundw
                  case rel => exact ⟨j + 1, k', zs.set j d3, by omega, hk'l, rfl, by go_num, HM3.out, HDR, Lib.hid HRN.out, HB3.out, by simpa [World.setCell] using HSI.out⟩
                  case measure => simp [RowKit.intOf]; omega
                · have hji : j = i := by omega
                  subst hji
                  have hgd : zs.getD j 0 = zs0.getD j 0 := by
                    have h1 := congrArg (fun l => l.getD 0 0) hdr.out
                    simpa [List.getD_eq_getElem?_getD] using h1
                  have hcu := hmid.cell (i := m + 2) (by omega)
                  have hfree := hmid.row.free q2
                  have hul := Pl.getD_ws HM2.out.ws j
                  obtain ⟨z, hz⟩ : ∃ u, zs0.getD j 0 = u := ⟨_, rfl⟩
                  rw [hXX.1, hgd, hz, hXX.2.2.1] at hcu
                  rw [hz] at hul
                  obtain ⟨d3, hd3⟩ : ∃ d, (z + k) % 4294967296 = d := ⟨_, rfl⟩
                  obtain ⟨k', hk'⟩ : ∃ q, (z + k) / 4294967296 = q := ⟨_, rfl⟩
                  have hd3l : d3 < 4294967296 := by omega
                  have hk'l : k' ≤ 1 := by omega
                  have hwz : IntKind.u32.wrap ((z : Int) + (k : Int)) = (d3 : Int) := by rw [IntKind.wrap_u32]; omega
                  have hv0 : vs.getD j 0 = 0 := by rw [List.getD_eq_getElem?_getD, List.getElem?_eq_none (by rw [HLV.out]; omega)]; rfl
                  have hrn := Pl.back_round (us := zs0) (vs := vs) (ys := zs) (i := j) (k := k) (d := d3) (k' := k') (by rw [hmid.hn]; omega) hnm.out (by rw [hz, hv0]; omega)
                  rw [List.take_of_length_le (by rw [List.length_set, hmid.hn]; omega), List.take_of_length_le (by rw [HM2.out.hn]; omega), List.take_of_length_le (by rw [HLV.out]; omega)] at hrn
                  have hM3 := hmid.set (i := m + 2) (d := d3) (by omega) hd3l
                  rw [hXX.1, hXX.2.2.1] at hM3
                  have hNl : Pl.num (zs.set j d3) < 4294967296 ^ (j + 1) := by
                    have := Pl.num_ws hM3.ws
                    rwa [hM3.hn, show m + 3 = j + 1 by omega] at this
                  have HFN := Lib.hid (Pl.took_back HUL.out hNl hk'l hrn HF.out.2)
                  have HM3 := Lib.hid hM3
                  have HB3 := Lib.hid (hbw3.setCell (p := ⟨g, q2, none⟩) rfl (.int .u32 (d3 : Nat)))
                  clear hmid hdr hnm hbw3 hsz3 hd3 hk' hz hgd hXX hrn hM3 hNl hv0
                  go_wp2_with fail
                  go_ret
                  exact ⟨zs.set j d3, by rw [HQ.out]; rfl, HM3.out, HFN.out, HB3.out, by simpa [World.setCell] using HSI.out⟩
    · have hlt : gg < 4294967296 := by omega
      have htI : (gg : Int) / 4294967296 = 0 := by omega
      have hgv1 : gg * v0 ≤ 4294967295 * 4294967295 := Nat.mul_le_mul (by omega) (by omega)
      obtain ⟨gv, hgv⟩ : ∃ x, gg * v0 = x := ⟨_, rfl⟩
      have hgvI : (gg : Int) * (v0 : Int) = (gv : Int) := by rw [← hgv]; simp
      rw [hgv] at hgv1
      have hwgv : IntKind.u64.wrap (gv : Int) = (gv : Int) := by rw [IntKind.wrap_u64]; omega
      by_cases hgt : rv < gv
      · have hcmp : decide ((rv : Int) < (gv : Int)) = true := decide_eq_true (by omega)
        obtain ⟨hdn, hg1⟩ := HDN.out (.inr (by rw [hgv]; exact hgt))
        have hwg : IntKind.u64.wrap ((gg : Int) - 1) = ((gg - 1 : Nat) : Int) := by rw [IntKind.wrap_u64]; omega
        obtain ⟨G, hG⟩ : ∃ G, gg - 1 = G := ⟨_, rfl⟩
        obtain ⟨r', hr'⟩ : ∃ x, r + v1 = x := ⟨_, rfl⟩
        have hwr : IntKind.u64.wrap ((r : Int) + (v1 : Int)) = (r' : Int) := by rw [IntKind.wrap_u64]; omega
        rw [hG] at hwg
        have HNX : Hid (G * v1 + r' = top ∧ Pl.num us / Pl.num vs ≤ G) := Lib.hid (by
          rw [← hG]
          refine ⟨?_, hdn⟩
          have h1 := hinv.out.1
          obtain ⟨y, hy⟩ : ∃ y, gg = y + 1 := ⟨gg - 1, by omega⟩
          rw [hy] at h1 ⊢
          rw [Nat.add_sub_cancel]
          rw [Nat.add_mul, Nat.one_mul] at h1
          omega)
        have hGl : G ≤ 8589934592 := by omega
        have hrgt : r < r' := by omega
        by_cases hr2 : r' < 4294967296
        · have hsh : (r' : Int) / 4294967296 = 0 := by omega
          clear hdn hg1 hG hr' hrv hmid hbw2 hsz HX2 hinv HDN HNR
          go_wp2_with fail
          first | go_region | fail
          go_wp2_with fail
          go_roundw
          case rel => exact ⟨G, r', rfl, rfl, hGl, hr2, HNX, HMID.out.drew, HBW.out.drew, HSZ.out⟩
          case measure => simp [RowKit.intOf]; omega
        · have hsh : (r' : Int) / 4294967296 = 1 := by omega
          have HEG : Hid (G < 4294967296 ∧ Pl.num us / Pl.num vs ≤ G ∧ G ≤ Pl.num us / Pl.num vs + 1) := Lib.hid (by
            have hb := HAT.out.broke (by rw [HTOP.out]; exact HNX.out.1) (by omega)
            exact ⟨hb.1, HNX.out.2, HAT.out.near (by rw [HTOP.out]; exact HNX.out.1) hb.1 hb.2⟩)
          clear hdn hg1 hG hr' hrv hmid hbw2 hsz HX2 hinv HDN HNR
          go_wp2_with fail
          first | go_region | fail
          go_wp2_with fail
          go_wp2_with fail
          have HME := Lib.hid HMID.out.drew
          have HBE := Lib.hid HBW.out.drew
          have HSE : Hid (wr.drew.heap.size = w.heap.size) := Lib.hid HSZ.out
          generalize wr.drew = wE at *
          obtain ⟨hGB, _, _⟩ := HEG.out
          clear HMID HBW HSZ cu0 cv0 cv1 hor2 i1 i0 j1 j0 hqI hrI hqT hrT hor1 hgl hrl HST htl
          go_loopw [11, 12, 13, 14, 15, 94] (fun s11 s12 _ _ _ s94 wr => ∃ (i c bb : Nat) (ys : List Nat), i ≤ n ∧ c < 4294967296 ∧ bb ≤ 1 ∧ s11 = .int .u64 c ∧ s12 = .int .u32 bb ∧ s94 = .int .i64 i ∧ Mid wr g pre ys post p (m + 3) N ∧ Hid (ys.drop i = us.drop i) ∧ Hid (Pl.num (ys.take i) + G * Pl.num (vs.take i) = Pl.num (us.take i) + 4294967296 ^ i * (c + bb)) ∧ Onl g w wr ∧ wr.heap.size = w.heap.size) (fun _ _ _ _ _ s94 _ => n - (RowKit.intOf s94).toNat)
          case atStart => exact ⟨0, 0, 0, us, Nat.zero_le _, by decide, by decide, rfl, rfl, rfl, HME.out, Lib.hid rfl, Lib.hid (by simp [Pl.num]), HBE.out, HSE.out⟩
          case round =>
            obtain ⟨i, c, bb, ys, hi, hc, hbb, rfl, rfl, rfl, hmid, hdr, hnm, hbw3, hsz3⟩ := hrel
            have HMI := Lib.hid hmid
            have HBI := Lib.hid hbw3
            have HSI := Lib.hid hsz3
            have HXX := HX.out
            by_cases hin : i < n
            · have hcv := HVC.out wr hbw3 i (by omega)
              have hcu := hmid.cell (i := i) (by omega)
              have hgd : ys.getD i 0 = us.getD i 0 := by
                have h1 := congrArg (fun l => l.getD 0 0) hdr.out
                simpa [List.getD_eq_getElem?_getD] using h1
              have hul := Pl.getD_ws HU.out.ws i
              have hxl := Pl.getD_ws HWV.out i
              have hfree := hmid.row.free (p + i)
              obtain ⟨u, hu⟩ : ∃ u, us.getD i 0 = u := ⟨_, rfl⟩
              obtain ⟨x, hx⟩ : ∃ x, vs.getD i 0 = x := ⟨_, rfl⟩
              rw [hgd, hu] at hcu
              rw [hu] at hul
              rw [hx] at hcv hxl
              obtain ⟨hs1, hs2⟩ := Pl.mul_bound (a := G) (y := x) (z := 0) (c := c) hGB hxl (by decide) hc
              rw [Nat.add_zero] at hs1 hs2
              have hgx1 : G * x ≤ 4294967295 * 4294967295 := Nat.mul_le_mul (by omega) (by omega)
              have HGX := Lib.hid (show ∀ lo c' : Nat, (G * x + c) % 4294967296 = lo → (G * x + c) / 4294967296 = c' → G * vs.getD i 0 + c = lo + 4294967296 * c' from fun lo c' h1 h2 => by rw [hx]; omega)
              obtain ⟨gx, hgx⟩ : ∃ y, G * x = y := ⟨_, rfl⟩
              have hgxI : (G : Int) * (x : Int) = (gx : Int) := by rw [← hgx]; simp
              rw [hgx] at hgx1 hs1 hs2 HGX
              obtain ⟨sm, hsm⟩ : ∃ y, gx + c = y := ⟨_, rfl⟩
              rw [hsm] at hs1 hs2 HGX
              have hwx : IntKind.u64.wrap (x : Int) = (x : Int) := by rw [IntKind.wrap_u64]; omega
              have hwgx : IntKind.u64.wrap (gx : Int) = (gx : Int) := by rw [IntKind.wrap_u64]; omega
              have hwsm : IntKind.u64.wrap ((gx : Int) + (c : Int)) = (sm : Int) := by rw [IntKind.wrap_u64]; omega
              obtain ⟨lo, hlo⟩ : ∃ y, sm % 4294967296 = y := ⟨_, rfl⟩
              obtain ⟨c', hc'⟩ : ∃ y, sm / 4294967296 = y := ⟨_, rfl⟩
              have HGX2 := Lib.hid (HGX.out lo c' hlo hc')
              rw [hc'] at hs2
              have hloI : (sm : Int) % 4294967296 = (lo : Int) := by omega
              have hcI : (sm : Int) / 4294967296 = (c' : Int) := by omega
              have hlol : lo < 4294967296 := by omega
              obtain ⟨d, hd⟩ : ∃ d, (u + 8589934592 - lo - bb) % 4294967296 = d := ⟨_, rfl⟩
              obtain ⟨b', hb'⟩ : ∃ b', (if u < lo + bb then 1 else 0) = b' := ⟨_, rfl⟩
              have hwd := Pl.sub_word hul hlol hbb hd.symm
              rw [hb'] at hwd
              have hdl : d < 4294967296 := by omega
              have hbl' : b' ≤ 1 := by rw [← hb']; split <;> omega
              have HSB := Lib.hid (fun W => sub32_any u lo bb d b' W hul hlol hbb hd hb')
              have HRN := Lib.hid (Pl.take_round (us := us) (vs := vs) (ys := ys) (i := i) (c := c) (b := bb) (d := d) (lo := lo) (c' := c') (b' := b') (g := G) (by rw [hmid.hn]; omega) hnm.out (by rw [hu]; exact hwd) HGX2.out)
              have HM2 := Lib.hid (hmid.set (i := i) (d := d) (by omega) hdl)
              have HB2 := Lib.hid (hbw3.setCell (p := ⟨g, p + i, none⟩) rfl (.int .u32 (d : Nat)))
              have HDR : Hid ((ys.set i d).drop (i + 1) = us.drop (i + 1)) := Lib.hid (by
                rw [List.drop_set_of_lt (by omega)]
                have h1 := congrArg (List.drop 1) hdr.out
                rwa [List.drop_drop, List.drop_drop] at h1)
              have hpiN : p + i < N := by omega
              have hpiI : (p : Int) + (i : Int) = ((p + i : Nat) : Int) := by omega
              obtain ⟨pi, hpi⟩ : ∃ q, p + i = q := ⟨_, rfl⟩
              rw [hpi] at hcu hfree HM2 HB2 hpiN hpiI
              clear hmid hdr hnm hbw3 hsz3 hgx hsm hlo hc' hd hb' hwd hu hx hgd hpi HXX HGX HGX2
              go_wp2_with fail
              refine (HSB.out _).mono ?_
              rintro e w' ⟨rfl, rfl⟩
              go_wp2_with fail
              go_roundw
              case rel => exact ⟨i + 1, c', b', ys.set i d, by omega, hs2, hbl', rfl, rfl, by go_num, HM2.out, HDR, HRN.out |> Lib.hid, HB2.out, by simpa [World.setCell] using HSI.out⟩
              case measure => simp [RowKit.intOf]; omega
            · have hie : i = n := by omega
              subst hie
              have hgd : ys.getD i 0 = us.getD i 0 := by
                have h1 := congrArg (fun l => l.getD 0 0) hdr.out
                simpa [List.getD_eq_getElem?_getD] using h1
              have hcu := hmid.cell (i := m + 2) (by omega)
              have hfree := hmid.row.free q2
              have hHU := HEU.out.1
              rw [HXX.1] at hcu hHU
              rw [hgd, hHU, HXX.2.2.1] at hcu
              have hcI : (c : Int) % 4294967296 = (c : Int) := by omega
              obtain ⟨d, hd⟩ : ∃ d, (u2 + 8589934592 - c - bb) % 4294967296 = d := ⟨_, rfl⟩
              obtain ⟨b2, hb2⟩ : ∃ b', (if u2 < c + bb then 1 else 0) = b' := ⟨_, rfl⟩
              have hwd := Pl.sub_word u2l hc hbb hd.symm
              rw [hb2] at hwd
              have hdl : d < 4294967296 := by omega
              have hbl2 : b2 ≤ 1 := by rw [← hb2]; split <;> omega
              have HSB := Lib.hid (fun W => sub32_any u2 c bb d b2 W u2l hc hbb hd hb2)
              have hv0 : vs.getD i 0 = 0 := by rw [List.getD_eq_getElem?_getD, List.getElem?_eq_none (by rw [HLV.out]; omega)]; rfl
              have hrn := Pl.take_round (us := us) (vs := vs) (ys := ys) (i := i) (c := c) (b := bb) (d := d) (lo := c) (c' := 0) (b' := b2) (g := G) (by rw [hmid.hn]; omega) hnm.out (by rw [hHU]; exact hwd) (by rw [hv0]; simp)
              rw [List.take_of_length_le (by rw [List.length_set, hmid.hn]; omega), List.take_of_length_le (by rw [HLV.out]; omega), List.take_of_length_le (by rw [HU.out.hn]; omega), Nat.zero_add] at hrn
              have hM2 := hmid.set (i := m + 2) (d := d) (by omega) hdl
              rw [HXX.1, HXX.2.2.1] at hM2
              have hVp := HAT.out.b.2.2
              have hNl : Pl.num (ys.set i d) < 4294967296 ^ (i + 1) := by
                have := Pl.num_ws hM2.ws
                rwa [hM2.hn, show m + 3 = i + 1 by omega] at this
              have hUl : Pl.num us < 4294967296 ^ (i + 1) := by
                have := Pl.num_ws HU.out.ws
                rwa [HU.out.hn, show m + 3 = i + 1 by omega] at this
              have HTR := Lib.hid (Pl.took_right hVp hNl hUl hbl2 hrn HEG.out.2.1 HEG.out.2.2 rfl)
              have HM2 := Lib.hid hM2
              have HB2 := Lib.hid (hbw3.setCell (p := ⟨g, q2, none⟩) rfl (.int .u32 (d : Nat)))
              have HUL := Lib.hid (Nat.lt_of_le_of_lt (Nat.mod_le (Pl.num us) (Pl.num vs)) hUl)
              obtain ⟨zs0, hzs0⟩ : ∃ z, ys.set i d = z := ⟨_, rfl⟩
              rw [hzs0] at HM2 HTR
              have hGI : (G : Int) % 4294967296 = (G : Int) := by omega
              clear hmid hdr hnm hbw3 hsz3 hd hb2 hwd hgd hHU hrn hM2 hVp hNl hUl hzs0 hv0
              rcases (show b2 = 0 ∨ b2 = 1 by omega) with rfl | rfl
              · have HF := Lib.hid (HTR.out.1 rfl)
                clear HTR
                go_wp2_with fail
                refine (HSB.out _).mono ?_
                rintro e w' ⟨rfl, rfl⟩
                go_wp2_with fail
                go_ret
                exact ⟨zs0, by rw [HF.out.1]; rfl, HM2.out, HF.out.2, HB2.out, by simpa [World.setCell] using HSI.out⟩
              · have HF := Lib.hid (HTR.out.2 rfl)
                clear HTR
                obtain ⟨Q, hQ⟩ : ∃ Q, Pl.num us / Pl.num vs = Q := ⟨_, rfl⟩
                have HQ := Lib.hid hQ
                have hGQ : G = Q + 1 := by have := HF.out.1; rwa [hQ] at this
                have hwG : IntKind.u64.wrap ((G : Int) - 1) = (Q : Int) := by rw [IntKind.wrap_u64]; omega
                have hQI : (Q : Int) % 4294967296 = (Q : Int) := by omega
                have HGQ := Lib.hid hGQ
                clear hQ hGQ
                obtain ⟨W5, hW5⟩ : ∃ W5, wr.setCell ⟨g, q2, none⟩ (.int .u32 (d : Nat)) = W5 := ⟨_, rfl⟩
                rw [hW5] at HM2 HB2
                have HS5 : Hid (W5.heap.size = w.heap.size) := Lib.hid (by rw [← hW5]; simpa [World.setCell] using HSI.out)
                go_wp2_with fail
                refine (HSB.out _).mono ?_
                rintro e w' ⟨rfl, rfl⟩
                go_wp2_with fail
                clear hcu hfree HMI HBI HSI HSB
                go_loopw [16, 17, 18, 150] (fun s16 _ _ s150 wr => ∃ (j k : Nat) (zs : List Nat), j ≤ i ∧ k ≤ 1 ∧ s16 = .int .u32 k ∧ s150 = .int .i64 j ∧ Mid wr g pre zs post p (m + 3) N ∧ Hid (zs.drop j = zs0.drop j) ∧ Hid (Pl.num (zs.take j) + 4294967296 ^ j * k = Pl.num (zs0.take j) + Pl.num (vs.take j)) ∧ Onl g w wr ∧ wr.heap.size = w.heap.size) (fun _ _ _ s150 _ => i - (RowKit.intOf s150).toNat)
                case atStart => exact ⟨0, 0, zs0, Nat.zero_le _, by decide, rfl, rfl, HM2.out, Lib.hid rfl, Lib.hid (by simp [Pl.num]), HB2.out, HS5.out⟩
                case round =>
                  obtain ⟨j, k, zs, hj, hk, rfl, rfl, hmid, hdr, hnm, hbw3, hsz3⟩ := hrel
                  have HSI := Lib.hid hsz3
                  have hXX := HX.out
                  by_cases hjn : j < i
                  · have hcv := HVC.out wr hbw3 j (by omega)
                    have hcu := hmid.cell (i := j) (by omega)
                    have hgd : zs.getD j 0 = zs0.getD j 0 := by
                      have h1 := congrArg (fun l => l.getD 0 0) hdr.out
                      simpa [List.getD_eq_getElem?_getD] using h1
                    have hul := Pl.getD_ws HM2.out.ws j
                    have hxl := Pl.getD_ws HWV.out j
                    have hfree := hmid.row.free (p + j)
                    obtain ⟨u, hu⟩ : ∃ u, zs0.getD j 0 = u := ⟨_, rfl⟩
                    obtain ⟨x, hx⟩ : ∃ x, vs.getD j 0 = x := ⟨_, rfl⟩
                    rw [hgd, hu] at hcu
                    rw [hu] at hul
                    rw [hx] at hcv hxl
                    obtain ⟨d3, hd3⟩ : ∃ d, (u + x + k) % 4294967296 = d := ⟨_, rfl⟩
                    obtain ⟨k', hk'⟩ : ∃ q, (u + x + k) / 4294967296 = q := ⟨_, rfl⟩
                    have HAD := Lib.hid (fun W => add32_any u x k d3 k' W hul hxl hk hd3 hk')
                    have hd3l : d3 < 4294967296 := by omega
                    have hk'l : k' ≤ 1 := by omega
                    have HRN := Lib.hid (Pl.back_round (us := zs0) (vs := vs) (ys := zs) (i := j) (k := k) (d := d3) (k' := k') (by rw [hmid.hn]; omega) hnm.out (by rw [hu, hx]; omega))
                    have HM3 := Lib.hid (hmid.set (i := j) (d := d3) (by omega) hd3l)
                    have HB3 := Lib.hid (hbw3.setCell (p := ⟨g, p + j, none⟩) rfl (.int .u32 (d3 : Nat)))
                    have HDR : Hid ((zs.set j d3).drop (j + 1) = zs0.drop (j + 1)) := Lib.hid (by
                      rw [List.drop_set_of_lt (by omega)]
                      have h1 := congrArg (List.drop 1) hdr.out
                      rwa [List.drop_drop, List.drop_drop] at h1)
                    have hpjN : p + j < N := by omega
                    have hpjI : (p : Int) + (j : Int) = ((p + j : Nat) : Int) := by omega
                    obtain ⟨pj, hpj⟩ : ∃ q, p + j = q := ⟨_, rfl⟩
                    rw [hpj] at hcu hfree HM3 HB3 hpjN hpjI
                    clear hmid hdr hnm hbw3 hsz3 hd3 hk' hu hx hgd hpj hXX
                    go_wp2_with fail
                    refine (HAD.out _).mono ?_
                    rintro e w' ⟨rfl, rfl⟩
                    go_wp2_with fail
                    go_roundw
                    case rel => exact ⟨j + 1, k', zs.set j d3, by omega, hk'l, rfl, by go_num, HM3.out, HDR, Lib.hid HRN.out, HB3.out, by simpa [World.setCell] using HSI.out⟩
                    case measure => simp [RowKit.intOf]; omega
                  · have hji : j = i := by omega
                    subst hji
                    have hgd : zs.getD j 0 = zs0.getD j 0 := by
                      have h1 := congrArg (fun l => l.getD 0 0) hdr.out
                      simpa [List.getD_eq_getElem?_getD] using h1
                    have hcu := hmid.cell (i := m + 2) (by omega)
                    have hfree := hmid.row.free q2
                    have hul := Pl.getD_ws HM2.out.ws j
                    obtain ⟨z, hz⟩ : ∃ u, zs0.getD j 0 = u := ⟨_, rfl⟩
                    rw [hXX.1, hgd, hz, hXX.2.2.1] at hcu
                    rw [hz] at hul
                    obtain ⟨d3, hd3⟩ : ∃ d, (z + k) % 4294967296 = d := ⟨_, rfl⟩
                    obtain ⟨k', hk'⟩ : ∃ q, (z + k) / 4294967296 = q := ⟨_, rfl⟩
                    have hd3l : d3 < 4294967296 := by omega
                    have hk'l : k' ≤ 1 := by omega
                    have hwz : IntKind.u32.wrap ((z : Int) + (k : Int)) = (d3 : Int) := by rw [IntKind.wrap_u32]; omega
                    have hv0 : vs.getD j 0 = 0 := by rw [List.getD_eq_getElem?_getD, List.getElem?_eq_none (by rw [HLV.out]; omega)]; rfl
                    have hrn := Pl.back_round (us := zs0) (vs := vs) (ys := zs) (i := j) (k := k) (d := d3) (k' := k') (by rw [hmid.hn]; omega) hnm.out (by rw [hz, hv0]; omega)
                    rw [List.take_of_length_le (by rw [List.length_set, hmid.hn]; omega), List.take_of_length_le (by rw [HM2.out.hn]; omega), List.take_of_length_le (by rw [HLV.out]; omega)] at hrn
                    have hM3 := hmid.set (i := m + 2) (d := d3) (by omega) hd3l
                    rw [hXX.1, hXX.2.2.1] at hM3
                    have hNl : Pl.num (zs.set j d3) < 4294967296 ^ (j + 1) := by
                      have := Pl.num_ws hM3.ws
                      rwa [hM3.hn, show m + 3 = j + 1 by omega] at this
                    have HFN := Lib.hid (Pl.took_back HUL.out hNl hk'l hrn HF.out.2)
                    have HM3 := Lib.hid hM3
                    have HB3 := Lib.hid (hbw3.setCell (p := ⟨g, q2, none⟩) rfl (.int .u32 (d3 : Nat)))
                    clear hmid hdr hnm hbw3 hsz3 hd3 hk' hz hgd hXX hrn hM3 hNl hv0
                    go_wp2_with fail
                    go_ret
                    exact ⟨zs.set j d3, by rw [HQ.out]; rfl, HM3.out, HFN.out, HB3.out, by simpa [World.setCell] using HSI.out⟩
      · have hcmp : decide ((rv : Int) < (gv : Int)) = false := decide_eq_false (by omega)
        have hcmp2 : ¬ rv < gv := hgt
        have HEG : Hid (gg < 4294967296 ∧ Pl.num us / Pl.num vs ≤ gg ∧ gg ≤ Pl.num us / Pl.num vs + 1) := Lib.hid ⟨hlt, hinv.out.2, HNR.out hlt (by rw [hgv]; omega)⟩
        obtain ⟨G, hG⟩ : ∃ G, G = gg := ⟨_, rfl⟩
        subst hG
        clear hgv hrv hmid hbw2 hsz HX2 hinv HDN HNR
        go_wp2_with fail
        first | go_region | fail
        go_wp2_with fail
        go_wp2_with fail
        have HME := Lib.hid HMID.out.drew
        have HBE := Lib.hid HBW.out.drew
        have HSE : Hid (wr.drew.heap.size = w.heap.size) := Lib.hid HSZ.out
        generalize wr.drew = wE at *
        obtain ⟨hGB, _, _⟩ := HEG.out
        clear HMID HBW HSZ cu0 cv0 cv1 hor2 i1 i0 j1 j0 hqI hrI hqT hrT hor1 hgl hrl HST htl
        go_loopw [11, 12, 13, 14, 15, 94] (fun s11 s12 _ _ _ s94 wr => ∃ (i c bb : Nat) (ys : List Nat), i ≤ n ∧ c < 4294967296 ∧ bb ≤ 1 ∧ s11 = .int .u64 c ∧ s12 = .int .u32 bb ∧ s94 = .int .i64 i ∧ Mid wr g pre ys post p (m + 3) N ∧ Hid (ys.drop i = us.drop i) ∧ Hid (Pl.num (ys.take i) + G * Pl.num (vs.take i) = Pl.num (us.take i) + 4294967296 ^ i * (c + bb)) ∧ Onl g w wr ∧ wr.heap.size = w.heap.size) (fun _ _ _ _ _ s94 _ => n - (RowKit.intOf s94).toNat)
        case atStart => exact ⟨0, 0, 0, us, Nat.zero_le _, by decide, by decide, rfl, rfl, rfl, HME.out, Lib.hid rfl, Lib.hid (by simp [Pl.num]), HBE.out, HSE.out⟩
        case round =>
          obtain ⟨i, c, bb, ys, hi, hc, hbb, rfl, rfl, rfl, hmid, hdr, hnm, hbw3, hsz3⟩ := hrel
          have HMI := Lib.hid hmid
          have HBI := Lib.hid hbw3
          have HSI := Lib.hid hsz3
          have HXX := HX.out
          by_cases hin : i < n
          · have hcv := HVC.out wr hbw3 i (by omega)
            have hcu := hmid.cell (i := i) (by omega)
            have hgd : ys.getD i 0 = us.getD i 0 := by
              have h1 := congrArg (fun l => l.getD 0 0) hdr.out
              simpa [List.getD_eq_getElem?_getD] using h1
            have hul := Pl.getD_ws HU.out.ws i
            have hxl := Pl.getD_ws HWV.out i
            have hfree := hmid.row.free (p + i)
            obtain ⟨u, hu⟩ : ∃ u, us.getD i 0 = u := ⟨_, rfl⟩
            obtain ⟨x, hx⟩ : ∃ x, vs.getD i 0 = x := ⟨_, rfl⟩
            rw [hgd, hu] at hcu
            rw [hu] at hul
            rw [hx] at hcv hxl
            obtain ⟨hs1, hs2⟩ := Pl.mul_bound (a := G) (y := x) (z := 0) (c := c) hGB hxl (by decide) hc
            rw [Nat.add_zero] at hs1 hs2
            have hgx1 : G * x ≤ 4294967295 * 4294967295 := Nat.mul_le_mul (by omega) (by omega)
            have HGX := Lib.hid (show ∀ lo c' : Nat, (G * x + c) % 4294967296 = lo → (G * x + c) / 4294967296 = c' → G * vs.getD i 0 + c = lo + 4294967296 * c' from fun lo c' h1 h2 => by rw [hx]; omega)
            obtain ⟨gx, hgx⟩ : ∃ y, G * x = y := ⟨_, rfl⟩
            have hgxI : (G : Int) * (x : Int) = (gx : Int) := by rw [← hgx]; simp
            rw [hgx] at hgx1 hs1 hs2 HGX
            obtain ⟨sm, hsm⟩ : ∃ y, gx + c = y := ⟨_, rfl⟩
            rw [hsm] at hs1 hs2 HGX
            have hwx : IntKind.u64.wrap (x : Int) = (x : Int) := by rw [IntKind.wrap_u64]; omega
            have hwgx : IntKind.u64.wrap (gx : Int) = (gx : Int) := by rw [IntKind.wrap_u64]; omega
            have hwsm : IntKind.u64.wrap ((gx : Int) + (c : Int)) = (sm : Int) := by rw [IntKind.wrap_u64]; omega
            obtain ⟨lo, hlo⟩ : ∃ y, sm % 4294967296 = y := ⟨_, rfl⟩
            obtain ⟨c', hc'⟩ : ∃ y, sm / 4294967296 = y := ⟨_, rfl⟩
            have HGX2 := Lib.hid (HGX.out lo c' hlo hc')
            rw [hc'] at hs2
            have hloI : (sm : Int) % 4294967296 = (lo : Int) := by omega
            have hcI : (sm : Int) / 4294967296 = (c' : Int) := by omega
            have hlol : lo < 4294967296 := by omega
            obtain ⟨d, hd⟩ : ∃ d, (u + 8589934592 - lo - bb) % 4294967296 = d := ⟨_, rfl⟩
            obtain ⟨b', hb'⟩ : ∃ b', (if u < lo + bb then 1 else 0) = b' := ⟨_, rfl⟩
            have hwd := Pl.sub_word hul hlol hbb hd.symm
            rw [hb'] at hwd
            have hdl : d < 4294967296 := by omega
            have hbl' : b' ≤ 1 := by rw [← hb']; split <;> omega
            have HSB := Lib.hid (fun W => sub32_any u lo bb d b' W hul hlol hbb hd hb')
            have HRN := Lib.hid (Pl.take_round (us := us) (vs := vs) (ys := ys) (i := i) (c := c) (b := bb) (d := d) (lo := lo) (c' := c') (b' := b') (g := G) (by rw [hmid.hn]; omega) hnm.out (by rw [hu]; exact hwd) HGX2.out)
            have HM2 := Lib.hid (hmid.set (i := i) (d := d) (by omega) hdl)
            have HB2 := Lib.hid (hbw3.setCell (p := ⟨g, p + i, none⟩) rfl (.int .u32 (d : Nat)))
            have HDR : Hid ((ys.set i d).drop (i + 1) = us.drop (i + 1)) := Lib.hid (by
              rw [List.drop_set_of_lt (by omega)]
              have h1 := congrArg (List.drop 1) hdr.out
              rwa [List.drop_drop, List.drop_drop] at h1)
            have hpiN : p + i < N := by omega
            have hpiI : (p : Int) + (i : Int) = ((p + i : Nat) : Int) := by omega
            obtain ⟨pi, hpi⟩ : ∃ q, p + i = q := ⟨_, rfl⟩
            rw [hpi] at hcu hfree HM2 HB2 hpiN hpiI
            clear hmid hdr hnm hbw3 hsz3 hgx hsm hlo hc' hd hb' hwd hu hx hgd hpi HXX HGX HGX2
            go_wp2_with fail
            refine (HSB.out _).mono ?_
            rintro e w' ⟨rfl, rfl⟩
            go_wp2_with fail
            go_roundw
            case rel => exact ⟨i + 1, c', b', ys.set i d, by omega, hs2, hbl', rfl, rfl, by go_num, HM2.out, HDR, HRN.out |> Lib.hid, HB2.out, by simpa [World.setCell] using HSI.out⟩
            case measure => simp [RowKit.intOf]; omega
          · have hie : i = n := by omega
            subst hie
            have hgd : ys.getD i 0 = us.getD i 0 := by
              have h1 := congrArg (fun l => l.getD 0 0) hdr.out
              simpa [List.getD_eq_getElem?_getD] using h1
            have hcu := hmid.cell (i := m + 2) (by omega)
            have hfree := hmid.row.free q2
            have hHU := HEU.out.1
            rw [HXX.1] at hcu hHU
            rw [hgd, hHU, HXX.2.2.1] at hcu
            have hcI : (c : Int) % 4294967296 = (c : Int) := by omega
            obtain ⟨d, hd⟩ : ∃ d, (u2 + 8589934592 - c - bb) % 4294967296 = d := ⟨_, rfl⟩
            obtain ⟨b2, hb2⟩ : ∃ b', (if u2 < c + bb then 1 else 0) = b' := ⟨_, rfl⟩
            have hwd := Pl.sub_word u2l hc hbb hd.symm
            rw [hb2] at hwd
            have hdl : d < 4294967296 := by omega
            have hbl2 : b2 ≤ 1 := by rw [← hb2]; split <;> omega
            have HSB := Lib.hid (fun W => sub32_any u2 c bb d b2 W u2l hc hbb hd hb2)
            have hv0 : vs.getD i 0 = 0 := by rw [List.getD_eq_getElem?_getD, List.getElem?_eq_none (by rw [HLV.out]; omega)]; rfl
            have hrn := Pl.take_round (us := us) (vs := vs) (ys := ys) (i := i) (c := c) (b := bb) (d := d) (lo := c) (c' := 0) (b' := b2) (g := G) (by rw [hmid.hn]; omega) hnm.out (by rw [hHU]; exact hwd) (by rw [hv0]; simp)
            rw [List.take_of_length_le (by rw [List.length_set, hmid.hn]; omega), List.take_of_length_le (by rw [HLV.out]; omega), List.take_of_length_le (by rw [HU.out.hn]; omega), Nat.zero_add] at hrn
            have hM2 := hmid.set (i := m + 2) (d := d) (by omega) hdl
            rw [HXX.1, HXX.2.2.1] at hM2
            have hVp := HAT.out.b.2.2
            have hNl : Pl.num (ys.set i d) < 4294967296 ^ (i + 1) := by
              have := Pl.num_ws hM2.ws
              rwa [hM2.hn, show m + 3 = i + 1 by omega] at this
            have hUl : Pl.num us < 4294967296 ^ (i + 1) := by
              have := Pl.num_ws HU.out.ws
              rwa [HU.out.hn, show m + 3 = i + 1 by omega] at this
            have HTR := Lib.hid (Pl.took_right hVp hNl hUl hbl2 hrn HEG.out.2.1 HEG.out.2.2 rfl)
            have HM2 := Lib.hid hM2
            have HB2 := Lib.hid (hbw3.setCell (p := ⟨g, q2, none⟩) rfl (.int .u32 (d : Nat)))
            have HUL := Lib.hid (Nat.lt_of_le_of_lt (Nat.mod_le (Pl.num us) (Pl.num vs)) hUl)
            obtain ⟨zs0, hzs0⟩ : ∃ z, ys.set i d = z := ⟨_, rfl⟩
            rw [hzs0] at HM2 HTR
            have hGI : (G : Int) % 4294967296 = (G : Int) := by omega
            clear hmid hdr hnm hbw3 hsz3 hd hb2 hwd hgd hHU hrn hM2 hVp hNl hUl hzs0 hv0
            rcases (show b2 = 0 ∨ b2 = 1 by omega) with rfl | rfl
            · have HF := Lib.hid (HTR.out.1 rfl)
              clear HTR
              go_wp2_with fail
              refine (HSB.out _).mono ?_
              rintro e w' ⟨rfl, rfl⟩
              go_wp2_with fail
              go_ret
              exact ⟨zs0, by rw [HF.out.1]; rfl, HM2.out, HF.out.2, HB2.out, by simpa [World.setCell] using HSI.out⟩
            · have HF := Lib.hid (HTR.out.2 rfl)
              clear HTR
              obtain ⟨Q, hQ⟩ : ∃ Q, Pl.num us / Pl.num vs = Q := ⟨_, rfl⟩
              have HQ := Lib.hid hQ
              have hGQ : G = Q + 1 := by have := HF.out.1; rwa [hQ] at this
              have hwG : IntKind.u64.wrap ((G : Int) - 1) = (Q : Int) := by rw [IntKind.wrap_u64]; omega
              have hQI : (Q : Int) % 4294967296 = (Q : Int) := by omega
              have HGQ := Lib.hid hGQ
              clear hQ hGQ
              obtain ⟨W5, hW5⟩ : ∃ W5, wr.setCell ⟨g, q2, none⟩ (.int .u32 (d : Nat)) = W5 := ⟨_, rfl⟩
              rw [hW5] at HM2 HB2
              have HS5 : Hid (W5.heap.size = w.heap.size) := Lib.hid (by rw [← hW5]; simpa [World.setCell] using HSI.out)
              go_wp2_with fail
              refine (HSB.out _).mono ?_
              rintro e w' ⟨rfl, rfl⟩
              go_wp2_with fail
              clear hcu hfree HMI HBI HSI HSB
              go_loopw [16, 17, 18, 150] (fun s16 _ _ s150 wr => ∃ (j k : Nat) (zs : List Nat), j ≤ i ∧ k ≤ 1 ∧ s16 = .int .u32 k ∧ s150 = .int .i64 j ∧ Mid wr g pre zs post p (m + 3) N ∧ Hid (zs.drop j = zs0.drop j) ∧ Hid (Pl.num (zs.take j) + 4294967296 ^ j * k = Pl.num (zs0.take j) + Pl.num (vs.take j)) ∧ Onl g w wr ∧ wr.heap.size = w.heap.size) (fun _ _ _ s150 _ => i - (RowKit.intOf s150).toNat)
              case atStart => exact ⟨0, 0, zs0, Nat.zero_le _, by decide, rfl, rfl, HM2.out, Lib.hid rfl, Lib.hid (by simp [Pl.num]), HB2.out, HS5.out⟩
              case round =>
                obtain ⟨j, k, zs, hj, hk, rfl, rfl, hmid, hdr, hnm, hbw3, hsz3⟩ := hrel
                have HSI := Lib.hid hsz3
                have hXX := HX.out
                by_cases hjn : j < i
                · have hcv := HVC.out wr hbw3 j (by omega)
                  have hcu := hmid.cell (i := j) (by omega)
                  have hgd : zs.getD j 0 = zs0.getD j 0 := by
                    have h1 := congrArg (fun l => l.getD 0 0) hdr.out
                    simpa [List.getD_eq_getElem?_getD] using h1
                  have hul := Pl.getD_ws HM2.out.ws j
                  have hxl := Pl.getD_ws HWV.out j
                  have hfree := hmid.row.free (p + j)
                  obtain ⟨u, hu⟩ : ∃ u, zs0.getD j 0 = u := ⟨_, rfl⟩
                  obtain ⟨x, hx⟩ : ∃ x, vs.getD j 0 = x := ⟨_, rfl⟩
                  rw [hgd, hu] at hcu
                  rw [hu] at hul
                  rw [hx] at hcv hxl
                  obtain ⟨d3, hd3⟩ : ∃ d, (u + x + k) % 4294967296 = d := ⟨_, rfl⟩
                  obtain ⟨k', hk'⟩ : ∃ q, (u + x + k) / 4294967296 = q := ⟨_, rfl⟩
                  have HAD := Lib.hid (fun W => add32_any u x k d3 k' W hul hxl hk hd3 hk')
                  have hd3l : d3 < 4294967296 := by omega
                  have hk'l : k' ≤ 1 := by omega
                  have HRN := Lib.hid (Pl.back_round (us := zs0) (vs := vs) (ys := zs) (i := j) (k := k) (d := d3) (k' := k') (by rw [hmid.hn]; omega) hnm.out (by rw [hu, hx]; omega))
                  have HM3 := Lib.hid (hmid.set (i := j) (d := d3) (by omega) hd3l)
                  have HB3 := Lib.hid (hbw3.setCell (p := ⟨g, p + j, none⟩) rfl (.int .u32 (d3 : Nat)))
                  have HDR : Hid ((zs.set j d3).drop (j + 1) = zs0.drop (j + 1)) := Lib.hid (by
                    rw [List.drop_set_of_lt (by omega)]
                    have h1 := congrArg (List.drop 1) hdr.out
                    rwa [List.drop_drop, List.drop_drop] at h1)
                  have hpjN : p + j < N := by omega
                  have hpjI : (p : Int) + (j : Int) = ((p + j : Nat) : Int) := by omega
                  obtain ⟨pj, hpj⟩ : ∃ q, p + j = q := ⟨_, rfl⟩
                  rw [hpj] at hcu hfree HM3 HB3 hpjN hpjI
                  clear hmid hdr hnm hbw3 hsz3 hd3 hk' hu hx hgd hpj hXX
                  go_wp2_with fail
                  refine (HAD.out _).mono ?_
                  rintro e w' ⟨rfl, rfl⟩
                  go_wp2_with fail
                  go_roundw
                  case rel => exact ⟨j + 1, k', zs.set j d3, by omega, hk'l, rfl, by go_num, HM3.out, HDR, Lib.hid HRN.out, HB3.out, by simpa [World.setCell] using HSI.out⟩
                  case measure => simp [RowKit.intOf]; omega
                · have hji : j = i := by omega
                  subst hji
                  have hgd : zs.getD j 0 = zs0.getD j 0 := by
                    have h1 := congrArg (fun l => l.getD 0 0) hdr.out
                    simpa [List.getD_eq_getElem?_getD] using h1
                  have hcu := hmid.cell (i := m + 2) (by omega)
                  have hfree := hmid.row.free q2
                  have hul := Pl.getD_ws HM2.out.ws j
                  obtain ⟨z, hz⟩ : ∃ u, zs0.getD j 0 = u := ⟨_, rfl⟩
                  rw [hXX.1, hgd, hz, hXX.2.2.1] at hcu
                  rw [hz] at hul
                  obtain ⟨d3, hd3⟩ : ∃ d, (z + k) % 4294967296 = d := ⟨_, rfl⟩
                  obtain ⟨k', hk'⟩ : ∃ q, (z + k) / 4294967296 = q := ⟨_, rfl⟩
                  have hd3l : d3 < 4294967296 := by omega
                  have hk'l : k' ≤ 1 := by omega
                  have hwz : IntKind.u32.wrap ((z : Int) + (k : Int)) = (d3 : Int) := by rw [IntKind.wrap_u32]; omega
                  have hv0 : vs.getD j 0 = 0 := by rw [List.getD_eq_getElem?_getD, List.getElem?_eq_none (by rw [HLV.out]; omega)]; rfl
                  have hrn := Pl.back_round (us := zs0) (vs := vs) (ys := zs) (i := j) (k := k) (d := d3) (k' := k') (by rw [hmid.hn]; omega) hnm.out (by rw [hz, hv0]; omega)
                  rw [List.take_of_length_le (by rw [List.length_set, hmid.hn]; omega), List.take_of_length_le (by rw [HM2.out.hn]; omega), List.take_of_length_le (by rw [HLV.out]; omega)] at hrn
                  have hM3 := hmid.set (i := m + 2) (d := d3) (by omega) hd3l
                  rw [hXX.1, hXX.2.2.1] at hM3
                  have hNl : Pl.num (zs.set j d3) < 4294967296 ^ (j + 1) := by
                    have := Pl.num_ws hM3.ws
                    rwa [hM3.hn, show m + 3 = j + 1 by omega] at this
                  have HFN := Lib.hid (Pl.took_back HUL.out hNl hk'l hrn HF.out.2)
                  have HM3 := Lib.hid hM3
                  have HB3 := Lib.hid (hbw3.setCell (p := ⟨g, q2, none⟩) rfl (.int .u32 (d3 : Nat)))
                  clear hmid hdr hnm hbw3 hsz3 hd3 hk' hz hgd hXX hrn hM3 hNl hv0
                  go_wp2_with fail
                  go_ret
                  exact ⟨zs.set j d3, by rw [HQ.out]; rfl, HM3.out, HFN.out, HB3.out, by simpa [World.setCell] using HSI.out⟩
end Go.Proofs.YtlodbibagmblkaaGreatDoor
