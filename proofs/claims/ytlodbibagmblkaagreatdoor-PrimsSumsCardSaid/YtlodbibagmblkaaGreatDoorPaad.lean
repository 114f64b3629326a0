/- Sums and differences of words: the contracts of bits.Add32, bits.Sub32, add, sub. Differences of words: the contracts of bits.Sub32, sub. Words by a word: the contracts of bits.Div32, short. A large number shifted to the left: the contract of Shift. The order of words: the contract of cmp. Stores into rows that a call owns; lists of lists: nothing of a program. -/
import Derived.Test.YtlodbibagmblkaaGreatDoorPaac
import Derived.Deep.RegionHeld3
import Derived.Test.YtlodbibagmblkaaGreatDoorPaab
namespace Go.Proofs.YtlodbibagmblkaaGreatDoor
open Go.RowKit Go.Lib
set_option maxHeartbeats 1000000 in
theorem add32_any (x y c d c' : Nat) (w : World) (hx : x < 4294967296) (hy : y < 4294967296) (hc : c ≤ 1) (hd : (x + y + c) % 4294967296 = d) (hc' : (x + y + c) / 4294967296 = c') :
    Calls Tryz.prog 143 #[.int .u32 x, .int .u32 y, .int .u32 c] w fun e w' => e = .returned (.tuple #[.int .u32 d, .int .u32 c']) ∧ w = w' := by
  go_enter Tryz.func143, Tryz.ntmps143
  go_wp2_with fail
  go_ret2
  refine ⟨?_, rfl⟩
  have e1 : ((x : Int) + (y : Int) + (c : Int)) % 4294967296 = (d : Int) := by omega
  have e2 : ((x : Int) + (y : Int) + (c : Int)) / 4294967296 = (c' : Int) := by omega
  rw [e1, e2]
  rfl
/-- What comes out is the words of a number. -/
def NatOk (w : World) (V : Nat) (e : Ending) (w' : World) : Prop := ∃ v, e = .returned v ∧ Rd w' v (Pl.wd V) ∧ Below w.heap.size w w'
theorem Rd.form {w : World} {v : Value} {xs : List Nat} (h : Rd w v xs) : ∃ a c, v = .slice a xs.length c := h.len
theorem made_row {w w1 : World} {g n : Nat} (ho : w1.ownsRow w.heap.size 103 1 (.slice (some ⟨g, 0, none⟩) n n) n (madeCells #[Value.int .u32 0] n).toList) : Wrow w1 g (List.replicate n 0) := by
  have h := row_full ho
  rw [made_words] at h
  have e : Pl.words n [] = List.replicate n 0 := by
    apply List.ext_getElem
    · simp [Pl.words]
    · intro i h1 h2; simp [Pl.words, Pl.word, Pl.le]
  rw [e] at h
  exact h
set_option maxRecDepth 4000 in
set_option maxHeartbeats 2000000 in
theorem nadd_any (vx vy : Value) (xs ys : List Nat) (w : World) (hx : Rd w vx xs) (hy : Rd w vy ys) (lx : xs.length ≤ 3000) (ly : ys.length ≤ 3000) (wx : Pl.Ws xs) (wy : Pl.Ws ys) :
    Calls Tryz.prog 85 #[vx, vy] w (NatOk w (Pl.num xs + Pl.num ys)) := by
  obtain ⟨i0, hi, hz0, hz1, hz2⟩ := info_parts info74
  obtain ⟨xa, xc, rfl⟩ := hx.form
  obtain ⟨ya, yc, rfl⟩ := hy.form
  rcases Nat.lt_or_ge xs.length ys.length with hle | hle
  case' inl =>
    obtain ⟨Ys, rfl⟩ : ∃ l, l = xs := ⟨_, rfl⟩
    obtain ⟨Xs, rfl⟩ : ∃ l, l = ys := ⟨_, rfl⟩
    obtain ⟨Ya, rfl⟩ : ∃ l, l = xa := ⟨_, rfl⟩
    obtain ⟨Xa, rfl⟩ : ∃ l, l = ya := ⟨_, rfl⟩
    obtain ⟨Yc, rfl⟩ : ∃ l, l = xc := ⟨_, rfl⟩
    obtain ⟨Xc, rfl⟩ : ∃ l, l = yc := ⟨_, rfl⟩
    have HX := Lib.hid hy
    have HY := Lib.hid hx
    have HWX := Lib.hid wy
    have HWY := Lib.hid wx
    have hlX := ly
    have hlY := lx
    clear hx hy wx wy lx ly
    obtain ⟨V, hV⟩ : ∃ V, Pl.num Xs + Pl.num Ys = V := ⟨_, rfl⟩
    rw [Nat.add_comm, hV]
    obtain ⟨n, hn⟩ : ∃ n, Xs.length = n := ⟨_, rfl⟩
    obtain ⟨m, hm⟩ : ∃ m, Ys.length = m := ⟨_, rfl⟩
    rw [hn] at hlX HX
    rw [hm] at hlY HY
    rw [hn, hm] at hle
    rw [hn, hm]
    have hmn : m ≤ n := by omega
  case' inr =>
    obtain ⟨Xs, rfl⟩ : ∃ l, l = xs := ⟨_, rfl⟩
    obtain ⟨Ys, rfl⟩ : ∃ l, l = ys := ⟨_, rfl⟩
    obtain ⟨Xa, rfl⟩ : ∃ l, l = xa := ⟨_, rfl⟩
    obtain ⟨Ya, rfl⟩ : ∃ l, l = ya := ⟨_, rfl⟩
    obtain ⟨Xc, rfl⟩ : ∃ l, l = xc := ⟨_, rfl⟩
    obtain ⟨Yc, rfl⟩ : ∃ l, l = yc := ⟨_, rfl⟩
    have HX := Lib.hid hx
    have HY := Lib.hid hy
    have HWX := Lib.hid wx
    have HWY := Lib.hid wy
    have hlX := lx
    have hlY := ly
    clear hx hy wx wy lx ly
    obtain ⟨V, hV⟩ : ∃ V, Pl.num Xs + Pl.num Ys = V := ⟨_, rfl⟩
    rw [hV]
    obtain ⟨n, hn⟩ : ∃ n, Xs.length = n := ⟨_, rfl⟩
    obtain ⟨m, hm⟩ : ∃ m, Ys.length = m := ⟨_, rfl⟩
    rw [hn] at hlX HX
    rw [hm] at hlY HY
    rw [hn, hm] at hle
    rw [hn, hm]
    have hmn : m ≤ n := by omega
  all_goals
    have HN := Lib.hid hn
    have HM := Lib.hid hm
    have HV := Lib.hid hV
    clear hn hm hV
    go_enter Tryz.func85, Tryz.ntmps85
    go_wp2_with (at_make; refine wpList_make_full _ rfl _ _ 90 rfl w.heap.size 103 i0 (.int .u32 0) 1 Tryz.underlying90 hi hz0 hz1 .i64 .i64 _ _ (n + 1) rfl rfl (by omega) (by omega) (by rw [hz2]; omega) (by unfold maxLen; omega) (by simp) ?_)
    intro w1 ho1 hg1
    obtain ⟨g, hgd⟩ : ∃ g, w.heap.size = g := ⟨_, rfl⟩
    have hrow := made_row ho1
    rw [hgd] at hrow ⊢
    have HB1 := Lib.hid (show Below g w w1 from (Below.refl _ _).grown hg1 (by omega) (fun k hk => by cases hk))
    have HROW := Lib.hid hrow
    have HGD := Lib.hid hgd
    clear ho1 hg1 hi hz0 hz1 hz2 hrow hgd
    go_wp2_with fail
    go_loopw [6, 22] (fun c i wr => ∃ (k cc : Nat) (zs : List Nat), k ≤ n ∧ cc ≤ 1 ∧ c = .int .u32 cc ∧ i = .int .i64 k ∧ Wrow wr g zs ∧ zs.length = n + 1 ∧ Pl.Ws zs ∧ (∀ j, k ≤ j → zs.getD j 0 = 0) ∧ Hid (Pl.num zs + 4294967296 ^ k * cc = Pl.num (Xs.take k) + Pl.num (Ys.take k)) ∧ Below g w wr) (fun _ i _ => n - (RowKit.intOf i).toNat)
    case atStart => exact ⟨0, 0, List.replicate (n + 1) 0, Nat.zero_le _, by omega, rfl, rfl, HROW.out, by simp, Pl.ws_replicate _, fun j _ => by simp [List.getD_eq_getElem?_getD, List.getElem?_replicate]; split <;> rfl, Lib.hid (by rw [Pl.num_replicate]; simp [Pl.num]), HB1.out⟩
    case round =>
      obtain ⟨k, cc, zs, hk, hcc, rfl, rfl, hrow, hzl, hws, hz0, hnum, hb⟩ := hrel
      have HB := Lib.hid hb
      have HZL := Lib.hid hzl
      have HWS := Lib.hid hws
      have HZ0 := Lib.hid hz0
      have HROW2 := Lib.hid hrow
      by_cases hlt : k < n
      · have hkz : k < zs.length := by rw [hzl]; omega
        have hcell := hrow.cell hkz
        have hfree := hrow.free k
        obtain ⟨bx, hxa, hbx, hcx⟩ := HX.out.at (k := k) (by rw [HN.out]; exact hlt)
        have hcx2 : wr.cell? ⟨bx, k, none⟩ = some (.int .u32 (Xs.getD k 0 : Nat)) := by
          rw [HB.out.cell (p := ⟨bx, k, none⟩) (by have := HGD.out; show bx < _; omega)]; exact hcx
        subst hxa
        clear hrow hzl hws hz0 hb hcx hbx
        have hxl := Pl.getD_ws HWX.out k
        have HRND := Lib.hid (fun (h0 : zs.getD k 0 = 0) => Pl.add_round (xs := Xs) (ys := Ys) (zs := zs) (k := k) (c := cc) hkz h0 hnum.out)
        obtain ⟨x, hx⟩ : ∃ x, Xs.getD k 0 = x := ⟨_, rfl⟩
        rw [hx] at hcx2 hxl HRND
        obtain ⟨y, hy⟩ : ∃ y, Ys.getD k 0 = y := ⟨_, rfl⟩
        have hyl : y < 4294967296 := by rw [← hy]; exact Pl.getD_ws HWY.out k
        rw [hy] at HRND
        obtain ⟨d, hd⟩ : ∃ d, (x + y + cc) % 4294967296 = d := ⟨_, rfl⟩
        obtain ⟨c', hc'⟩ : ∃ c', (x + y + cc) / 4294967296 = c' := ⟨_, rfl⟩
        rw [hd, hc'] at HRND
        have HAD := Lib.hid (fun W => add32_any x y cc d c' W hxl hyl hcc hd hc')
        have hdl : d < 4294967296 := by omega
        have hcl : c' ≤ 1 := by omega
        have hrow' := HROW2.out.set k d
        have hb' := HB.out.setCell (p := ⟨g, k, none⟩) (Nat.le_refl g) (.int .u32 (d : Nat))
        have HROW3 := Lib.hid hrow'
        have HB3 := Lib.hid hb'
        have HX2 := Lib.hid hx
        have HY2 := Lib.hid hy
        have HKZ := Lib.hid hkz
        clear hrow' hb' hx hy hkz hnum hd hc' hxl
        by_cases hm : k < m
        case' pos =>
          obtain ⟨bY, hya, hbY, hcy⟩ := HY.out.at (k := k) (by rw [HM.out]; exact hm)
          have hcy2 : wr.cell? ⟨bY, k, none⟩ = some (.int .u32 (y : Nat)) := by
            rw [HB.out.cell (p := ⟨bY, k, none⟩) (by have := HGD.out; show bY < _; omega), ← HY2.out]; exact hcy
          subst hya
          clear hcy hbY
          go_wp2_with fail
        case' neg =>
          have hy0 : y = 0 := by rw [← HY2.out, List.getD_eq_getElem?_getD, List.getElem?_eq_none (by rw [HM.out]; omega)]; rfl
          subst hy0
          go_wp2_with fail
        all_goals
          refine (HAD.out _).mono ?_
          rintro e w' ⟨rfl, rfl⟩
          go_wp2_with fail
          go_roundw
          case rel =>
            refine ⟨k + 1, c', zs.set k d, by omega, hcl, rfl, by go_num, HROW3.out, by rw [List.length_set]; exact HZL.out, HWS.out.set k hdl, fun j hj => ?_, Lib.hid (HRND.out (HZ0.out k (Nat.le_refl _))), HB3.out⟩
            rw [List.getD_eq_getElem?_getD, List.getElem?_set_ne (by omega), ← List.getD_eq_getElem?_getD]
            exact HZ0.out j (by omega)
          case measure => simp [RowKit.intOf]; omega
      · obtain rfl : k = n := by omega
        have hkz : k < zs.length := by rw [hzl]; omega
        have hcell := hrow.cell hkz
        have hfree := hrow.free k
        have hrow' := hrow.set k cc
        have hb' := hb.setCell (p := ⟨g, k, none⟩) (Nat.le_refl g) (.int .u32 (cc : Nat))
        have hws' : Pl.Ws (zs.set k cc) := hws.set k (by omega)
        have hlen' : (zs.set k cc).length = k + 1 := by rw [List.length_set]; exact hzl
        have hres : Pl.num (zs.set k cc) = V := by
          have h1 := Pl.num_set zs k cc hkz
          rw [hz0 k (Nat.le_refl _), Nat.mul_zero, Nat.add_zero] at h1
          rw [h1, hnum.out, List.take_of_length_le (by rw [HN.out]; exact Nat.le_refl _), List.take_of_length_le (by rw [HM.out]; exact hmn)]
          exact HV.out
        have hrd := hrow'.rd (cap := k + 1) (by rw [hlen']; exact Nat.le_refl _)
        rw [hlen'] at hrd
        have HT := Lib.hid (trim_any _ _ _ hrd (by rw [hlen']; omega))
        have HTW := Lib.hid (Pl.trimW_wd hws' hres)
        have HB3 := Lib.hid hb'
        clear hrow hrow' hb hb' hws hws' hnum hrd hres hz0 hlt hlen'
        go_wp2_with fail
        refine HT.out.mono ?_
        rintro e w' ⟨v', rfl, hr, rfl⟩
        rw [HTW.out] at hr
        have HR := Lib.hid hr
        obtain ⟨a, c, rfl⟩ := hr.form
        clear hr
        go_wp2_with fail
        go_ret
        exact ⟨_, rfl, HR.out, by rw [HGD.out]; exact HB3.out⟩
end Go.Proofs.YtlodbibagmblkaaGreatDoor
namespace Go.Proofs.YtlodbibagmblkaaGreatDoor
open Go.RowKit Go.Lib
theorem wrap32_nat {a : Nat} (h : a < 4294967296) : IntKind.u32.wrap (a : Int) = a := by rw [IntKind.wrap_u32]; omega
theorem and32 {a b : Nat} (ha : a < 4294967296) (hb : b < 4294967296) : bits .and .u32 (a : Int) (b : Int) = ((a &&& b : Nat) : Int) := by
  have h32 : (2 : Nat) ^ IntKind.u32.bits = 4294967296 := rfl
  simp only [bits, BitVec.ofInt_natCast, BitVec.toNat_and, BitVec.toNat_ofNat, h32]
  rw [Nat.mod_eq_of_lt ha, Nat.mod_eq_of_lt hb, wrap32_nat (Nat.lt_of_le_of_lt Nat.and_le_left ha)]
theorem or32 {a b : Nat} (ha : a < 4294967296) (hb : b < 4294967296) : bits .or .u32 (a : Int) (b : Int) = ((a ||| b : Nat) : Int) := by
  have h32 : (2 : Nat) ^ IntKind.u32.bits = 4294967296 := rfl
  simp only [bits, BitVec.ofInt_natCast, BitVec.toNat_or, BitVec.toNat_ofNat, h32]
  rw [Nat.mod_eq_of_lt ha, Nat.mod_eq_of_lt hb, wrap32_nat (Nat.or_lt_two_pow (n := 32) ha hb)]
theorem xor32 {a b : Nat} (ha : a < 4294967296) (hb : b < 4294967296) : bits .xor .u32 (a : Int) (b : Int) = ((a ^^^ b : Nat) : Int) := by
  have h32 : (2 : Nat) ^ IntKind.u32.bits = 4294967296 := rfl
  simp only [bits, BitVec.ofInt_natCast, BitVec.toNat_xor, BitVec.toNat_ofNat, h32]
  rw [Nat.mod_eq_of_lt ha, Nat.mod_eq_of_lt hb, wrap32_nat (Nat.xor_lt_two_pow (n := 32) ha hb)]
theorem not32 {a : Nat} (ha : a < 4294967296) : bits .xor .u32 IntKind.u32.max (a : Int) = ((4294967295 - a : Nat) : Int) := by
  rw [show IntKind.u32.max = ((4294967295 : Nat) : Int) from rfl, xor32 (by decide) ha]
  have h := BitVec.toNat_not (x := BitVec.ofNat 32 a)
  rw [← BitVec.allOnes_xor, BitVec.toNat_xor, BitVec.toNat_allOnes, BitVec.toNat_ofNat, Nat.mod_eq_of_lt (show a < 2 ^ 32 from ha)] at h
  rw [show (4294967295 : Nat) = 2 ^ 32 - 1 from rfl, h]
set_option maxHeartbeats 1000000 in
theorem sub32_any (x y c d c' : Nat) (w : World) (hx : x < 4294967296) (hy : y < 4294967296) (hc : c ≤ 1) (hd : (x + 8589934592 - y - c) % 4294967296 = d) (hc' : (if x < y + c then 1 else 0) = c') :
    Calls Tryz.prog 170 #[.int .u32 x, .int .u32 y, .int .u32 c] w fun e w' => e = .returned (.tuple #[.int .u32 d, .int .u32 c']) ∧ w = w' := by
  have hB := Pl.sub_borrow hx hy hc hd.symm
  rw [hc'] at hB
  have hdl : d < 4294967296 := by omega
  have hxy : x ^^^ y < 4294967296 := Nat.xor_lt_two_pow (n := 32) hx hy
  have e1 : ((x : Int) - (y : Int) - (c : Int)) % 4294967296 = (d : Int) := by omega
  have e2 : bits .or .u32 (bits .and .u32 (bits .xor .u32 IntKind.u32.max (x : Int)) (y : Int)) (bits .and .u32 (bits .xor .u32 IntKind.u32.max (bits .xor .u32 (x : Int) (y : Int))) (d : Int)) / 2147483648 = (c' : Int) := by
    rw [not32 hx, xor32 hx hy, not32 hxy, and32 (by omega) hy, and32 (by omega) hdl, or32 (Nat.lt_of_le_of_lt Nat.and_le_left (by omega)) (Nat.lt_of_le_of_lt Nat.and_le_left (by omega)), ← hB]
    rfl
  clear hB hc' hxy
  go_enter Tryz.func170, Tryz.ntmps170
  go_wp2_with fail
  all_goals
    go_ret2
    exact ⟨rfl, rfl⟩
set_option maxRecDepth 4000 in
set_option maxHeartbeats 2000000 in
theorem nsub_any (vx vy : Value) (Xs Ys : List Nat) (w : World) (hx : Rd w vx Xs) (hy : Rd w vy Ys) (lx : Xs.length ≤ 3000) (ly : Ys.length ≤ Xs.length) (wx : Pl.Ws Xs) (wy : Pl.Ws Ys) (hle : Pl.num Ys ≤ Pl.num Xs) :
    Calls Tryz.prog 135 #[vx, vy] w (NatOk w (Pl.num Xs - Pl.num Ys)) := by
  obtain ⟨i0, hi, hz0, hz1, hz2⟩ := info_parts info74
  obtain ⟨Xa, Xc, rfl⟩ := hx.form
  obtain ⟨Ya, Yc, rfl⟩ := hy.form
  have HX := Lib.hid hx
  have HY := Lib.hid hy
  have HWX := Lib.hid wx
  have HWY := Lib.hid wy
  have HLE := Lib.hid hle
  clear hx hy wx wy hle
  obtain ⟨n, hn⟩ : ∃ n, Xs.length = n := ⟨_, rfl⟩
  obtain ⟨m, hm⟩ : ∃ m, Ys.length = m := ⟨_, rfl⟩
  rw [hn] at lx HX ly
  rw [hm] at HY ly
  rw [hn, hm]
  have HN := Lib.hid hn
  have HM := Lib.hid hm
  obtain ⟨V, hV⟩ : ∃ V, Pl.num Xs - Pl.num Ys = V := ⟨_, rfl⟩
  rw [hV]
  have HV := Lib.hid hV
  clear hn hm hV
  go_enter Tryz.func135, Tryz.ntmps135
  go_wp2_with (at_make; refine wpList_make_full _ rfl _ _ 90 rfl w.heap.size 103 i0 (.int .u32 0) 1 Tryz.underlying90 hi hz0 hz1 .i64 .i64 _ _ n rfl rfl (by omega) (by omega) (by rw [hz2]; omega) (by unfold maxLen; omega) (by simp) ?_)
  intro w1 ho1 hg1
  obtain ⟨g, hgd⟩ : ∃ g, w.heap.size = g := ⟨_, rfl⟩
  have hrow := made_row ho1
  rw [hgd] at hrow ⊢
  have HB1 := Lib.hid (show Below g w w1 from (Below.refl _ _).grown hg1 (by omega) (fun k hk => by cases hk))
  have HROW := Lib.hid hrow
  have HGD := Lib.hid hgd
  clear ho1 hg1 hi hz0 hz1 hz2 hrow hgd
  go_wp2_with fail
  go_loopw [6, 14] (fun c i wr => ∃ (k cc : Nat) (zs : List Nat), k ≤ n ∧ cc ≤ 1 ∧ c = .int .u32 cc ∧ i = .int .i64 k ∧ Wrow wr g zs ∧ zs.length = n ∧ Pl.Ws zs ∧ (∀ j, k ≤ j → zs.getD j 0 = 0) ∧ Hid (Pl.num zs + Pl.num (Ys.take k) = Pl.num (Xs.take k) + 4294967296 ^ k * cc) ∧ Below g w wr) (fun _ i _ => n - (RowKit.intOf i).toNat)
  case atStart => exact ⟨0, 0, List.replicate n 0, Nat.zero_le _, by omega, rfl, rfl, HROW.out, by simp, Pl.ws_replicate _, fun j _ => by simp [List.getD_eq_getElem?_getD, List.getElem?_replicate]; split <;> rfl, Lib.hid (by rw [Pl.num_replicate]; simp [Pl.num]), HB1.out⟩
  case round =>
    obtain ⟨k, cc, zs, hk, hcc, rfl, rfl, hrow, hzl, hws, hz0, hnum, hb⟩ := hrel
    have HB := Lib.hid hb
    have HZL := Lib.hid hzl
    have HWS := Lib.hid hws
    have HZ0 := Lib.hid hz0
    have HROW2 := Lib.hid hrow
    by_cases hlt : k < n
    · have hkz : k < zs.length := by rw [hzl]; omega
      have hcell := hrow.cell hkz
      have hfree := hrow.free k
      obtain ⟨bx, hxa, hbx, hcx⟩ := HX.out.at (k := k) (by rw [HN.out]; exact hlt)
      have hcx2 : wr.cell? ⟨bx, k, none⟩ = some (.int .u32 (Xs.getD k 0 : Nat)) := by
        rw [HB.out.cell (p := ⟨bx, k, none⟩) (by have := HGD.out; show bx < _; omega)]; exact hcx
      subst hxa
      clear hrow hzl hws hz0 hb hcx hbx
      have hxl := Pl.getD_ws HWX.out k
      obtain ⟨x, hx⟩ : ∃ x, Xs.getD k 0 = x := ⟨_, rfl⟩
      obtain ⟨y, hy⟩ : ∃ y, Ys.getD k 0 = y := ⟨_, rfl⟩
      rw [hx] at hcx2 hxl
      have hyl : y < 4294967296 := by rw [← hy]; exact Pl.getD_ws HWY.out k
      obtain ⟨d, hd⟩ : ∃ d, (x + 8589934592 - y - cc) % 4294967296 = d := ⟨_, rfl⟩
      have hw := Pl.sub_word hxl hyl hcc hd.symm
      obtain ⟨c', hc'⟩ : ∃ c', (if x < y + cc then 1 else 0) = c' := ⟨_, rfl⟩
      rw [hc'] at hw
      have HRND := Lib.hid (fun (h0 : zs.getD k 0 = 0) => Pl.sub_round (xs := Xs) (ys := Ys) (zs := zs) (k := k) (b := cc) (d := d) (b' := c') hkz h0 hnum.out (by rw [hx, hy]; exact hw))
      have HAD := Lib.hid (fun W => sub32_any x y cc d c' W hxl hyl hcc hd hc')
      have hdl : d < 4294967296 := by omega
      have hcl : c' ≤ 1 := by rw [← hc']; split <;> omega
      have hrow' := HROW2.out.set k d
      have hb' := HB.out.setCell (p := ⟨g, k, none⟩) (Nat.le_refl g) (.int .u32 (d : Nat))
      have HROW3 := Lib.hid hrow'
      have HB3 := Lib.hid hb'
      have HX2 := Lib.hid hx
      have HY2 := Lib.hid hy
      have HKZ := Lib.hid hkz
      clear hrow' hb' hx hy hkz hnum hd hc' hxl hw
      by_cases hm : k < m
      case' pos =>
        obtain ⟨bY, hya, hbY, hcy⟩ := HY.out.at (k := k) (by rw [HM.out]; exact hm)
        have hcy2 : wr.cell? ⟨bY, k, none⟩ = some (.int .u32 (y : Nat)) := by
          rw [HB.out.cell (p := ⟨bY, k, none⟩) (by have := HGD.out; show bY < _; omega), ← HY2.out]; exact hcy
        subst hya
        clear hcy hbY
        go_wp2_with fail
      case' neg =>
        have hy0 : y = 0 := by rw [← HY2.out, List.getD_eq_getElem?_getD, List.getElem?_eq_none (by rw [HM.out]; omega)]; rfl
        subst hy0
        go_wp2_with fail
      all_goals
        refine (HAD.out _).mono ?_
        rintro e w' ⟨rfl, rfl⟩
        go_wp2_with fail
        go_roundw
        case rel =>
          refine ⟨k + 1, c', zs.set k d, by omega, hcl, rfl, by go_num, HROW3.out, by rw [List.length_set]; exact HZL.out, HWS.out.set k hdl, fun j hj => ?_, Lib.hid (HRND.out (HZ0.out k (Nat.le_refl _))), HB3.out⟩
          rw [List.getD_eq_getElem?_getD, List.getElem?_set_ne (by omega), ← List.getD_eq_getElem?_getD]
          exact HZ0.out j (by omega)
        case measure => simp [RowKit.intOf]; omega
    · obtain rfl : k = n := by omega
      have hres : Pl.num zs = V := by
        have h1 := hnum.out
        rw [List.take_of_length_le (by rw [HM.out]; exact ly), List.take_of_length_le (by rw [HN.out]; exact Nat.le_refl _)] at h1
        have h2 := Pl.num_ws hws
        rw [hzl] at h2
        have h3 := HLE.out
        have h4 := HV.out
        rcases (show cc = 0 ∨ cc = 1 by omega) with h5 | h5
        · rw [h5, Nat.mul_zero] at h1; omega
        · rw [h5, Nat.mul_one] at h1; omega
      have hrd := hrow.rd (cap := k) (by rw [hzl]; exact Nat.le_refl _)
      rw [hzl] at hrd
      have HT := Lib.hid (trim_any _ _ _ hrd (by rw [hzl]; omega))
      have HTW := Lib.hid (Pl.trimW_wd hws hres)
      clear hrow hb hws hnum hrd hres hz0 hlt hzl
      go_wp2_with fail
      refine HT.out.mono ?_
      rintro e w' ⟨v', rfl, hr, rfl⟩
      rw [HTW.out] at hr
      have HR := Lib.hid hr
      obtain ⟨a, c, rfl⟩ := hr.form
      clear hr
      go_wp2_with fail
      go_ret
      exact ⟨_, rfl, HR.out, by rw [HGD.out]; exact HB.out⟩
end Go.Proofs.YtlodbibagmblkaaGreatDoor
namespace Go.Proofs.YtlodbibagmblkaaGreatDoor
open Go.RowKit Go.Lib
theorem or_hi {a b : Nat} (ha : a < 4294967296) (hb : b < 4294967296) : bits .or .u64 ((a : Int) * 4294967296) (b : Int) = ((a * 4294967296 + b : Nat) : Int) := by
  have h64 : (2 : Nat) ^ IntKind.u64.bits = 18446744073709551616 := rfl
  have e : (a : Int) * 4294967296 = ((4294967296 * a : Nat) : Int) := by omega
  rw [e]
  have hor : 4294967296 * a ||| b = 4294967296 * a + b := by
    have := Nat.two_pow_add_eq_or_of_lt (i := 32) (b := b) hb a
    rw [show (2 : Nat) ^ 32 = 4294967296 by decide] at this
    exact this.symm
  simp only [bits, BitVec.ofInt_natCast, BitVec.toNat_or, BitVec.toNat_ofNat, h64]
  rw [Nat.mod_eq_of_lt (show 4294967296 * a < 18446744073709551616 by omega), Nat.mod_eq_of_lt (show b < 18446744073709551616 by omega), hor, wrap_nat (by omega), Nat.mul_comm]
set_option maxHeartbeats 1000000 in
theorem div32_any (r x y q r' : Nat) (w : World) (hr : r < y) (hx : x < 4294967296) (hy : y < 4294967296) (hq : (r * 4294967296 + x) / y = q) (hr' : (r * 4294967296 + x) % y = r') :
    Calls Tryz.prog 144 #[.int .u32 r, .int .u32 x, .int .u32 y] w fun e w' => e = .returned (.tuple #[.int .u32 q, .int .u32 r']) ∧ Below w.heap.size w w' := by
  obtain ⟨z, hz⟩ : ∃ z, r * 4294967296 + x = z := ⟨_, rfl⟩
  have hor : bits .or .u64 ((r : Int) * 4294967296) (x : Int) = (z : Int) := by rw [or_hi (by omega) hx, hz]
  rw [hz] at hq hr'
  have hy0 : ((y : Int) == 0) = false := by rw [beq_eq_false_iff_ne]; omega
  have hzl : z < 18446744073709551616 := by omega
  have hql : q < 4294967296 := by rw [← hq]; apply Nat.div_lt_of_lt_mul; rw [← hz]; have : (r + 1) * 4294967296 ≤ y * 4294967296 := Nat.mul_le_mul_right _ hr; rw [Nat.mul_comm] at *; omega
  have hrl : r' < 4294967296 := by rw [← hr']; have := Nat.mod_lt z (show 0 < y by omega); omega
  have e1 : (z : Int) / (y : Int) = (q : Int) := by rw [← hq]; simp
  have e2 : (z : Int) % (y : Int) = (r' : Int) := by rw [← hr']; simp
  have e3 : (z : Int).tdiv (y : Int) = (q : Int) := by rw [← e1]; exact Int.tdiv_eq_ediv_of_nonneg (by omega)
  have e4 : (z : Int).tmod (y : Int) = (r' : Int) := by rw [← e2]; exact Int.tmod_eq_emod_of_nonneg (by omega)
  have hle : decide ((y : Int) ≤ (r : Int)) = false := decide_eq_false (by omega)
  clear hz hq hr'
  go_enter Tryz.func144, Tryz.ntmps144
  go_wp2_with fail
  go_region
  go_wp2_with fail
  go_ret2
  exact ⟨rfl, (Below.refl _ _).drew⟩
/-- A quotient by a word, and what is left. -/
def ShortOk (w : World) (V y : Nat) (e : Ending) (w' : World) : Prop := ∃ v, e = .returned (.tuple #[v, .int .u32 (V % y : Nat)]) ∧ Rd w' v (Pl.wd (V / y)) ∧ Below w.heap.size w w'
theorem Wrow.keep {w w' : World} {g B : Nat} {zs : List Nat} (h : Wrow w g zs) (hb : Below B w w') (hg : g < B) : Wrow w' g zs := (hb.block g hg).trans h
theorem Pl.num_drop0 (xs : List Nat) (k : Nat) (h : k < xs.length) : Pl.num (xs.drop k) = xs.getD k 0 + 4294967296 * Pl.num (xs.drop (k + 1)) := by
  rw [List.drop_eq_getElem_cons h, Pl.num, List.getD_eq_getElem?_getD, List.getElem?_eq_getElem h]; rfl
theorem Pl.drop_set_self {zs : List Nat} {k q : Nat} (h : k < zs.length) : (zs.set k q).drop k = q :: zs.drop (k + 1) := by
  rw [List.drop_eq_getElem_cons (by rw [List.length_set]; exact h), List.getElem_set_self, List.drop_set_of_lt (by omega)]
set_option maxRecDepth 4000 in
set_option maxHeartbeats 2000000 in
theorem nshort_any (vx : Value) (Xs : List Nat) (y : Nat) (w : World) (hx : Rd w vx Xs) (lx : Xs.length ≤ 3000) (wx : Pl.Ws Xs) (hy0 : 0 < y) (hy : y < 4294967296) :
    Calls Tryz.prog 86 #[vx, .int .u32 y] w (ShortOk w (Pl.num Xs) y) := by
  obtain ⟨i0, hi, hz0, hz1, hz2⟩ := info_parts info74
  obtain ⟨Xa, Xc, rfl⟩ := hx.form
  have HX := Lib.hid hx
  have HWX := Lib.hid wx
  clear hx wx
  obtain ⟨n, hn⟩ : ∃ n, Xs.length = n := ⟨_, rfl⟩
  rw [hn] at lx HX
  rw [hn]
  have HN := Lib.hid hn
  clear hn
  go_enter Tryz.func86, Tryz.ntmps86
  go_wp2_with (at_make; refine wpList_make_full _ rfl _ _ 90 rfl w.heap.size 103 i0 (.int .u32 0) 1 Tryz.underlying90 hi hz0 hz1 .i64 .i64 _ _ n rfl rfl (by omega) (by omega) (by rw [hz2]; omega) (by unfold maxLen; omega) (by simp) ?_)
  intro w1 ho1 hg1
  obtain ⟨g, hgd⟩ : ∃ g, w.heap.size = g := ⟨_, rfl⟩
  have hrow := made_row ho1
  rw [hgd] at hrow ⊢
  have HB1 := Lib.hid (show Below g w w1 from (Below.refl _ _).grown hg1 (by omega) (fun k hk => by cases hk))
  have HROW := Lib.hid hrow
  have HGD := Lib.hid hgd
  clear ho1 hg1 hi hz0 hz1 hz2 hrow hgd
  go_wp2_with fail
  go_loopw [7, 8] (fun c i wr => ∃ (k r : Nat) (zs : List Nat), k ≤ n ∧ r < y ∧ c = .int .u32 r ∧ i = .int .i64 ((k : Int) - 1) ∧ Wrow wr g zs ∧ zs.length = n ∧ Pl.Ws zs ∧ Hid (Pl.num (Xs.drop k) = Pl.num (zs.drop k) * y + r) ∧ Below g w wr) (fun _ i _ => (RowKit.intOf i + 1).toNat)
  case atStart => exact ⟨n, 0, List.replicate n 0, Nat.le_refl _, hy0, rfl, rfl, HROW.out, by simp, Pl.ws_replicate _, Lib.hid (by rw [List.drop_of_length_le (by rw [HN.out]; exact Nat.le_refl _), List.drop_of_length_le (by simp)]; simp [Pl.num]), HB1.out⟩
  case round =>
    obtain ⟨k, r, zs, hk, hr, rfl, rfl, hrow, hzl, hws, hnum, hb⟩ := hrel
    have HB := Lib.hid hb
    have HZL := Lib.hid hzl
    have HWS := Lib.hid hws
    have HROW2 := Lib.hid hrow
    cases k with
    | succ k =>
      have hkz : k < zs.length := by rw [hzl]; omega
      have hcell := hrow.cell hkz
      have hfree := hrow.free k
      have hkX : k < Xs.length := by rw [HN.out]; omega
      obtain ⟨bx, hxa, hbx, hcx⟩ := HX.out.at hkX
      have hcx2 : wr.cell? ⟨bx, k, none⟩ = some (.int .u32 (Xs.getD k 0 : Nat)) := by
        rw [HB.out.cell (p := ⟨bx, k, none⟩) (by have := HGD.out; show bx < _; omega)]; exact hcx
      subst hxa
      clear hrow hzl hws hb hcx hbx
      have hxl := Pl.getD_ws HWX.out k
      have HX3 := Lib.hid (Pl.num_drop0 Xs k hkX)
      obtain ⟨x, hx⟩ : ∃ x, Xs.getD k 0 = x := ⟨_, rfl⟩
      rw [hx] at hcx2 hxl HX3
      have hsr := (Pl.short_round (q := 0) (x := x) hnum.out).1
      obtain ⟨q, hq⟩ : ∃ q, (r * 4294967296 + x) / y = q := ⟨_, rfl⟩
      obtain ⟨r', hr'⟩ : ∃ r', (r * 4294967296 + x) % y = r' := ⟨_, rfl⟩
      rw [hq, hr'] at hsr
      have hql : q < 4294967296 := by
        rw [← hq]; apply Nat.div_lt_of_lt_mul
        have : (r + 1) * 4294967296 ≤ y * 4294967296 := Nat.mul_le_mul_right _ hr
        omega
      have hrl : r' < y := by rw [← hr']; exact Nat.mod_lt _ hy0
      have HRND : Hid (Pl.num (Xs.drop k) = Pl.num ((zs.set k q).drop k) * y + r') := Lib.hid (by rw [HX3.out, hsr, Pl.drop_set_self hkz, Pl.num])
      have HAD := Lib.hid (fun W => div32_any r x y q r' W hr hxl hy hq hr')
      have hkI : ((k + 1 : Nat) : Int) - 1 = (k : Int) := by omega
      rw [hkI]
      clear hsr hq hr' hx hkX hkI hcell hfree
      go_wp2_with fail
      refine (HAD.out _).mono ?_
      rintro e w2 ⟨rfl, hb2⟩
      have hrow2 := HROW2.out.keep hb2 HROW2.out.lt
      have hB2 := HB.out.trans (hb2.mono (Nat.le_of_lt HROW2.out.lt))
      have hcell := hrow2.cell hkz
      have hfree := hrow2.free k
      have HROW3 := Lib.hid (hrow2.set k q)
      have HB3 := Lib.hid (hB2.setCell (p := ⟨g, k, none⟩) (Nat.le_refl g) (.int .u32 (q : Nat)))
      clear hrow2 hB2 hb2
      go_wp2_with fail
      go_roundw
      case rel => exact ⟨k, r', zs.set k q, by omega, hrl, rfl, by go_num, HROW3.out, by rw [List.length_set]; exact HZL.out, HWS.out.set k hql, HRND, HB3.out⟩
      case measure => first | (simp [RowKit.intOf]; done) | (simp [RowKit.intOf]; omega)
    | zero =>
      have h1 := hnum.out
      rw [List.drop_zero, List.drop_zero] at h1
      have hq : Pl.num zs = Pl.num Xs / y := by
        rw [h1, Nat.mul_comm, Nat.add_comm, Nat.add_mul_div_left _ _ hy0, Nat.div_eq_of_lt hr, Nat.zero_add]
      have hr2 : r = Pl.num Xs % y := by
        rw [h1, Nat.mul_comm, Nat.add_comm, Nat.add_mul_mod_self_left, Nat.mod_eq_of_lt hr]
      have hrd := hrow.rd (cap := n) (by rw [hzl]; exact Nat.le_refl _)
      rw [hzl] at hrd
      have HT := Lib.hid (trim_any _ _ _ hrd (by rw [hzl]; omega))
      have HTW := Lib.hid (Pl.trimW_wd hws hq)
      have HR2 := Lib.hid hr2
      clear hrow hb hws hnum hrd h1 hzl hq hr2
      go_wp2_with fail
      refine HT.out.mono ?_
      rintro e w' ⟨v', rfl, hr3, rfl⟩
      rw [HTW.out] at hr3
      have HR := Lib.hid hr3
      obtain ⟨a, c, rfl⟩ := hr3.form
      clear hr3
      go_wp2_with fail
      go_ret2
      exact ⟨_, by rw [← HR2.out]; rfl, HR.out, by rw [HGD.out]; exact HB.out⟩
end Go.Proofs.YtlodbibagmblkaaGreatDoor
namespace Go.Proofs.YtlodbibagmblkaaGreatDoor
open Go.RowKit Go.Lib
/-- The words of a large number's digits, shifted to the left. -/
def Pl.shl (l : List UInt8) (k : Nat) : List Nat := Pl.trimW (Pl.dn (k / 32 + (l.length + 3) / 4 + 1) (Pl.num (Pl.words ((l.length + 3) / 4) l) * 2 ^ k))
def ShiftOk (w : World) (neg : Bool) (xs : List Nat) (e : Ending) (w' : World) : Prop :=
  e = .returned (.tuple #[lv (neg && !(Pl.bytesOf xs).isEmpty) (Pl.bytesOf xs), .int .i64 0]) ∧ Below w.heap.size w w'
theorem rd_form {w : World} {v : Value} {xs : List Nat} (h : Rd w v xs) : ∃ a b c, v = .slice a b c := by
  rcases h with ⟨h1, _⟩ | ⟨_, _, h1, _⟩
  · exact ⟨_, _, _, h1⟩
  · exact ⟨_, _, _, h1⟩
theorem trimW_mem {xs : List Nat} {x : Nat} (h : x ∈ Pl.trimW xs) : x ∈ xs := by
  have h2 : Pl.trimW xs <+: xs := by
    unfold Pl.trimW
    have := List.dropWhile_suffix (fun x : Nat => x == 0) (l := xs.reverse)
    rw [← List.reverse_suffix]; simpa using this
  exact h2.mem h
theorem trimW_len (xs : List Nat) : (Pl.trimW xs).length ≤ xs.length := by
  have : (xs.reverse.dropWhile (· == 0)).length ≤ xs.reverse.length := (List.dropWhile_suffix _).length_le
  unfold Pl.trimW
  simp at this ⊢
  omega
/-- A parameter and a result, each in a block of its own. -/
structure Frm (w W : World) (neg : Bool) (s : ByteArray) : Prop where
  a : W.heap[w.heap.size]? = some (.cells #[.bool neg, .string s] 43)
  b : W.heap[w.heap.size + 1]? = some (.cells #[.bool false, .string ⟨#[]⟩] 43)
  low : Below w.heap.size w W
  size : w.heap.size + 2 ≤ W.heap.size
theorem Frm.new (w : World) (neg : Bool) (s : ByteArray) : Frm w ((w.alloc (.cells #[.bool neg, .string s] 43)).alloc (.cells #[.bool false, .string ⟨#[]⟩] 43)) neg s := by
  refine ⟨?_, ?_, ((Below.refl _ _).alloc (Nat.le_refl _) _).alloc (by simp) _, by simp⟩
  · rw [Below.heap_alloc _ _ _ (by simp)]; exact heap_alloc_at _ _
  · have := heap_alloc_at (w.alloc (.cells #[.bool neg, .string s] 43)) (.cells #[.bool false, .string ⟨#[]⟩] 43)
    simpa using this
theorem Frm.below {w W W' : World} {neg : Bool} {s : ByteArray} (h : Frm w W neg s) (hB : Below W.heap.size W W') : Frm w W' neg s := by
  have hs := h.size
  exact ⟨by rw [hB.block _ (by omega)]; exact h.a, by rw [hB.block _ (by omega)]; exact h.b, h.low.trans (hB.mono (by omega)), Nat.le_trans hs hB.size⟩
theorem Frm.cells {w W : World} {neg : Bool} {s : ByteArray} (h : Frm w W neg s) : W.cell? ⟨w.heap.size, 0, none⟩ = some (.bool neg) ∧ W.cell? ⟨w.heap.size, 1, none⟩ = some (.string s) ∧ W.cell? ⟨w.heap.size + 1, 0, none⟩ = some (.bool false) ∧ W.cell? ⟨w.heap.size + 1, 1, none⟩ = some (.string ⟨#[]⟩) ∧ W.frozen? ⟨w.heap.size + 1, 0, none⟩ = false ∧ W.frozen? ⟨w.heap.size + 1, 1, none⟩ = false := by
  refine ⟨?_, ?_, ?_, ?_, ?_, ?_⟩
  · simp [World.cell?, h.a]
  · simp [World.cell?, h.a]
  · simp [World.cell?, h.b]
  · simp [World.cell?, h.b]
  · simp [World.frozen?, h.b]
  · simp [World.frozen?, h.b]
set_option maxHeartbeats 2000000 in
theorem shiftl_any (neg : Bool) (l : List UInt8) (k : Nat) (w : World) (hl : l.length ≤ 4096) (hc : Pl.chk neg l = 0) (hk : k ≤ 32768) (hs : (Pl.bytesOf (Pl.shl l k)).length ≤ 4096) :
    Calls Tryz.prog 48 #[lv neg l, .int .i64 k] w (ShiftOk w neg (Pl.shl l k)) := by
  have HC := Lib.hid (fun w => check_any neg l w (by omega))
  rw [hc] at HC
  have HO := Lib.hid (fun w => lof_any neg l w hl)
  have hxw : ∀ x ∈ Pl.words ((l.length + 3) / 4) l, x < 4294967296 := fun x hx => by
    obtain ⟨j, _, rfl⟩ := List.mem_map.1 hx; exact Pl.word_lt l j
  have HL := Lib.hid (fun v w (h : Rd w v (Pl.words ((l.length + 3) / 4) l)) => left_any v _ k w h (by rw [Pl.words_len]; omega) hxw (by omega))
  rw [Pl.words_len] at HL
  have HT := Lib.hid (fun v w (h : Rd w v (Pl.shl l k)) => ltold_any v (Pl.shl l k) neg w h (by
    unfold Pl.shl; refine Nat.le_trans (trimW_len _) ?_; rw [Pl.dn_len]; omega) (fun x hx => Pl.dn_lt (trimW_mem hx)) hs)
  have HLV : Hid (∀ v w, Rd w v (Pl.words ((l.length + 3) / 4) l) → Calls Tryz.prog 83 #[v, .int .u64 k] w fun e w' => ∃ v', e = .returned v' ∧ Rd w' v' (Pl.shl l k) ∧ Below w.heap.size w w') := Lib.hid (fun v w h => HL.out v w h)
  clear HL hc hxw hs
  unfold lv at *
  generalize bs l = s at *
  go_enter Tryz.func48, Tryz.ntmps48
  go_wp2_with fail
  refine (HC.out _).mono ?_
  rintro e w1 ⟨rfl, hB1⟩
  have HF1 := Lib.hid ((Frm.new w neg s).below hB1)
  obtain ⟨g0, g1, _, _, _, _⟩ := HF1.out.cells
  clear hB1
  go_wp2_with fail
  refine (HO.out _).mono ?_
  rintro e w2 ⟨v, rfl, hrd, hB2⟩
  have HF2 := Lib.hid (HF1.out.below hB2)
  have HRD := Lib.hid hrd
  obtain ⟨va, vn, vc, rfl⟩ : ∃ a b c, v = .slice a b c := by
    rcases hrd with ⟨h1, _⟩ | ⟨_, _, h1, _⟩
    · exact ⟨_, _, _, h1⟩
    · exact ⟨_, _, _, h1⟩
  clear hB2 hrd HF1
  clear g0 g1
  have hd1 : decide ((k : Int) < -32768) = false := decide_eq_false (by omega)
  have hd2 : decide (32768 < (k : Int)) = false := decide_eq_false (by omega)
  go_wp2_with fail
  obtain ⟨C, hC⟩ : ∃ C, w2.heap.size = C := ⟨_, rfl⟩
  obtain ⟨W3, hW3⟩ : ∃ W3, w2.alloc (.cells #[.slice va vn vc, .bool neg] 92) = W3 := ⟨_, rfl⟩
  have hB3 : Below w2.heap.size w2 W3 := by rw [← hW3]; exact (Below.refl _ _).alloc (Nat.le_refl _) _
  have HF3 := Lib.hid (HF2.out.below hB3)
  have HRD3 := Lib.hid (HRD.out.below hB3)
  have hn : W3.heap[C]? = some (.cells #[.slice va vn vc, .bool neg] 92) := by rw [← hW3, ← hC]; exact heap_alloc_at _ _
  have n0 : W3.cell? ⟨C, 0, none⟩ = some (.slice va vn vc) := by simp [World.cell?, hn]
  have n1 : W3.cell? ⟨C, 1, none⟩ = some (.bool neg) := by simp [World.cell?, hn]
  have hCs : C < W3.heap.size := (Array.getElem?_eq_some_iff.1 hn).1
  rw [hC, hW3]
  clear hB3 hn hW3 hC HRD HF2
  obtain ⟨B, hBd⟩ : ∃ B, w.heap.size + 1 = B := ⟨_, rfl⟩
  rw [hBd]
  have HBd := Lib.hid hBd
  clear hBd
  have hku : IntKind.u64.wrap (k : Int) = (k : Int) := wrap_nat (by omega)
  go_region_with (first | (go_at_call 83; refine (HLV.out _ _ (by exact HRD3.out)).mono ?_; rintro e w4 ⟨v4, rfl, hrd4, hB4d⟩; have hB4 : Below W3.heap.size W3 w4 := (Below.refl _ W3).drew.trans hB4d; clear hB4d; obtain ⟨x1, x2, x3, rfl⟩ := rd_form hrd4; have m1 : w4.cell? ⟨C, 1, none⟩ = some (.bool neg) := (by rw [hB4.cell (p := ⟨C, 1, none⟩) hCs]; exact n1)) | (go_at_call 66; refine (HT.out _ _ hrd4).mono ?_; rintro e w5 ⟨rfl, hB5⟩; have HF5 := Lib.hid ((HF3.out.below hB4).below hB5); obtain ⟨_, _, r0, r1, f0, f1⟩ := HF5.out.cells; rw [HBd.out] at r0 r1 f0 f1; unfold lv))
  all_goals
    obtain ⟨k0, k1, kB⟩ := two_set w5 B (.bool (neg && !(Pl.bytesOf (Pl.shl l k)).isEmpty)) (.string (bs (Pl.bytesOf (Pl.shl l k)))) r0 r1
    have kB' := HF5.out.low.trans (kB.mono (by have := HBd.out; omega))
    clear r0 r1 f0 f1
    go_wp2_with fail
    refine bodyPost_ret (v := .tuple #[.agg #[.bool (neg && !(Pl.bytesOf (Pl.shl l k)).isEmpty), .string (bs (Pl.bytesOf (Pl.shl l k)))], .int .i64 0]) (by simp [results, Tryz.results48, go_sem, k0, k1]) rfl ⟨rfl, kB'⟩
end Go.Proofs.YtlodbibagmblkaaGreatDoor
namespace Go.Proofs.YtlodbibagmblkaaGreatDoor
open Go.RowKit Go.Lib
namespace Pl
def ordn (a b : Nat) : Int := if a < b then -1 else if b < a then 1 else 0
theorem wd_len_le {a b : Nat} (h : a ≤ b) : (wd a).length ≤ (wd b).length := by
  rcases Nat.lt_or_ge (wd b).length (wd a).length with h1 | h1
  · have := num_lt_of_len (wd_ws b) (wd_tr a) h1
    rw [wd_num, wd_num] at this; omega
  · exact h1
theorem drop_eq_succ {a b : List Nat} {k : Nat} (ha : k < a.length) (hb : k < b.length) (h : a.drop (k + 1) = b.drop (k + 1)) (e : a.getD k 0 = b.getD k 0) : a.drop k = b.drop k := by
  rw [List.drop_eq_getElem_cons ha, List.drop_eq_getElem_cons hb, h]
  congr 1
  rw [List.getD_eq_getElem?_getD, List.getElem?_eq_getElem ha, List.getD_eq_getElem?_getD, List.getElem?_eq_getElem hb] at e
  exact e
end Pl
set_option maxRecDepth 4000 in
set_option maxHeartbeats 2000000 in
theorem ncmp_any (vx vy : Value) (xs ys : List Nat) (w : World) (hx : Rd w vx xs) (hy : Rd w vy ys) (lx : xs.length ≤ 3000) (ly : ys.length ≤ 3000) (wx : Pl.Ws xs) (wy : Pl.Ws ys) :
    Calls Tryz.prog 134 #[vx, vy] w fun e w' => e = .returned (.int .i64 (Pl.ordn (Pl.num xs) (Pl.num ys))) ∧ Below w.heap.size w w' := by
  obtain ⟨xa, xc, rfl⟩ := hx.form
  obtain ⟨ya, yc, rfl⟩ := hy.form
  have HTX := Lib.hid (trim_any _ _ w hx (by omega))
  have HTY := Lib.hid (trim_any _ _ w hy (by omega))
  have HWX := Lib.hid (Pl.trimW_wd wx rfl)
  have HWY := Lib.hid (Pl.trimW_wd wy rfl)
  obtain ⟨U, hU⟩ : ∃ U, Pl.num xs = U := ⟨_, rfl⟩
  obtain ⟨V, hV⟩ : ∃ V, Pl.num ys = V := ⟨_, rfl⟩
  have hlx : (Pl.wd U).length ≤ 3000 := by
    rw [← hU, ← HWX.out]; exact Nat.le_trans (trimW_len _) lx
  have hly : (Pl.wd V).length ≤ 3000 := by
    rw [← hV, ← HWY.out]; exact Nat.le_trans (trimW_len _) ly
  rw [hU, hV]
  rw [hU] at HWX
  rw [hV] at HWY
  clear hx hy hU hV lx ly wx wy
  go_enter Tryz.func134, Tryz.ntmps134
  go_wp2_with fail
  refine HTX.out.mono ?_
  rintro e w' ⟨v1, rfl, hr1, rfl⟩
  rw [HWX.out] at hr1
  obtain ⟨a1, c1, rfl⟩ := hr1.form
  have HR1 := Lib.hid hr1
  clear hr1 HTX
  go_wp2_with fail
  refine HTY.out.mono ?_
  rintro e w' ⟨v2, rfl, hr2, rfl⟩
  rw [HWY.out] at hr2
  obtain ⟨a2, c2, rfl⟩ := hr2.form
  have HR2 := Lib.hid hr2
  clear hr2 HTY
  obtain ⟨n, hn⟩ : ∃ n, (Pl.wd U).length = n := ⟨_, rfl⟩
  obtain ⟨m, hm⟩ : ∃ m, (Pl.wd V).length = m := ⟨_, rfl⟩
  rw [hn] at hlx HR1
  rw [hm] at hly HR2
  rw [hn, hm]
  have HN := Lib.hid hn
  have HM := Lib.hid hm
  rcases Nat.lt_trichotomy n m with hlt | heq | hgt
  · have HV := Lib.hid (show Pl.ordn U V = -1 by
      have := Pl.num_lt_of_len (Pl.wd_ws U) (Pl.wd_tr V) (by rw [hn, hm]; exact hlt)
      rw [Pl.wd_num, Pl.wd_num] at this
      unfold Pl.ordn; rw [if_pos this])
    clear hn hm
    go_wp2_with fail
    go_ret
    exact ⟨by rw [HV.out]; rfl, Below.refl _ _⟩
  · subst heq
    clear hn hm
    go_wp2_with fail
    go_loopw [5] (fun i wr => ∃ (k : Nat), k ≤ n ∧ i = .int .i64 ((k : Int) - 1) ∧ Hid ((Pl.wd U).drop k = (Pl.wd V).drop k) ∧ Below w.heap.size w wr) (fun i _ => (RowKit.intOf i + 1).toNat)
    case atStart => exact ⟨n, Nat.le_refl _, rfl, Lib.hid (by rw [List.drop_of_length_le (by rw [HN.out]; exact Nat.le_refl _), List.drop_of_length_le (by rw [HM.out]; exact Nat.le_refl _)]), Below.refl _ _⟩
    case round =>
      obtain ⟨k, hk, rfl, heq, hb⟩ := hrel
      have HB := Lib.hid hb
      clear hb
      cases k with
      | zero =>
        have HV := Lib.hid (show Pl.ordn U V = 0 by
          have h1 := heq.out
          rw [List.drop_zero, List.drop_zero] at h1
          have h2 := congrArg Pl.num h1
          rw [Pl.wd_num, Pl.wd_num] at h2
          unfold Pl.ordn; rw [h2, if_neg (Nat.lt_irrefl _), if_neg (Nat.lt_irrefl _)])
        go_wp2_with fail
        go_ret
        exact ⟨by rw [HV.out]; rfl, HB.out⟩
      | succ k =>
        have hkx : k < (Pl.wd U).length := by rw [HN.out]; omega
        have hky : k < (Pl.wd V).length := by rw [HM.out]; omega
        obtain ⟨b1, rfl, hb1, hc1⟩ := HR1.out.at hkx
        obtain ⟨b2, rfl, hb2, hc2⟩ := HR2.out.at hky
        have hd1 : wr.cell? ⟨b1, k, none⟩ = some (.int .u32 ((Pl.wd U).getD k 0 : Nat)) := by rw [HB.out.cell (p := ⟨b1, k, none⟩) hb1]; exact hc1
        have hd2 : wr.cell? ⟨b2, k, none⟩ = some (.int .u32 ((Pl.wd V).getD k 0 : Nat)) := by rw [HB.out.cell (p := ⟨b2, k, none⟩) hb2]; exact hc2
        have HO : Hid (((Pl.wd U).getD k 0 < (Pl.wd V).getD k 0 → Pl.ordn U V = -1) ∧ ((Pl.wd V).getD k 0 < (Pl.wd U).getD k 0 → Pl.ordn U V = 1) ∧ ((Pl.wd U).getD k 0 = (Pl.wd V).getD k 0 → (Pl.wd U).drop k = (Pl.wd V).drop k)) := Lib.hid (by
          refine ⟨fun h => ?_, fun h => ?_, fun h => Pl.drop_eq_succ hkx hky heq.out h⟩
          · have := Pl.num_drop_lt (Pl.wd_ws U) (by rw [HN.out, HM.out]) hkx heq.out h
            rw [Pl.wd_num, Pl.wd_num] at this
            unfold Pl.ordn; rw [if_pos this]
          · have := Pl.num_drop_lt (Pl.wd_ws V) (by rw [HN.out, HM.out]) hky heq.out.symm h
            rw [Pl.wd_num, Pl.wd_num] at this
            unfold Pl.ordn; rw [if_neg (by omega), if_pos this])
        have hx1 := Pl.getD_ws (Pl.wd_ws U) k
        have hx2 := Pl.getD_ws (Pl.wd_ws V) k
        obtain ⟨x, hx⟩ : ∃ x, (Pl.wd U).getD k 0 = x := ⟨_, rfl⟩
        obtain ⟨y, hy⟩ : ∃ y, (Pl.wd V).getD k 0 = y := ⟨_, rfl⟩
        rw [hx] at hd1 hx1 HO
        rw [hy] at hd2 hx2 HO
        have hkI : ((k + 1 : Nat) : Int) - 1 = (k : Int) := by omega
        rw [hkI]
        clear hx hy hc1 hc2 hkx hky hkI
        rcases Nat.lt_trichotomy x y with h | h | h
        · have HV := Lib.hid (HO.out.1 h)
          go_wp2_with fail
          go_region
          go_wp2_with fail
          go_ret
          exact ⟨by rw [HV.out]; rfl, HB.out.drew⟩
        · subst h
          have HE := Lib.hid (HO.out.2.2 rfl)
          go_wp2_with fail
          go_region
          go_wp2_with fail
          go_region
          go_wp2_with fail
          go_roundw
          case rel => exact ⟨k, by omega, rfl, HE, HB.out.drew.drew⟩
          case measure => first | (simp [RowKit.intOf]; done) | (simp [RowKit.intOf]; omega)
        · have HV := Lib.hid (HO.out.2.1 h)
          go_wp2_with fail
          go_region
          go_wp2_with fail
          go_region
          go_wp2_with fail
          go_ret
          exact ⟨by rw [HV.out]; rfl, HB.out.drew.drew⟩
  · have HV := Lib.hid (show Pl.ordn U V = 1 by
      have := Pl.num_lt_of_len (Pl.wd_ws V) (Pl.wd_tr U) (by rw [hn, hm]; exact hgt)
      rw [Pl.wd_num, Pl.wd_num] at this
      unfold Pl.ordn; rw [if_neg (by omega), if_pos this])
    clear hn hm
    go_wp2_with fail
    go_ret
    exact ⟨by rw [HV.out]; rfl, Below.refl _ _⟩
end Go.Proofs.YtlodbibagmblkaaGreatDoor
namespace Go.Proofs.YtlodbibagmblkaaGreatDoor
open Go Go.RowKit Go.Lib
section
variable {w : World} {base : Nat} {e : TypeId} {size : Nat} {v : Value} {n : Nat} {xs : List Value}

theorem heap_setCell_at (w : World) (g j : Nat) (u : Value) {cur : Array Value} {e : TypeId} {fz : Nat × Nat} (h : w.heap[g]? = some (.cells cur e fz)) :
    (w.setCell ⟨g, j, none⟩ u).heap[g]? = some (.cells (cur.setIfInBounds j u) e fz) := by
  simp only [World.setCell, Array.getElem?_modify, if_pos, h]
  rfl
/-- A store into an owned row. -/
theorem Owns.stored {g cap : Nat} (h : Owns w base e size (.slice (some ⟨g, 0, none⟩) n cap) n xs) {j : Nat} (u : Value) :
    Owns (w.setCell ⟨g, j, none⟩ u) base e size (.slice (some ⟨g, 0, none⟩) n cap) n (xs.set j u) := by
  refine ⟨by rw [List.length_set]; exact h.1, ?_⟩
  rcases h.2 with ⟨h1, _⟩ | ⟨g', cap', cur, fz, h1, hb, hg, hfz, hnc, hcm, hcs, ht⟩
  · cases h1
  · injection h1 with h1 _ h2
    injection h1 with h1
    injection h1 with h1
    subst h1 h2
    refine .inr ⟨g, cap, _, fz, rfl, hb, heap_setCell_at w g j u hg, hfz, hnc, hcm, by simpa using hcs, ?_⟩
    rw [Array.toList_setIfInBounds, List.take_set, ht]
/-- A store elsewhere. -/
theorem Owns.elsewhere (h : Owns w base e size v n xs) {a : Addr} (u : Value) (hne : v.ownBlock ≠ some a.block) : Owns (w.setCell a u) base e size v n xs := by
  refine ⟨h.1, ?_⟩
  rcases h.2 with hn | ⟨g, cap, cur, fz, rfl, hb, hgg, rest⟩
  · exact .inl hn
  · refine .inr ⟨g, cap, cur, fz, rfl, hb, ?_, rest⟩
    rw [Below.heap_setCell _ _ _ _ (fun e => hne (by simp [Value.ownBlock, e]))]
    exact hgg
/-- No cell of it is frozen. -/
theorem Owns.free {g cap : Nat} (h : Owns w base e size (.slice (some ⟨g, 0, none⟩) n cap) n xs) {j : Nat} (hj : j < cap * size) : w.frozen? ⟨g, j, none⟩ = false := by
  rcases h.2 with ⟨h1, _⟩ | ⟨g', cap', cur, fz, h1, hb, hg, hfz, hnc, hcm, hcs, ht⟩
  · cases h1
  · injection h1 with h1 _ h2
    injection h1 with h1
    injection h1 with h1
    subst h1 h2
    obtain ⟨lo, hi⟩ := fz
    simp only [World.frozen?, hg, Bool.and_eq_false_iff, decide_eq_false_iff_not]
    simp only at hfz
    omega
/-- Its cells. -/
theorem Owns.cellAt {g cap : Nat} (h : Owns w base e size (.slice (some ⟨g, 0, none⟩) n cap) n xs) {j : Nat} {u : Value} (hu : xs[j]? = some u) : w.cell? ⟨g, j, none⟩ = some u := by
  have := h.cells (g := g) rfl j u hu
  rw [Addr.add_lit, Nat.zero_add] at this
  exact this
/-- An owner of something is no nil. -/
theorem Owns.some_of (h : Owns w base e size v n xs) (hn : 0 < n) : ∃ g cap, v = .slice (some ⟨g, 0, none⟩) n cap ∧ base ≤ g ∧ g < w.heap.size ∧ n ≤ cap := by
  rcases h.2 with ⟨_, h0⟩ | ⟨g, cap, cur, fz, rfl, hb, hg, _, hnc, _⟩
  · omega
  · exact ⟨g, cap, rfl, hb, (Array.getElem?_eq_some_iff.1 hg).1, hnc⟩
end
/-- What a slice value at its block's head reads as. -/
def Reads (w : World) (v : Value) (xs : List Value) : Prop := ∀ g n cap, v = .slice (some ⟨g, 0, none⟩) n cap → ∀ j u, xs[j]? = some u → w.cell? ⟨g, j, none⟩ = some u
section
variable {P : Program} {w : World} {base : Nat} {e : TypeId} {size : Nat} {v : Value} {n : Nat} {xs : List Value}
theorem Owns.reads (h : Owns w base e size v n xs) : Reads w v xs := by
  intro g n' cap hv j u hu
  subst hv
  have := h.cells (g := g) rfl j u hu
  rw [Addr.add_lit, Nat.zero_add] at this
  exact this
theorem Reads.block {w' : World} (h : Reads w v xs) (hb : ∀ g, v.ownBlock = some g → w'.heap[g]? = w.heap[g]?) : Reads w' v xs := by
  intro g n cap hv j u hu
  rw [← h g n cap hv j u hu]
  exact World.cell?_of_block (hb g (by rw [hv]; rfl))
theorem Reads.of_same {u : Value} {ys : List Value} (h : Reads w u ys) (hu : ∀ g, v.ownBlock = some g → ∃ n cap, u = .slice (some ⟨g, 0, none⟩) n cap) (hx : ∀ (j : Nat) (x : Value), xs[j]? = some x → ys[j]? = some x) : Reads w v xs := by
  intro g n cap hv j x hj
  obtain ⟨n', cap', hu'⟩ := hu g (by rw [hv]; rfl)
  exact h g n' cap' hu' j x (hx j x hj)
/-- Appending leaves what the old value reads as. -/
theorem run_append_owns_reads (t ty : TypeId) (i : TypeInfo) (z : Value) (bytes : Nat) (ht : P.underlying t = some (.slice e)) (hi : P.info? e = some i) (hz : i.zero = some z)
    (hsize : i.size = size) (hby : i.bytes = bytes) (hzs : z.cells.size = size) (hown : Owns w base e size v n xs)
    (a : Addr) (m c : Nat) (news : List Value) (hl : news.length = m * size) (hnews : ∀ j u, news[j]? = some u → w.cell? (a.add j) = some u) (h1 : ∀ u ∈ news, u.oneCell' = true)
    (h63 : n + m ≤ maxLen) (hbytes : (n + m) * bytes ≤ 140737488355328) (hbase : base ≤ w.heap.size) :
    ∃ v' w', (Builtin.append_ #[t, t] ty #[v, .slice (some a) m c]).run P w = .ok v' w' ∧ Owns w' base e size v' (n + m) (xs ++ news) ∧ Grow w v w' v' ∧ Reads w' v xs := by
  obtain ⟨v', w', hr, ho, hg⟩ := run_append_owns (P := P) t ty i z bytes ht hi hz hsize hby hzs hown a m c news hl hnews h1 h63 hbytes hbase
  refine ⟨v', w', hr, ho, hg, ?_⟩
  subst hsize
  subst hby
  have hsmall : n + m ≤ 9223372036854775807 := by simp only [maxLen] at h63; omega
  rcases hown.2 with ⟨rfl, rfl⟩ | ⟨g, cap, cur, fz, rfl, hbg, hgg, hfz, hnc, hcm, hcs, htake⟩
  · intro g n cap hv; cases hv
  · by_cases hroom : n + m ≤ cap
    · have hle : (n + m) * i.size ≤ cap * i.size := Nat.mul_le_mul_right _ hroom
      have ha : n * i.size + m * i.size = (n + m) * i.size := (Nat.add_mul n m i.size).symm
      have hf := run_firstCells_some (P := P) w i.size m a m c news hl hnews
      have hst := run_storeCells_free P g (n * i.size) e fz news 0 cur w hgg (by omega) (by omega) h1
      simp only [Nat.add_zero] at hst
      have hr2 : (Builtin.append_ #[t, t] ty #[.slice (some ⟨g, 0, none⟩) n cap, .slice (some a) m c]).run P w = .ok (.slice (some ⟨g, 0, none⟩) (n + m) cap) (w.setRow g (cur.toList.take (n * i.size) ++ news ++ cur.toList.drop (n * i.size + news.length)).toArray) := by
        simp [Builtin.append_, run_underlying ht, sizeOf, typeInfo, hi, Builtin.lenOf, hroom, hf, Addr.add_lit, hst]
      rw [hr] at hr2
      injection hr2 with hv hw
      subst hv hw
      intro g' n' cap' hv' j u hu
      injection hv' with hv' _ _
      injection hv' with hv'
      injection hv' with hv'
      subst hv'
      rw [cell_of_row _ g j _ e fz (setRow_heap w g cur _ e _ hgg)]
      have hj : j < xs.length := (List.getElem?_eq_some_iff.1 hu).1
      rw [htake]
      simp only [List.getElem?_toArray, List.append_assoc]
      rw [List.getElem?_append_left hj]; exact hu
    · have holds : ∀ j u, xs[j]? = some u → w.cell? ((⟨g, 0, none⟩ : Addr).add j) = some u := hown.cells (g := g) rfl
      have hr2 := run_append_grow (P := P) w t ty e i z ht hi hz ⟨g, 0, none⟩ n cap xs hown.1 holds a m c news hl hnews (by omega) (by omega) (growslice_fits (by omega) hbytes)
      rw [hr] at hr2
      injection hr2 with hv hw
      subst hv hw
      exact (Owns.reads hown).block (fun k hk => Below.heap_alloc w.drew _ k (hown.lt k hk).2)
variable {ops : Array Oper} {rest : List Oper} {o : Oper} {a : Act} {Q : Exit → Act → World → Prop}
theorem wpList_append_owns_reads (hgd : o.guard = none) (s x : Operand) (t : TypeId)
    (ho : o.op = .call { callee := .builtin .append, args := #[s, x], argTypes := #[t, t] })
    (base : Nat) (e : TypeId) (i : TypeInfo) (z : Value) (size bytes : Nat) (ht : P.underlying t = some (.slice e)) (hi : P.info? e = some i) (hz : i.zero = some z)
    (hsize : i.size = size) (hby : i.bytes = bytes) (hzs : z.cells.size = size)
    (v : Value) (n : Nat) (xs : List Value) (hs : a.eval s = v) (hown : Owns w base e size v n xs)
    (ad : Addr) (m c : Nat) (news : List Value) (hx : a.eval x = .slice (some ad) m c) (hl : news.length = m * size) (hnews : ∀ j u, news[j]? = some u → w.cell? (ad.add j) = some u) (h1 : ∀ u ∈ news, u.oneCell' = true)
    (h63 : n + m ≤ maxLen) (hbytes : (n + m) * bytes ≤ 140737488355328) (hbase : base ≤ w.heap.size)
    (h : ∀ v' w', Owns w' base e size v' (n + m) (xs ++ news) → Grow w v w' v' → Reads w' v xs → wpList P ops Q rest (a.put o.dst v') w') : wpList P ops Q (o :: rest) a w := by
  refine wpList_plain hgd fun K hK => ?_
  obtain ⟨v', w', hr, h2, h3, h4⟩ := run_append_owns_reads (P := P) t o.type i z bytes ht hi hz hsize hby hzs hown ad m c news hl hnews h1 h63 hbytes hbase
  unfold Oper.wp execOp
  simp only [ho, resolve, invoke, builtin, Sem.run_bind, Sem.run_pure, Result.andThen_ok, List.map_toArray, List.map_cons, List.map_nil, hs, hx, hr]
  exact hK _ _ (h v' w' h2 h3 h4)
end
end Go.Proofs.YtlodbibagmblkaaGreatDoor
