/- The reference's products of digits: the contract of times. The reference's small functions: Check, both. The reference's powers of two: the contract of power. The reference's Shift to the left. The reference's products. The reference's order of numbers without a sign. -/
import Derived.Test.YtgdohmaljbggjaaGreatDoorFbaa
import Derived.Deep.RegionHeld3
import Derived.Deep.RegionHeld
namespace Go.Proofs.YtgdohmaljbggjaaGreatDoor
open Go.RowKit Go.Lib
namespace Pl
/-- The number that digits are, told as numbers. -/
def nle : List Nat → Nat
  | [] => 0
  | x :: l => x + 256 * nle l
theorem nle_set : ∀ (l : List Nat) (j x y : Nat), l[j]? = some y → nle (l.set j x) + 256 ^ j * y = nle l + 256 ^ j * x
  | [], j, x, y, h => by cases h
  | a :: l, 0, x, y, h => by
    simp only [List.getElem?_cons_zero, Option.some.injEq] at h
    subst h
    simp [nle]; omega
  | a :: l, j + 1, x, y, h => by
    have := nle_set l j x y (by simpa using h)
    simp only [List.set_cons_succ, nle, Nat.pow_succ]
    rw [Nat.mul_comm (256 ^ j) 256, Nat.mul_assoc, Nat.mul_assoc]
    omega
theorem nle_zero (n : Nat) : nle (List.replicate n 0) = 0 := by
  induction n with
  | zero => rfl
  | succ n ih => rw [List.replicate_succ, nle, ih]
theorem nle_bytes : ∀ l : List Nat, (∀ x ∈ l, x < 256) → le (l.map UInt8.ofNat) = nle l
  | [], _ => rfl
  | x :: l, h => by
    have hx : (UInt8.ofNat x).toNat = x := by
      have := h x (by simp)
      simp [UInt8.toNat_ofNat']; omega
    simp only [List.map_cons, le, nle, hx, nle_bytes l (fun y hy => h y (by simp [hy]))]
/-- One step of a product of digits. -/
theorem times_step {L L' R p x n c d a k i : Nat} (h : L + c * 256 ^ (i + k) = R + a * 256 ^ i * p) (hs : L' + 256 ^ (i + k) * x = L + 256 ^ (i + k) * (n % 256)) (hn : n = x + a * d + c) :
    L' + n / 256 * 256 ^ (i + (k + 1)) = R + a * 256 ^ i * (p + 256 ^ k * d) := by
  have e := Nat.div_add_mod n 256
  have e1 : n / 256 * 256 ^ (i + (k + 1)) + 256 ^ (i + k) * (n % 256) = 256 ^ (i + k) * n := by
    rw [show i + (k + 1) = i + k + 1 by omega, Nat.pow_succ, Nat.mul_comm (n / 256), Nat.mul_assoc, ← Nat.mul_add, e]
  have e2 : 256 ^ (i + k) * n = 256 ^ (i + k) * x + a * 256 ^ i * (256 ^ k * d) + c * 256 ^ (i + k) := by
    rw [hn, Nat.mul_add, Nat.mul_add, Nat.mul_comm (256 ^ (i + k)) c]
    congr 2
    rw [Nat.pow_add]; ac_rfl
  rw [Nat.mul_add]
  omega
theorem times_bound {L c a k i R la lb B : Nat} {p : Nat} (hB : B < 256 ^ lb) (hR : R < 256 ^ i * B ∨ R = 0) (ha : a < 256) (hp : p ≤ B) (hi : i < la) (h : L + c * 256 ^ (i + k) = R + a * 256 ^ i * p) (hc : 0 < c) : i + k < la + lb := by
  rcases Nat.lt_or_ge (i + k) (la + lb) with h1 | h1
  · exact h1
  · exfalso
    have h2 : 256 ^ (la + lb) ≤ 256 ^ (i + k) := Nat.pow_le_pow_right (by decide) h1
    have h3 : 1 * 256 ^ (i + k) ≤ c * 256 ^ (i + k) := Nat.mul_le_mul_right _ hc
    have h4 : a * 256 ^ i * p ≤ 255 * 256 ^ i * B := Nat.mul_le_mul (Nat.mul_le_mul_right _ (by omega)) hp
    have h5 : 256 ^ (i + 1) * B ≤ 256 ^ la * B := Nat.mul_le_mul_right _ (Nat.pow_le_pow_right (by decide) (by omega))
    have h6 : 256 ^ la * B < 256 ^ la * 256 ^ lb := Nat.mul_lt_mul_of_pos_left hB (Nat.pow_pos (by decide))
    rw [← Nat.pow_add] at h6
    have h7 : 256 ^ (i + 1) * B = 256 ^ i * B + 255 * 256 ^ i * B := by rw [Nat.pow_succ, Nat.mul_comm (256 ^ i) 256, Nat.mul_assoc, Nat.mul_assoc]; omega
    omega
end Pl
theorem _root_.Go.RowKit.Below.drewN {B : Nat} {w w' : World} (h : Below B w w') (n : Nat) : Below B w (w'.drewN n) := by
  induction n with
  | zero => exact h
  | succ n ih => exact ih.drew
/-- A row of integers. -/
def icells (xs : List Nat) : Array Value := (xs.map fun x => Value.int .i64 (x : Nat)).toArray
theorem infoInt : (Tryz.prog.info? 3).map (fun i => (i.zero, i.size, i.bytes)) = some (some (.int .i64 0), 1, 8) := by kernel_rfl
theorem made_ints (n : Nat) : (madeCells #[Value.int .i64 0] n).toList.toArray = icells (List.replicate n 0) := by
  unfold icells
  congr 1
  apply List.ext_getElem
  · simp [madeCells]
  · intro i h1 h2; simp [madeCells, Nat.mod_one]
theorem row_ints {w : World} {base g n : Nat} {e : TypeId} {xs : List Value} (h : w.ownsRow base e 1 (.slice (some ⟨g, 0, none⟩) n n) n xs) : w.heap[g]? = some (.cells xs.toArray e (0, 0)) := row_full h
set_option maxRecDepth 4000 in
set_option maxHeartbeats 2000000 in
theorem rtimes_any (va vb : Value) (a b : List UInt8) (w : World) (ha : RdB w va a) (hb : RdB w vb b) (hla : a.length ≤ 20000) (hlb : b.length ≤ 20000) :
    Calls Tryz.prog 123 #[va, vb] w (DigOk w (Pl.le a * Pl.le b)) := by
  obtain ⟨i0, hi, hz0, hz1, hz2⟩ := info_parts infoInt
  have HDB := Lib.hid (fun (wr : World) (i : Nat) (h : Below w.heap.size w wr) => rdigit_any vb b i wr (hb.below h))
  have HRA := Lib.hid ha
  obtain ⟨aa, ac, rfl⟩ := ha.form
  obtain ⟨ba, bc', rfl⟩ := hb.form
  obtain ⟨la, hla'⟩ : ∃ la, a.length = la := ⟨_, rfl⟩
  obtain ⟨lb, hlb'⟩ : ∃ lb, b.length = lb := ⟨_, rfl⟩
  rw [hla'] at hla HRA ⊢
  rw [hlb'] at hlb HDB ⊢
  have HLA := Lib.hid hla'
  have HLB := Lib.hid hlb'
  clear ha hb hla' hlb'
  obtain ⟨M, hM⟩ : ∃ M, la + lb + 1 = M := ⟨_, rfl⟩
  have hM2 : M ≤ 40001 := by omega
  have hMI : (la : Int) + lb + 1 = (M : Int) := by omega
  go_enter Tryz.func123, Tryz.ntmps123
  go_wp2_with (at_make; refine wpList_make_full _ rfl _ _ 150 rfl w.heap.size 3 i0 (.int .i64 0) 1 Tryz.underlying150 hi hz0 hz1 .i64 .i64 _ _ M rfl rfl (by omega) (by omega) (by rw [hz2]; omega) (by unfold maxLen; omega) (by simp) ?_)
  intro w1 ho1 hg1
  obtain ⟨g, hgd⟩ : ∃ g, w.heap.size = g := ⟨_, rfl⟩
  rw [hgd] at ho1 ⊢
  have hrow : w1.heap[g]? = some (.cells (icells (List.replicate M 0)) 3) := by
    have := row_ints ho1
    rw [made_ints] at this
    exact this
  have HB1 := Lib.hid (show Below g w w1 from (Below.refl _ _).grown hg1 (by omega) (fun k hk => by cases hk))
  have HROW := Lib.hid hrow
  have HGD := Lib.hid hgd
  clear ho1 hg1 hi hz0 hz1 hz2 hrow hgd
  go_wp2_with fail
  go_loopw [6] (fun s wr => ∃ (i : Nat) (out : List Nat), i ≤ la ∧ s = .int .i64 i ∧ out.length = M ∧ Hid (∀ x ∈ out, x < 256) ∧ Hid (Pl.nle out = Pl.le (a.take i) * Pl.le b) ∧ wr.heap[g]? = some (.cells (icells out) 3) ∧ Below g w wr ∧ g < wr.heap.size) (fun s _ => la - (RowKit.intOf s).toNat)
  case atStart => exact ⟨0, List.replicate M 0, Nat.zero_le _, rfl, by simp, Lib.hid (fun x hx => by rw [List.eq_of_mem_replicate hx]; decide), Lib.hid (by rw [Pl.nle_zero]; simp [Pl.le]), HROW.out, HB1.out, (Array.getElem?_eq_some_iff.1 HROW.out).1⟩
  case round =>
    obtain ⟨i, out, hil, rfl, hol, hall, hval, hrow, hB, hgs⟩ := hrel
    have HROW := Lib.hid hrow
    have HB := Lib.hid hB
    have HOL := Lib.hid hol
    clear hrow hB hol
    by_cases hlt : i < la
    · have hia : i < a.length := by rw [HLA.out]; exact hlt
      obtain ⟨b0, rfl, hb0, hca0⟩ := HRA.out.cell (List.getElem?_eq_getElem hia)
      have hbg : b0 < g := by rw [← HGD.out]; exact hb0
      obtain ⟨ai, hai⟩ : ∃ x, a[i].toNat = x := ⟨_, rfl⟩
      have hail : ai < 256 := by rw [← hai]; exact UInt8.toNat_lt _
      rw [hai] at hca0
      have HTS := Lib.hid (show Pl.le (a.take (i + 1)) = Pl.le (a.take i) + 256 ^ i * ai by rw [Pl.le_take_succ hia, hai])
      have HCA := Lib.hid (fun (W : World) (hb : Below g w W) => show W.cell? ⟨b0, i, none⟩ = some (.int .u8 (ai : Int)) by rw [hb.cell (p := ⟨b0, i, none⟩) hbg]; exact hca0)
      clear hai hca0
      go_wp2_with fail
      go_loopw [7, 8] (fun c s wr => ∃ (k cy : Nat) (out : List Nat), i + k ≤ M ∧ s = .int .i64 k ∧ c = .int .i64 cy ∧ cy ≤ 255 ∧ out.length = M ∧ Hid (∀ x ∈ out, x < 256) ∧ Hid (Pl.nle out + cy * 256 ^ (i + k) = Pl.le (a.take i) * Pl.le b + ai * 256 ^ i * Pl.le (b.take k)) ∧ wr.heap[g]? = some (.cells (icells out) 3) ∧ Below g w wr ∧ g < wr.heap.size) (fun _ s _ => M - (RowKit.intOf s).toNat)
      case atStart => exact ⟨0, 0, out, by omega, rfl, rfl, by omega, HOL.out, hall, Lib.hid (by rw [hval.out]; simp [Pl.le]), HROW.out, HB.out, hgs⟩
      case round =>
        clear hall hval HROW HB HOL hgs
        obtain ⟨k, cy, out, hik, rfl, rfl, hcy, hol, hall, hval, hrow, hB, hgs⟩ := hrel
        have HROW := Lib.hid hrow
        have HB := Lib.hid hB
        have HOL := Lib.hid hol
        clear hrow hB hol
        by_cases hgo : k < lb ∨ 0 < cy
        · have hin : i + k < la + lb := by
            rcases hgo with h | h
            · omega
            · refine Pl.times_bound (B := Pl.le b) (R := Pl.le (a.take i) * Pl.le b) (p := Pl.le (b.take k)) ?_ ?_ hail ?_ hlt hval.out h
              · have := Pl.le_lt b; rw [HLB.out] at this; exact this
              · rcases Nat.eq_zero_or_pos (Pl.le b) with h0 | h0
                · right; rw [h0, Nat.mul_zero]
                · left; exact Nat.mul_lt_mul_of_pos_right (Pl.le_take_lt a i) h0
              · have e := Pl.le_append (b.take k) (b.drop k)
                rw [List.take_append_drop] at e
                omega
          have hix : i + k < out.length := by rw [HOL.out]; omega
          obtain ⟨x, hx⟩ : ∃ x, out[i + k] = x := ⟨_, rfl⟩
          have hxs : out[i + k]? = some x := by rw [List.getElem?_eq_getElem hix, hx]
          have hxl : x < 256 := by rw [← hx]; exact hall.out _ (List.getElem_mem _)
          have D2 := Lib.hid (fun nq => HDB.out (wr.drewN nq) k (by rw [HGD.out]; exact HB.out.drewN nq))
          have hdl := Pl.dig_lt b k
          have HTB := Lib.hid (Pl.le_take_dig b k)
          generalize Pl.dig b k = d at *
          obtain ⟨n, hn⟩ : ∃ n, x + ai * d + cy = n := ⟨_, rfl⟩
          have hadl : ai * d ≤ 255 * 255 := Nat.mul_le_mul (by omega) (by omega)
          have HST := Lib.hid (Pl.times_step hval.out (Pl.nle_set out (i + k) (n % 256) x hxs) hn.symm)
          rw [← HTB.out] at HST
          have hcx : wr.cell? ⟨g, i + k, none⟩ = some (.int .i64 (x : Int)) := by
            simp [World.cell?, HROW.out, icells, hxs]
          have hfx : wr.frozen? ⟨g, i + k, none⟩ = false := by simp [World.frozen?, HROW.out]
          have hca := HCA.out wr HB.out
          obtain ⟨p, hp⟩ : ∃ p, ai * d = p := ⟨_, rfl⟩
          rw [hp] at hn hadl
          have hpI : (ai : Int) * (d : Int) = (p : Int) := by rw [← hp]; push_cast; rfl
          obtain ⟨q, hq⟩ : ∃ q, n / 256 = q := ⟨_, rfl⟩
          obtain ⟨r, hr⟩ : ∃ r, n % 256 = r := ⟨_, rfl⟩
          rw [hq, hr] at HST
          have hnI : (x : Int) + p + cy = (n : Int) := by omega
          have hqI : (n : Int) / 256 = (q : Int) := by omega
          have hrI : (n : Int) % 256 = (r : Int) := by omega
          have hrl : r < 256 := by omega
          have hql : q ≤ 255 := by omega
          have HALL := Lib.hid (show ∀ z ∈ out.set (i + k) r, z < 256 from fun z hz => by
            rcases List.mem_or_eq_of_mem_set hz with h | h
            · exact hall.out z h
            · omega)
          have HNEW := Lib.hid (show icells (out.set (i + k) r) = (icells out).setIfInBounds (i + k) (.int .i64 (r : Int)) by
            unfold icells
            rw [List.map_set, List.setIfInBounds_toArray])
          have HSL := Lib.hid (show (out.set (i + k) r).length = M by rw [List.length_set]; exact HOL.out)
          clear hval hx hxs hall hn hp hq hr HTB hix
          obtain ⟨j, hj⟩ : ∃ j, i + k = j := ⟨_, rfl⟩
          have HJ := Lib.hid hj
          rw [hj] at hcx hfx
          have hjM : j < M := by omega
          have hjI : (i : Int) + (k : Int) = (j : Int) := by omega
          have hjw : IntKind.i64.wrap ((i : Int) + (k : Int)) = (j : Int) := by rw [IntKind.wrap_i64]; omega
          have hpw : IntKind.i64.wrap ((ai : Int) * (d : Int)) = (p : Int) := by rw [hpI, IntKind.wrap_i64]; omega
          obtain ⟨s1, hs1⟩ : ∃ s1 : Nat, x + p = s1 := ⟨_, rfl⟩
          have hs1I : (x : Int) + (p : Int) = (s1 : Int) := by omega
          have hs1w : IntKind.i64.wrap ((x : Int) + (p : Int)) = (s1 : Int) := by rw [IntKind.wrap_i64]; omega
          have hnI2 : (s1 : Int) + (cy : Int) = (n : Int) := by omega
          have hnw : IntKind.i64.wrap ((s1 : Int) + (cy : Int)) = (n : Int) := by rw [IntKind.wrap_i64]; omega
          have haw : IntKind.i64.wrap (ai : Int) = (ai : Int) := by rw [IntKind.wrap_i64]; omega
          have hjw2 : IntKind.i64.wrap (j : Int) = (j : Int) := by rw [IntKind.wrap_i64]; omega
          have hpw2 : IntKind.i64.wrap (p : Int) = (p : Int) := by rw [IntKind.wrap_i64]; omega
          have hs1w2 : IntKind.i64.wrap (s1 : Int) = (s1 : Int) := by rw [IntKind.wrap_i64]; omega
          have hnw2 : IntKind.i64.wrap (n : Int) = (n : Int) := by rw [IntKind.wrap_i64]; omega
          clear hj hs1
          have hcond : (k < lb) ∨ (¬ k < lb ∧ 0 < cy) := by omega
          rcases hcond with hc1 | ⟨hc1, hc2⟩
          all_goals
            go_wp2_with fail
            go_quiet ((go_at_call 156; exact Calls.quiet_of_same ((D2.out _).mono (fun _ _ h => ⟨h.1, h.2.symm⟩))))
            go_wp2_with fail
            have hrow2 : ((wr.drewN nq).setCell ⟨g, j, none⟩ (.int .i64 (r : Int))).heap[g]? = some (.cells (icells (out.set (i + k) r)) 3) := by
              rw [HNEW.out, HJ.out]
              have h0 : (wr.drewN nq).heap[g]? = some (.cells (icells out) 3) := HROW.out
              simp only [World.setCell, Array.getElem?_modify, if_pos, h0]
              rfl
            have hB2 : Below g w ((wr.drewN nq).setCell ⟨g, j, none⟩ (.int .i64 (r : Int))) := (HB.out.drewN nq).setCell (p := ⟨g, j, none⟩) (Nat.le_refl g) _
            have hz2 : g < ((wr.drewN nq).setCell ⟨g, j, none⟩ (.int .i64 (r : Int))).heap.size := (Array.getElem?_eq_some_iff.1 hrow2).1
            go_roundw
            case rel => exact ⟨k + 1, q, out.set (i + k) r, by have := HJ.out; omega, by go_num, by go_num, hql, HSL.out, HALL, HST, hrow2, hB2, hz2⟩
            case measure => simp [RowKit.intOf]; omega
        · have hk2 : ¬ k < lb := by omega
          obtain rfl : cy = 0 := by omega
          have HV2 := Lib.hid (show Pl.nle out = Pl.le (a.take (i + 1)) * Pl.le b by
            have h1 := hval.out
            have e : b.take k = b := List.take_of_length_le (by rw [HLB.out]; omega)
            rw [Nat.zero_mul, Nat.add_zero, e] at h1
            rw [h1, HTS.out, Nat.add_mul, Nat.mul_comm ai])
          have HALL := hall
          have hgs2 := hgs
          clear hval hall hgs
          go_wp2_with fail
          go_roundw
          case rel => exact ⟨i + 1, out, by omega, by go_num, HOL.out, HALL, HV2, HROW.out, HB.out, hgs2⟩
          case measure => simp [RowKit.intOf]; omega
    · obtain rfl : i = la := by omega
      have HV := Lib.hid (show Pl.nle out = Pl.le a * Pl.le b by
        have h1 := hval.out
        rw [List.take_of_length_le (by rw [HLA.out]; exact Nat.le_refl _)] at h1
        exact h1)
      clear hval
      obtain ⟨B0, hB0⟩ : ∃ B0, wr.heap.size = B0 := ⟨_, rfl⟩
      have HB0 := Lib.hid hB0
      have HGB := Lib.hid (show g < B0 by omega)
      have HALL := hall
      have HSB : Hid (Below B0 wr wr) := Lib.hid (Below.refl _ _)
      obtain ⟨wz, hwz⟩ : ∃ wz, wr = wz := ⟨_, rfl⟩
      rw [hwz] at HROW HB HB0
      have HSB2 : Hid (Below B0 wz wr) := Lib.hid (by rw [hwz]; exact Below.refl _ _)
      have HSZ := Lib.hid (show B0 ≤ wr.heap.size by omega)
      clear hgs hB0 hall HSB hwz
      go_wp2_with fail
      go_loopw [10, 11] (fun s c w2 => ∃ k : Nat, k ≤ M ∧ c = .int .i64 k ∧ Owns w2 B0 5 1 s k (bc ((out.take k).map UInt8.ofNat)) ∧ Below B0 wz w2 ∧ B0 ≤ w2.heap.size) (fun _ c _ => M - (RowKit.intOf c).toNat)
      case atStart => exact ⟨0, Nat.zero_le _, rfl, Owns.nil _ _ _ _, HSB2.out, HSZ.out⟩
      case round =>
        obtain ⟨k, hk, rfl, ho, hB, hs⟩ := hrel
        have HO := Lib.hid ho
        have HB2 := Lib.hid hB
        obtain ⟨a1, c1, rfl⟩ := ho.form
        clear ho hB HSB2 HSZ
        by_cases hkM : k < M
        · have hko : k < out.length := by rw [HOL.out]; exact hkM
          obtain ⟨x, hx⟩ : ∃ x, out[k] = x := ⟨_, rfl⟩
          have hxl : x < 256 := by rw [← hx]; exact HALL.out _ (List.getElem_mem _)
          have HT := Lib.hid (show (out.take (k + 1)).map UInt8.ofNat = (out.take k).map UInt8.ofNat ++ [UInt8.ofNat x] by rw [List.take_succ_eq_append_getElem hko, hx]; simp)
          have hcx : wr.cell? ⟨g, k, none⟩ = some (.int .i64 (x : Int)) := by
            rw [HB2.out.cell (p := ⟨g, k, none⟩) HGB.out]
            simp [World.cell?, HROW.out, icells, List.getElem?_eq_getElem hko, hx]
          clear hx hko
          go_wp2_with (at_builtin; refine wpList_app rfl (.tmp 68) (.tmp 74) rfl B0 _ _ _ rfl HO.out [.int .u8 (x : Int)] rfl (ones (news := [(x : Int)])) (by simp only [List.length_cons, List.length_nil]; omega) (by omega) ?_)
          intro v2 w2 ho2 hg2
          have HO2 := Lib.hid ho2
          have HG2 := Lib.hid hg2
          obtain ⟨a2, c2, rfl⟩ := ho2.form
          clear ho2 hg2
          go_wp2_with fail
          go_roundw
          case rel =>
            refine ⟨k + 1, by omega, by go_num, ?_, HG2.out.below HB2.out hs (fun g hg => (HO.out.lt g hg).1), Nat.le_trans hs HG2.out.1.size⟩
            have h2 := HO2.out
            rw [HT.out, bc_app, bc_one hxl, List.map_take]
            exact h2
          case measure => simp [RowKit.intOf]; omega
        · obtain rfl : k = M := by omega
          rw [List.take_of_length_le (by rw [HOL.out]; exact Nat.le_refl _)] at HO
          have hv : Pl.le (out.map UInt8.ofNat) = Pl.le a * Pl.le b := by rw [Pl.nle_bytes _ HALL.out, HV.out]
          have HT := Lib.hid (rtrim_any _ (out.map UInt8.ofNat) wr (RdB.of_owns HO.out) (by rw [List.length_map, HOL.out]; omega))
          have HS := Lib.hid (strip_dgs hv)
          have HBW := Lib.hid (show Below w.heap.size w wr from by
            rw [HGD.out]
            exact HB.out.trans (HB2.out.mono (by have := HGB.out; omega)))
          clear hv
          go_wp2_with fail
          refine HT.out.mono ?_
          rintro e w' ⟨v', rfl, hr, rfl⟩
          have HR := Lib.hid hr
          obtain ⟨a2, c2, rfl⟩ := hr.form
          clear hr
          go_wp2_with fail
          go_ret
          exact ⟨_, rfl, by rw [← HS.out]; exact HR.out, HBW.out⟩
end Go.Proofs.YtgdohmaljbggjaaGreatDoor
namespace Go.Proofs.YtgdohmaljbggjaaGreatDoor
open Go.RowKit Go.Lib
set_option maxRecDepth 4000 in
set_option maxHeartbeats 1000000 in
theorem rcheck_any (neg : Bool) (V : Nat) (w : World) (hV : V < 256 ^ 4096) (hn : neg = true → V ≠ 0) :
    Calls Tryz.prog 65 #[lv neg (Pl.dgs V)] w fun e w' => e = .returned (.int .i64 0) ∧ Below w.heap.size w w' := by
  have hlen := Pl.dgs_len hV
  have hcan := Pl.canon_dgs V
  have hemp := Pl.dgs_empty V
  unfold lv
  have hsz : (bs (Pl.dgs V)).size = (Pl.dgs V).length := rfl
  have HAT := Lib.hid (at_bs (Pl.dgs V))
  generalize Pl.dgs V = D at *
  generalize bs D = s at *
  by_cases h0 : D = []
  · subst h0
    have hn0 : neg = false := by
      cases neg
      · rfl
      · exact absurd (by simpa using hemp) (hn rfl)
    subst hn0
    rw [List.length_nil] at hsz
    clear hn hV hcan hemp HAT hlen
    go_enter Tryz.func65, Tryz.ntmps65
    go_wp2_with fail
    go_ret
    exact ⟨rfl, (Below.refl _ _).alloc (Nat.le_refl _) _⟩
  · obtain ⟨n, hnl⟩ : ∃ n, D.length = n + 1 := ⟨D.length - 1, by have := List.length_pos_iff.2 h0; omega⟩
    have hlast : n < D.length := by omega
    have q : n < s.size := by omega
    have ak : s[n]'q = D[n] := HAT.out.get hlast q (by omega)
    have hc0 : D[n] ≠ 0 := by
      intro e
      apply hcan
      rw [List.getLast?_eq_getElem?, hnl, Nat.add_sub_cancel, List.getElem?_eq_getElem hlast, e]
    have hbq := u8_beq D[n]
    rw [show (D[n] == 0) = false by simpa using hc0] at hbq
    generalize D[n] = c at *
    rw [hnl] at hsz hlen
    clear hn hV hcan hemp HAT h0 hc0 hnl hlast
    have hd : decide (4096 < (n : Int) + 1) = false := decide_eq_false (by omega)
    have hd1 : (((n : Int) + 1) == 0) = false := by rw [beq_eq_false_iff_ne]; omega
    have hd2 : decide (0 < (n : Int) + 1) = true := decide_eq_true (by omega)
    go_enter Tryz.func65, Tryz.ntmps65
    go_wp2_with fail
    go_ret
    exact ⟨rfl, (Below.refl _ _).alloc (Nat.le_refl _) _⟩
/-- Two parameters that are large numbers, each in a block of its own. -/
structure Two (w W : World) (na : Bool) (sa : ByteArray) (nb : Bool) (sb : ByteArray) : Prop where
  a : W.heap[w.heap.size]? = some (.cells #[.bool na, .string sa] 42)
  b : W.heap[w.heap.size + 1]? = some (.cells #[.bool nb, .string sb] 42)
  low : Below w.heap.size w W
  size : w.heap.size + 2 ≤ W.heap.size
theorem Two.new (w : World) (na : Bool) (sa : ByteArray) (nb : Bool) (sb : ByteArray) : Two w ((w.alloc (.cells #[.bool na, .string sa] 42)).alloc (.cells #[.bool nb, .string sb] 42)) na sa nb sb := by
  refine ⟨?_, ?_, ((Below.refl _ _).alloc (Nat.le_refl _) _).alloc (by simp) _, by simp⟩
  · rw [Below.heap_alloc _ _ _ (by simp)]; exact heap_alloc_at _ _
  · have := heap_alloc_at (w.alloc (.cells #[.bool na, .string sa] 42)) (.cells #[.bool nb, .string sb] 42)
    simpa using this
theorem Two.below {w W W' : World} {na nb : Bool} {sa sb : ByteArray} (h : Two w W na sa nb sb) (hB : Below W.heap.size W W') : Two w W' na sa nb sb := by
  have hs := h.size
  exact ⟨by rw [hB.block _ (by omega)]; exact h.a, by rw [hB.block _ (by omega)]; exact h.b, h.low.trans (hB.mono (by omega)), Nat.le_trans hs hB.size⟩
theorem Two.cells {w W : World} {na nb : Bool} {sa sb : ByteArray} (h : Two w W na sa nb sb) : W.cell? ⟨w.heap.size, 0, none⟩ = some (.bool na) ∧ W.cell? ⟨w.heap.size, 1, none⟩ = some (.string sa) ∧ W.cell? ⟨w.heap.size + 1, 0, none⟩ = some (.bool nb) ∧ W.cell? ⟨w.heap.size + 1, 1, none⟩ = some (.string sb) := by
  refine ⟨?_, ?_, ?_, ?_⟩
  · simp [World.cell?, h.a]
  · simp [World.cell?, h.a]
  · simp [World.cell?, h.b]
  · simp [World.cell?, h.b]
/-- A large number that may be. -/
structure Good9 (neg : Bool) (V : Nat) : Prop where
  lt : V < 256 ^ 4096
  sign : neg = true → V ≠ 0
set_option maxRecDepth 4000 in
set_option maxHeartbeats 1000000 in
theorem rboth_any (na nb : Bool) (Va Vb : Nat) (w : World) (ha : Good9 na Va) (hb : Good9 nb Vb) :
    Calls Tryz.prog 117 #[lv na (Pl.dgs Va), lv nb (Pl.dgs Vb)] w fun e w' => e = .returned (.int .i64 0) ∧ Below w.heap.size w w' := by
  have H1 := Lib.hid (fun w => rcheck_any na Va w ha.lt ha.sign)
  have H2 := Lib.hid (fun w => rcheck_any nb Vb w hb.lt hb.sign)
  clear ha hb
  unfold lv at *
  generalize bs (Pl.dgs Va) = sa at *
  generalize bs (Pl.dgs Vb) = sb at *
  go_enter Tryz.func117, Tryz.ntmps117
  go_wp2_with fail
  refine (H1.out _).mono ?_
  rintro e w1 ⟨rfl, hb⟩
  have HT := Lib.hid ((Two.new w na sa nb sb).below hb)
  obtain ⟨p0, p1, q0, q1⟩ := HT.out.cells
  clear hb
  go_wp2_with fail
  refine (H2.out _).mono ?_
  rintro e w2 ⟨rfl, hb⟩
  have HT2 := Lib.hid (HT.out.below hb)
  clear hb p0 p1 q0 q1
  go_wp2_with fail
  go_ret
  exact ⟨rfl, HT2.out.low⟩
end Go.Proofs.YtgdohmaljbggjaaGreatDoor
namespace Go.Proofs.YtgdohmaljbggjaaGreatDoor
open Go.RowKit Go.Lib
namespace Pl
/-- The digits of a power of two. -/
def pow2 (n : Nat) : List UInt8 := List.replicate (n / 8) 0 ++ [UInt8.ofNat (2 ^ (n % 8))]
theorem le_zeros (n : Nat) : le (List.replicate n (0 : UInt8)) = 0 := by
  induction n with
  | zero => rfl
  | succ n ih => rw [List.replicate_succ, le, ih]; rfl
theorem pow_small (n : Nat) : 2 ^ (n % 8) < 256 := Nat.lt_of_lt_of_le (Nat.pow_lt_pow_right (by decide) (Nat.mod_lt n (by decide))) (by decide)
theorem le_pow2 (n : Nat) : le (pow2 n) = 2 ^ n := by
  unfold pow2
  rw [le_snoc_u8 _ _ (pow_small n), le_zeros, Nat.zero_add, List.length_replicate, show (256 : Nat) = 2 ^ 8 from rfl, ← Nat.pow_mul, ← Nat.pow_add]
  congr 1
  omega
theorem pow2_len (n : Nat) : (pow2 n).length = n / 8 + 1 := by simp [pow2]
end Pl
theorem made_bytes (n : Nat) : (madeCells #[Value.int .u8 0] n).toList.toArray = (bc (List.replicate n 0)).toArray := by
  unfold bc
  congr 1
  apply List.ext_getElem
  · simp [madeCells]
  · intro i h1 h2; simp [madeCells, Nat.mod_one]
set_option maxRecDepth 4000 in
set_option maxHeartbeats 1000000 in
theorem rpower_any (n : Nat) (w : World) (hn : n ≤ 40000) :
    Calls Tryz.prog 157 #[.int .i64 n] w fun e w' => ∃ v, e = .returned v ∧ RdB w' v (Pl.pow2 n) ∧ Below w.heap.size w w' := by
  obtain ⟨i0, hi, hz0, hz1, hz2⟩ := info_parts info5
  obtain ⟨q, hq⟩ : ∃ q, n / 8 = q := ⟨_, rfl⟩
  obtain ⟨r, hr⟩ : ∃ r, n % 8 = r := ⟨_, rfl⟩
  have hqI : (n : Int) / 8 = (q : Int) := by omega
  have hrI : (n : Int) % 8 = (r : Int) := by omega
  have hrl : r < 8 := by omega
  have HP : Hid (Pl.pow2 n = List.replicate q 0 ++ [UInt8.ofNat (2 ^ r)]) := Lib.hid (by unfold Pl.pow2; rw [hq, hr])
  have hql : q ≤ 5000 := by omega
  clear hq hr
  go_enter Tryz.func157, Tryz.ntmps157
  go_wp2_with (at_make; refine wpList_make_full _ rfl _ _ 103 rfl w.heap.size 5 i0 (.int .u8 0) 1 Tryz.underlying103 hi hz0 hz1 .i64 .i64 _ _ (q + 1) rfl rfl (by omega) (by omega) (by rw [hz2]; omega) (by unfold maxLen; omega) (by simp) ?_)
  intro w1 ho1 hg1
  obtain ⟨g, hgd⟩ : ∃ g, w.heap.size = g := ⟨_, rfl⟩
  rw [hgd] at ho1 ⊢
  have hrow : w1.heap[g]? = some (.cells (bc (List.replicate (q + 1) 0)).toArray 5) := by
    have := row_full ho1
    rw [made_bytes] at this
    exact this
  have HB1 := Lib.hid (show Below g w w1 from (Below.refl _ _).grown hg1 (by omega) (fun k hk => by cases hk))
  have hcx : w1.cell? ⟨g, q, none⟩ = some (.int .u8 0) := by simp [World.cell?, hrow, bc]
  have hfx : w1.frozen? ⟨g, q, none⟩ = false := by simp [World.frozen?, hrow]
  have HROW := Lib.hid hrow
  have HGD := Lib.hid hgd
  clear ho1 hg1 hi hz0 hz1 hz2 hrow hgd
  have hpI : (2 : Int) ^ r % 256 = ((2 ^ r : Nat) : Int) := by
    have h1 : 2 ^ r < 256 := Nat.lt_of_lt_of_le (Nat.pow_lt_pow_right (by decide) hrl) (by decide)
    rw [Int.natCast_pow]
    have h2 : ((2 ^ r : Nat) : Int) < 256 := by omega
    rw [Int.natCast_pow] at h2
    have h3 : (0 : Int) ≤ (2 : Int) ^ r := Int.le_of_lt (Int.pow_pos (by decide))
    exact Int.emod_eq_of_lt h3 h2
  have HPL := Lib.hid (show (UInt8.ofNat (2 ^ r)).toNat = 2 ^ r by
    have h1 : 2 ^ r < 256 := Nat.lt_of_lt_of_le (Nat.pow_lt_pow_right (by decide) hrl) (by decide)
    simp [UInt8.toNat_ofNat']; omega)
  obtain ⟨p, hp⟩ : ∃ p : Nat, 2 ^ r = p := ⟨_, rfl⟩
  rw [hp] at hpI HPL HP
  clear hp
  go_wp2_with fail
  go_ret
  refine ⟨_, rfl, ?_, by rw [HGD.out]; exact HB1.out.setCell (p := ⟨g, q, none⟩) (Nat.le_refl g) _⟩
  rw [HP.out]
  refine .inr ⟨g, q + 1, by simp, by simp, by simp only [World.setCell, Array.size_modify]; exact (Array.getElem?_eq_some_iff.1 HROW.out).1, fun j x hx => ?_⟩
  by_cases hj : j = q
  · subst hj
    have e : x = UInt8.ofNat p := by simpa using hx.symm
    rw [World.cell?_setCell_same _ _ _ hcx, e, HPL.out]
  · rw [World.cell?_setCell_other _ _ _ _ (by intro e; injection e with _ e; exact hj e.symm)]
    have hjq : j < q := by
      have := (List.getElem?_eq_some_iff.1 hx).1
      simp at this
      omega
    rw [List.getElem?_append_left (by simpa using hjq)] at hx
    have e : x = 0 := by
      rw [List.getElem?_replicate, if_pos hjq] at hx
      exact (Option.some.inj hx).symm
    subst e
    have hc : (bc (List.replicate (q + 1) 0))[j]? = some (.int .u8 (0 : Nat)) := by
      unfold bc
      rw [List.getElem?_map, List.getElem?_replicate, if_pos (by omega)]
      rfl
    simp only [World.cell?, HROW.out, List.getElem?_toArray, hc]
    rfl
end Go.Proofs.YtgdohmaljbggjaaGreatDoor
namespace Go.Proofs.YtgdohmaljbggjaaGreatDoor
open Go.RowKit Go.Lib
/-- '[]byte(s)': the world behind it and the row, told by what is read alone. -/
theorem conv_bytes (D : List UInt8) (hD : D.length ≤ 100000) : ∃ (F : World → World) (vF : World → Value), (∀ W, (convert 9 103 (.string (bs D))).run Tryz.prog W = .ok (vF W) (F W)) ∧ ∀ W, RdB (F W) (vF W) D ∧ Below W.heap.size W (F W) := by
  refine ⟨fun W => bytesWorld W 5 (bs D), fun W => .slice (some ⟨W.heap.size, 0, none⟩) (bs D).size (grownCap W (bs D).size 0 5), fun W => Lib.run_convert_string_bytes (P := Tryz.prog) W 9 103 5 (bs D) Tryz.underlying9 Tryz.underlying103 Tryz.underlying5, fun W => ⟨?_, ?_⟩⟩
  · have h := Owns.ofString W W.heap.size 5 (bs D) (by unfold maxLen; rw [bs_size]; omega) (Nat.le_refl _)
    refine RdB.of_owns (base := W.heap.size) (n := D.length) ?_
    have e : (bs D).data.toList = D := rfl
    rw [show (bs D).size = D.length from rfl] at h
    exact h
  · exact bytesWorld_below W 5 (bs D)
/-- What stays of a parameter and a result while a region is walked. -/
def Kept (w W : World) (neg : Bool) (s : ByteArray) : Prop := W.cell? ⟨w.heap.size, 0, none⟩ = some (.bool neg) ∧ W.cell? ⟨w.heap.size, 1, none⟩ = some (.string s) ∧ W.cell? ⟨w.heap.size + 1, 0, none⟩ = some (.bool false) ∧ W.cell? ⟨w.heap.size + 1, 1, none⟩ = some (.string ⟨#[]⟩) ∧ W.frozen? ⟨w.heap.size + 1, 0, none⟩ = false ∧ W.frozen? ⟨w.heap.size + 1, 1, none⟩ = false
set_option maxRecDepth 4000 in
set_option maxHeartbeats 4000000 in
theorem rshift_any (neg : Bool) (V k : Nat) (w : World) (h : Good9 neg V) (hk : k ≤ 32768) (hV : V * 2 ^ k < 256 ^ 4096) :
    Calls Tryz.prog 124 #[lv neg (Pl.dgs V), .int .i64 (k : Int)] w fun e w' => e = .returned (.tuple #[lv neg (Pl.dgs (V * 2 ^ k)), .int .i64 0]) ∧ Below w.heap.size w w' := by
  have HC := Lib.hid (fun w => rcheck_any neg V w h.lt h.sign)
  have HP := Lib.hid (fun w => rpower_any k w (by omega))
  have hlen := Pl.dgs_len h.lt
  obtain ⟨F, vF, hconv, hF⟩ := conv_bytes (Pl.dgs V) (by omega)
  have HFF := Lib.hid hF
  have HTI := Lib.hid (fun va vb W (ha : RdB W va (Pl.dgs V)) (hb : RdB W vb (Pl.pow2 k)) => rtimes_any va vb _ _ W ha hb (by omega) (by rw [Pl.pow2_len]; omega))
  rw [Pl.le_dgs, Pl.le_pow2] at HTI
  have hlen2 := Pl.dgs_len hV
  have HMA := Lib.hid (fun v W (hv : RdB W v (Pl.dgs (V * 2 ^ k))) => rmade_any v _ neg W hv (by omega) (by rw [Pl.le_dgs]; exact hV))
  rw [Pl.le_dgs] at HMA
  have hsg : (neg && !decide (V * 2 ^ k = 0)) = neg := by
    cases neg
    · rfl
    · have h0 := h.sign rfl
      rw [decide_eq_false (Nat.mul_ne_zero h0 (by have := Nat.two_pow_pos k; omega))]; rfl
  rw [hsg] at HMA
  unfold lv at *
  generalize bs (Pl.dgs V) = s at *
  generalize bs (Pl.dgs (V * 2 ^ k)) = s2 at *
  have hd1 : decide ((k : Int) < -32768) = false := decide_eq_false (by omega)
  have hd2 : decide (32768 < (k : Int)) = false := decide_eq_false (by omega)
  have hd3 : decide (0 ≤ (k : Int)) = true := decide_eq_true (by omega)
  clear hV h hsg hlen hlen2 hF
  go_enter Tryz.func124, Tryz.ntmps124
  go_wp2_with fail
  refine (HC.out _).mono ?_
  rintro e w1 ⟨rfl, hb⟩
  have HF := Lib.hid ((Frm.new w neg s).below hb)
  have HK := Lib.hid (fun (W : World) (hb : Below w1.heap.size w1 W) => show Kept w W neg s from (HF.out.below hb).cells)
  obtain ⟨p0, p1, r0, r1, f0, f1⟩ := HF.out.cells
  clear hb HC
  go_wp2_with fail
  have HFB := Lib.hid (fun (W : World) (hb : Below w1.heap.size w1 W) => show Below w1.heap.size w1 (F W) from hb.trans ((HFF.out W).2.mono hb.size))
  have HFK : ∀ (W : World), Below w1.heap.size w1 W → (F W).cell? ⟨w.heap.size, 0, none⟩ = some (.bool neg) := fun W hb => (HK.out _ (HFB.out W hb)).1
  have hne1 : (⟨w.heap.size + 1, 0, none⟩ : Addr) ≠ ⟨w.heap.size, 0, none⟩ := by simp
  go_region_held (fun W => W.cell? ⟨w.heap.size, 0, none⟩ = some (.bool neg) ∧ W.cell? ⟨w.heap.size, 1, none⟩ = some (.string s)) (first | exact ⟨p0, p1⟩ | exact ⟨(HK.out _ (HFB.out _ (Below.refl _ _).drew)).1, (HK.out _ (HFB.out _ (Below.refl _ _).drew)).2.1⟩ | exact ⟨(HK.out _ (HFB.out _ (Below.refl _ _))).1, (HK.out _ (HFB.out _ (Below.refl _ _))).2.1⟩ | exact ⟨(HK.out _ (HFB.out _ hB3)).1, (HK.out _ (HFB.out _ hB3)).2.1⟩ | (refine ⟨?_, ?_⟩ <;> assumption) | (refine ⟨?_, ?_⟩ <;> simp [World.cell?_setCell_other, *])) (first
    | (go_at_call 157; refine (HP.out _).mono ?_; rintro e w3 ⟨v3, rfl, hv3, hb3⟩; have hB3 : Below w1.heap.size w1 w3 := (by first | exact (HFB.out _ (Below.refl _ _).drew).trans (hb3.mono (HFB.out _ (Below.refl _ _).drew).size) | exact (Below.refl _ w1).drew.trans hb3 | exact hb3); obtain ⟨a3, c3, rfl⟩ := hv3.form; obtain ⟨k30, k31, _, _, _, _⟩ := HK.out w3 hB3; have HV3 := Lib.hid hv3; have HB3 := Lib.hid hb3; clear hv3 hb3)
    | (go_at_call 123; refine (HTI.out _ _ _ (by first | exact (HFF.out _).1.below HB3.out | exact (HFF.out _).1) (by first | exact HV3.out | exact HV3.out.below (HFF.out _).2)).mono ?_; rintro e w4 ⟨v4, rfl, hv4, hb4⟩; have hB4 : Below w1.heap.size w1 w4 := (by first | exact hB3.trans (hb4.mono hB3.size) | exact (HFB.out _ hB3).trans (hb4.mono (HFB.out _ hB3).size)); obtain ⟨a4, c4, rfl⟩ := hv4.form; obtain ⟨k40, k41, _, _, _, _⟩ := HK.out w4 hB4; have HV4 := Lib.hid hv4; clear hv4 hb4)
    | (go_at_call 119; refine (HMA.out _ _ HV4.out).mono ?_; rintro e w5 ⟨rfl, hb5⟩; have hB5 : Below w1.heap.size w1 w5 := hB4.trans (hb5.mono hB4.size); obtain ⟨k50, k51, k52, k53, k54, k55⟩ := HK.out w5 hB5; clear hb5))
  all_goals
    obtain ⟨k0, k1, kB⟩ := two_set w5 (w.heap.size + 1) (.bool neg) (.string s2) k52 k53
    have kB' := Lib.hid (show Below w.heap.size w _ from (HF.out.low.trans (hB5.mono (by have := HF.out.size; omega))).trans (kB.mono (by omega)))
    clear kB
    generalize (w5.setCell ⟨w.heap.size + 1, 0, none⟩ (.bool neg)).setCell ⟨w.heap.size + 1, 1, none⟩ (.string s2) = w6 at k0 k1 kB' ⊢
    go_wp2_with fail
    exact bodyPost_ret (v := .tuple #[.agg #[.bool neg, .string s2], .int .i64 0]) (by simp [results, Tryz.results124, go_sem, k0, k1]) rfl ⟨rfl, kB'.out⟩
end Go.Proofs.YtgdohmaljbggjaaGreatDoor
namespace Go.Proofs.YtgdohmaljbggjaaGreatDoor
open Go.RowKit Go.Lib
/-- Two parameters and a result that are large numbers, each in a block of its own. -/
structure Tri (w W : World) (na : Bool) (sa : ByteArray) (nb : Bool) (sb : ByteArray) : Prop where
  a : W.heap[w.heap.size]? = some (.cells #[.bool na, .string sa] 42)
  b : W.heap[w.heap.size + 1]? = some (.cells #[.bool nb, .string sb] 42)
  c : W.heap[w.heap.size + 2]? = some (.cells #[.bool false, .string ⟨#[]⟩] 42)
  low : Below w.heap.size w W
  size : w.heap.size + 3 ≤ W.heap.size
theorem Tri.new (w : World) (na : Bool) (sa : ByteArray) (nb : Bool) (sb : ByteArray) : Tri w (((w.alloc (.cells #[.bool na, .string sa] 42)).alloc (.cells #[.bool nb, .string sb] 42)).alloc (.cells #[.bool false, .string ⟨#[]⟩] 42)) na sa nb sb := by
  have h := Two.new w na sa nb sb
  have e : ((w.alloc (.cells #[.bool na, .string sa] 42)).alloc (.cells #[.bool nb, .string sb] 42)).heap.size = w.heap.size + 2 := by simp
  generalize (w.alloc (.cells #[.bool na, .string sa] 42)).alloc (.cells #[.bool nb, .string sb] 42) = W at h e ⊢
  have h2 := h.below ((Below.refl W.heap.size W).alloc (Nat.le_refl _) (.cells #[.bool false, .string ⟨#[]⟩] 42))
  refine ⟨h2.a, h2.b, ?_, h2.low, by simp; omega⟩
  rw [← e]; exact heap_alloc_at _ _
theorem Tri.below {w W W' : World} {na nb : Bool} {sa sb : ByteArray} (h : Tri w W na sa nb sb) (hB : Below W.heap.size W W') : Tri w W' na sa nb sb := by
  have hs := h.size
  exact ⟨by rw [hB.block _ (by omega)]; exact h.a, by rw [hB.block _ (by omega)]; exact h.b, by rw [hB.block _ (by omega)]; exact h.c, h.low.trans (hB.mono (by omega)), Nat.le_trans hs hB.size⟩
/-- What is read of the three. -/
def Cells3 (w W : World) (na : Bool) (sa : ByteArray) (nb : Bool) (sb : ByteArray) : Prop := W.cell? ⟨w.heap.size, 0, none⟩ = some (.bool na) ∧ W.cell? ⟨w.heap.size, 1, none⟩ = some (.string sa) ∧ W.cell? ⟨w.heap.size + 1, 0, none⟩ = some (.bool nb) ∧ W.cell? ⟨w.heap.size + 1, 1, none⟩ = some (.string sb) ∧ W.cell? ⟨w.heap.size + 2, 0, none⟩ = some (.bool false) ∧ W.cell? ⟨w.heap.size + 2, 1, none⟩ = some (.string ⟨#[]⟩) ∧ W.frozen? ⟨w.heap.size + 2, 0, none⟩ = false ∧ W.frozen? ⟨w.heap.size + 2, 1, none⟩ = false
theorem Tri.cells {w W : World} {na nb : Bool} {sa sb : ByteArray} (h : Tri w W na sa nb sb) : Cells3 w W na sa nb sb := by
  refine ⟨?_, ?_, ?_, ?_, ?_, ?_, ?_, ?_⟩
  · simp [World.cell?, h.a]
  · simp [World.cell?, h.a]
  · simp [World.cell?, h.b]
  · simp [World.cell?, h.b]
  · simp [World.cell?, h.c]
  · simp [World.cell?, h.c]
  · simp [World.frozen?, h.c]
  · simp [World.frozen?, h.c]
set_option maxRecDepth 4000 in
set_option maxHeartbeats 8000000 in
theorem rmul_any (na nb : Bool) (Va Vb : Nat) (w : World) (ha : Good9 na Va) (hb : Good9 nb Vb) (hV : Va * Vb < 256 ^ 4096) :
    Calls Tryz.prog 80 #[lv na (Pl.dgs Va), lv nb (Pl.dgs Vb)] w fun e w' => e = .returned (.tuple #[lv ((na != nb) && !decide (Va * Vb = 0)) (Pl.dgs (Va * Vb)), .int .i64 0]) ∧ Below w.heap.size w w' := by
  have HC := Lib.hid (fun w => rboth_any na nb Va Vb w ha hb)
  have hla := Pl.dgs_len ha.lt
  have hlb := Pl.dgs_len hb.lt
  obtain ⟨F, vF, hconv, hF⟩ := conv_bytes (Pl.dgs Va) (by omega)
  obtain ⟨G, vG, hconv2, hG⟩ := conv_bytes (Pl.dgs Vb) (by omega)
  have HFF := Lib.hid hF
  have HGG := Lib.hid hG
  have HTI := Lib.hid (fun va vb W (ha : RdB W va (Pl.dgs Va)) (hb : RdB W vb (Pl.dgs Vb)) => rtimes_any va vb _ _ W ha hb (by omega) (by omega))
  rw [Pl.le_dgs, Pl.le_dgs] at HTI
  have hlen2 := Pl.dgs_len hV
  have HMA := Lib.hid (fun v W (hv : RdB W v (Pl.dgs (Va * Vb))) => rmade_any v _ (na != nb) W hv (by omega) (by rw [Pl.le_dgs]; exact hV))
  rw [Pl.le_dgs] at HMA
  unfold lv at *
  generalize bs (Pl.dgs Va) = sa at *
  generalize bs (Pl.dgs Vb) = sb at *
  generalize bs (Pl.dgs (Va * Vb)) = s2 at *
  generalize (na != nb && !decide (Va * Vb = 0)) = n2 at *
  clear hV ha hb hla hlb hlen2 hF hG
  go_enter Tryz.func80, Tryz.ntmps80
  go_wp2_with fail
  refine (HC.out _).mono ?_
  rintro e w1 ⟨rfl, hb⟩
  have HF := Lib.hid ((Tri.new w na sa nb sb).below hb)
  have HK := Lib.hid (fun (W : World) (hb : Below w1.heap.size w1 W) => (HF.out.below hb).cells)
  obtain ⟨p0, p1, p2, p3, r0, r1, f0, f1⟩ := HF.out.cells
  clear hb HC
  go_wp2_with fail
  have HFB := Lib.hid (fun (W : World) (hb : Below w1.heap.size w1 W) => show Below w1.heap.size w1 (F W) from hb.trans ((HFF.out W).2.mono hb.size))
  have HGB := Lib.hid (fun (W : World) (hb : Below w1.heap.size w1 W) => show Below w1.heap.size w1 (G W) from hb.trans ((HGG.out W).2.mono hb.size))
  have BD := Lib.hid (show Below w1.heap.size w1 w1.drew from (Below.refl _ _).drew)
  have HKQ := Lib.hid (fun (W : World) (hb : Below w1.heap.size w1 W) => show W.cell? ⟨w.heap.size, 0, none⟩ = some (.bool na) ∧ W.cell? ⟨w.heap.size, 1, none⟩ = some (.string sa) ∧ W.cell? ⟨w.heap.size + 1, 0, none⟩ = some (.bool nb) ∧ W.cell? ⟨w.heap.size + 1, 1, none⟩ = some (.string sb) from ⟨(HK.out W hb).1, (HK.out W hb).2.1, (HK.out W hb).2.2.1, (HK.out W hb).2.2.2.1⟩)
  go_region_held (fun W => W.cell? ⟨w.heap.size, 0, none⟩ = some (.bool na) ∧ W.cell? ⟨w.heap.size, 1, none⟩ = some (.string sa) ∧ W.cell? ⟨w.heap.size + 1, 0, none⟩ = some (.bool nb) ∧ W.cell? ⟨w.heap.size + 1, 1, none⟩ = some (.string sb)) (first | exact ⟨p0, p1, p2, p3⟩ | exact HKQ.out _ (HFB.out _ BD.out) | exact HKQ.out _ (HGB.out _ BD.out) | exact HKQ.out _ (HGB.out _ (HFB.out _ BD.out)) | exact HKQ.out _ (HFB.out _ (HGB.out _ BD.out)) | exact HKQ.out _ hB4 | exact HKQ.out _ hB5 | (refine ⟨?_, ?_, ?_, ?_⟩ <;> simp [World.cell?_setCell_other, *])) (first
    | (go_at_call 123; refine (HTI.out _ _ _ (by first | exact (HFF.out _).1.below (HGG.out _).2 | exact (HFF.out _).1) (by first | exact (HGG.out _).1 | exact (HGG.out _).1.below (HFF.out _).2)).mono ?_; rintro e w4 ⟨v4, rfl, hv4, hb4⟩; have hB4 : Below w1.heap.size w1 w4 := (by first | exact (HGB.out _ (HFB.out _ BD.out)).trans (hb4.mono (HGB.out _ (HFB.out _ BD.out)).size) | exact (HFB.out _ (HGB.out _ BD.out)).trans (hb4.mono (HFB.out _ (HGB.out _ BD.out)).size)); obtain ⟨a4, c4, rfl⟩ := hv4.form; have HV4 := Lib.hid hv4; clear hv4 hb4)
    | (go_at_call 119; refine (HMA.out _ _ HV4.out).mono ?_; rintro e w5 ⟨rfl, hb5⟩; have hB5 : Below w1.heap.size w1 w5 := hB4.trans (hb5.mono hB4.size); obtain ⟨_, _, _, _, k52, k53, k54, k55⟩ := HK.out w5 hB5; clear hb5))
  all_goals
    obtain ⟨k0, k1, kB⟩ := two_set w5 (w.heap.size + 2) (.bool n2) (.string s2) k52 k53
    have kB' := Lib.hid (show Below w.heap.size w _ from (HF.out.low.trans (hB5.mono (by have := HF.out.size; omega))).trans (kB.mono (by omega)))
    clear kB
    generalize (w5.setCell ⟨w.heap.size + 2, 0, none⟩ (.bool n2)).setCell ⟨w.heap.size + 2, 1, none⟩ (.string s2) = w6 at k0 k1 kB' ⊢
    go_wp2_with fail
    exact bodyPost_ret (v := .tuple #[.agg #[.bool n2, .string s2], .int .i64 0]) (by simp [results, Tryz.results80, go_sem, k0, k1]) rfl ⟨rfl, kB'.out⟩
end Go.Proofs.YtgdohmaljbggjaaGreatDoor
namespace Go.Proofs.YtgdohmaljbggjaaGreatDoor
open Go.RowKit Go.Lib
set_option maxRecDepth 4000 in
set_option maxHeartbeats 8000000 in
theorem rcmpl_any (Va Vb : Nat) (w : World) (ha : Va < 256 ^ 4096) (hb : Vb < 256 ^ 4096) :
    Calls Tryz.prog 82 #[lv false (Pl.dgs Va), lv false (Pl.dgs Vb)] w fun e w' => e = .returned (.tuple #[.int .i64 (Pl.ord Va Vb), .int .i64 0]) ∧ Below w.heap.size w w' := by
  have HC := Lib.hid (fun w => rboth_any false false Va Vb w ⟨ha, by simp⟩ ⟨hb, by simp⟩)
  have hla := Pl.dgs_len ha
  have hlb := Pl.dgs_len hb
  obtain ⟨F, vF, hconv, hF⟩ := conv_bytes (Pl.dgs Va) (by omega)
  obtain ⟨G, vG, hconv2, hG⟩ := conv_bytes (Pl.dgs Vb) (by omega)
  have HFF := Lib.hid hF
  have HGG := Lib.hid hG
  have HTI := Lib.hid (fun va vb W (ha : RdB W va (Pl.dgs Va)) (hb : RdB W vb (Pl.dgs Vb)) => rcmp_any va vb _ _ W ha hb (by omega) (by omega))
  rw [Pl.le_dgs, Pl.le_dgs] at HTI
  unfold lv at *
  generalize bs (Pl.dgs Va) = sa at *
  generalize bs (Pl.dgs Vb) = sb at *
  generalize Pl.ord Va Vb = r at *
  clear ha hb hla hlb hF hG
  go_enter Tryz.func82, Tryz.ntmps82
  go_wp2_with fail
  refine (HC.out _).mono ?_
  rintro e w1 ⟨rfl, hb⟩
  have HF := Lib.hid ((Two.new w false sa false sb).below hb)
  have HK := Lib.hid (fun (W : World) (hb : Below w1.heap.size w1 W) => (HF.out.below hb).cells)
  obtain ⟨p0, p1, p2, p3⟩ := HF.out.cells
  have HFB := Lib.hid (fun (W : World) (hb : Below w1.heap.size w1 W) => show Below w1.heap.size w1 (F W) from hb.trans ((HFF.out W).2.mono hb.size))
  have HGB := Lib.hid (fun (W : World) (hb : Below w1.heap.size w1 W) => show Below w1.heap.size w1 (G W) from hb.trans ((HGG.out W).2.mono hb.size))
  have hF3 := (HK.out _ (HFB.out w1 (Below.refl _ _))).2.2.2
  clear hb HC
  go_wp2_with fail
  refine (HTI.out _ _ _ ((HFF.out _).1.below (HGG.out _).2) (HGG.out _).1).mono ?_
  rintro e w4 ⟨rfl, rfl⟩
  go_wp2_with fail
  go_ret2
  exact ⟨rfl, HF.out.low.trans ((HGB.out _ (HFB.out _ (Below.refl _ _))).mono (by have := HF.out.size; omega))⟩
end Go.Proofs.YtgdohmaljbggjaaGreatDoor
