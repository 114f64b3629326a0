/- How many bits a row of words has: the contract of long. Words shifted to the right: the contract of right. A large number without a sign shifted to the right: the contract of Shift below nought. Blocks that hold a large number. How many bits a large number has, and a small one as an integer: the contracts of Bits and Small. Texts that are no infinity: the contract of special at digits. A number divided by a power of ten: the contract of atof64exact at powers below nought; that of atof64 there, and where the power is too great. -/
import Derived.Test.YtgdohmaljbggjaaGreatDoorBaal
import Derived.Test.YtgdohmaljbggjaaGreatDoorBaam
import Derived.Test.YtgdohmaljbggjaaGreatDoorBaae
import Derived.Deep.RegionHeld3
import Derived.Test.YtgdohmaljbggjaaGreatDoorBaak
import Derived.Test.YtgdohmaljbggjaaGreatDoorBaah
import Derived.Test.YtgdohmaljbggjaaGreatDoorBaac
namespace Go.Proofs.YtgdohmaljbggjaaGreatDoor
open Go.RowKit Go.Lib
namespace Pl
/-- How many bits a number has. -/
def nb (n : Nat) : Nat := if n = 0 then 0 else n.log2 + 1
theorem trimW_form (xs : List Nat) : trimW xs = [] ∨ ∃ ys c, trimW xs = ys ++ [c] ∧ c ≠ 0 := by
  unfold trimW
  cases h : xs.reverse.dropWhile (· == 0) with
  | nil => left; rfl
  | cons c l =>
    right
    refine ⟨l.reverse, c, by simp, ?_⟩
    have := List.head?_dropWhile_not (p := (· == 0)) xs.reverse
    rw [h] at this
    simpa using this
theorem nb_words {ys : List Nat} {c : Nat} (hc : c ≠ 0) (hy : ∀ x ∈ ys, x < 4294967296) : nb (num (ys ++ [c])) = 32 * ys.length + (c.log2 + 1) := by
  have h1 := num_lt ys hy
  have e : num (ys ++ [c]) = num ys + 4294967296 ^ ys.length * c := num_snoc ys c
  have hB : (4294967296 : Nat) ^ ys.length = 2 ^ (32 * ys.length) := by rw [Nat.pow_mul]
  rw [hB] at e h1
  have p1 := Nat.log2_self_le hc
  have p2 : c < 2 ^ (c.log2 + 1) := Nat.lt_log2_self
  have hl : (num (ys ++ [c])).log2 = 32 * ys.length + c.log2 := by
    refine Fl.log2_between ?_ ?_
    · rw [e, Nat.pow_add]
      have := Nat.mul_le_mul_left (2 ^ (32 * ys.length)) p1
      omega
    · rw [e, Nat.add_assoc, Nat.pow_add]
      have := Nat.mul_le_mul_left (2 ^ (32 * ys.length)) (show c + 1 ≤ 2 ^ (c.log2 + 1) by omega)
      rw [Nat.mul_add, Nat.mul_one] at this
      omega
  have h0 : num (ys ++ [c]) ≠ 0 := by
    rw [e]
    have := Nat.mul_le_mul_left (2 ^ (32 * ys.length)) (show 1 ≤ c by omega)
    have := Nat.two_pow_pos (32 * ys.length)
    omega
  unfold nb
  rw [if_neg h0, hl]
  omega
end Pl
set_option maxHeartbeats 1000000 in
theorem long_any (v : Value) (xs : List Nat) (w : World) (h : Rd w v xs) (hl : xs.length ≤ 100000) (hx : ∀ x ∈ xs, x < 4294967296) :
    Calls Tryz.prog 108 #[v] w fun e w' => e = .returned (.int .i64 (Pl.nb (Pl.num xs) : Nat)) ∧ w = w' := by
  have HT := Lib.hid (trim_any v xs w h hl)
  have HX := Lib.hid hx
  have HL := Lib.hid (trimW_len xs)
  obtain ⟨va, vn, vc, rfl⟩ := rd_form h
  clear h hx
  rcases Pl.trimW_form xs with h0 | ⟨ys, c, h0, hc⟩
  · have HV := Lib.hid (show Pl.nb (Pl.num xs) = 0 by rw [← Pl.num_trimW, h0]; rfl)
    go_enter Tryz.func108, Tryz.ntmps108
    go_wp2_with fail
    refine HT.out.mono ?_
    rintro e w' ⟨v', rfl, hr, rfl⟩
    rw [h0] at hr
    obtain ⟨a, cp, rfl⟩ : ∃ a cp, v' = .slice a 0 cp := by
      rcases hr with ⟨rfl, _⟩ | ⟨b, cap, rfl, _⟩
      · exact ⟨_, _, rfl⟩
      · exact ⟨_, _, rfl⟩
    clear hr
    go_wp2_with fail
    go_ret
    exact ⟨by rw [HV.out]; rfl, rfl⟩
  · have hcl : c < 4294967296 := HX.out c (trimW_mem (by rw [h0]; simp))
    have hyl : ys.length + 1 ≤ 100000 := by
      have := HL.out
      rw [h0] at this
      simp at this
      omega
    have HV := Lib.hid (show (Pl.nb (Pl.num xs) : Int) = 32 * (ys.length : Int) + (Lib.bitLen c : Nat) by
      rw [← Pl.num_trimW, h0, Pl.nb_words hc (fun x hx => HX.out x (trimW_mem (by rw [h0]; simp [hx]))), log2_len hc (by omega)]
      push_cast; rfl)
    have hbl : Lib.bitLen c ≤ 32 := bitLen_le c 32 (by omega) (by omega)
    go_enter Tryz.func108, Tryz.ntmps108
    go_wp2_with fail
    refine HT.out.mono ?_
    rintro e w' ⟨v', rfl, hr, rfl⟩
    rw [h0] at hr
    rcases hr with ⟨_, hn⟩ | ⟨b, cap, rfl, h2, h3, h4⟩
    · simp at hn
    have hcell : w.cell? ⟨b, ys.length, none⟩ = some (.int .u32 c) := h4 ys.length c (by simp)
    rw [List.length_append, List.length_singleton] at h2 ⊢
    generalize ys.length = k at *
    clear h4 HT HX HL h0
    have HQ := Lib.hid (fun w => Tryz.bits_Len32 (c : Int) w (by omega) (by omega))
    go_wp2_with fail
    refine (HQ.out _).mono ?_
    rintro e w' ⟨rfl, rfl⟩
    rw [Int.toNat_natCast]
    generalize Lib.bitLen c = L at *
    go_wp2_with fail
    go_ret
    exact ⟨ret_int (by rw [HV.out]), rfl⟩
end Go.Proofs.YtgdohmaljbggjaaGreatDoor
namespace Go.Proofs.YtgdohmaljbggjaaGreatDoor
open Go.RowKit Go.Lib
namespace Pl
/-- The words of a number shifted to the right. -/
def shr (xs : List Nat) (k : Nat) : List Nat := trimW (dn (xs.length - k / 32) (num xs / 2 ^ k))
theorem num_drop (xs : List Nat) (hx : ∀ x ∈ xs, x < 4294967296) (j : Nat) : num xs / 4294967296 ^ j = num (xs.drop j) := by
  rcases Nat.lt_or_ge xs.length j with h | h
  · rw [List.drop_eq_nil_of_le (by omega)]
    have := num_lt xs hx
    have h2 : (4294967296 : Nat) ^ xs.length ≤ 4294967296 ^ j := Nat.pow_le_pow_right (by decide) (by omega)
    rw [Nat.div_eq_of_lt (by omega)]
    rfl
  · have e := num_append (xs.take j) (xs.drop j)
    rw [List.take_append_drop, List.length_take, Nat.min_eq_left h] at e
    have hl := num_lt (xs.take j) (fun x hx' => hx x (List.mem_of_mem_take hx'))
    rw [List.length_take, Nat.min_eq_left h] at hl
    rw [e, Nat.add_mul_div_left _ _ (Nat.pow_pos (by decide)), Nat.div_eq_of_lt hl, Nat.zero_add]
/-- Two words that stand one behind the other, as the loop reads them. -/
def pair (xs : List Nat) (j : Nat) : Nat := xs.getD j 0 + 4294967296 * xs.getD (j + 1) 0
theorem num_head (ys : List Nat) : num ys % 18446744073709551616 = (ys.getD 0 0 + 4294967296 * ys.getD 1 0) % 18446744073709551616 := by
  match ys with
  | [] => rfl
  | [a] => simp [num]
  | a :: b :: l => simp only [num, List.getD_cons_zero, List.getD_cons_succ]; omega
theorem shr_word (xs : List Nat) (hx : ∀ x ∈ xs, x < 4294967296) (W p i : Nat) (hp : p < 32) :
    num xs / 2 ^ (32 * W + p) / 4294967296 ^ i % 4294967296 = pair xs (W + i) / 2 ^ p % 4294967296 := by
  have e1 : num xs / 2 ^ (32 * W + p) / 4294967296 ^ i = num xs / 4294967296 ^ (W + i) / 2 ^ p := by
    rw [Nat.div_div_eq_div_mul, Nat.div_div_eq_div_mul]
    congr 1
    rw [Nat.pow_add, Nat.pow_add, show (4294967296 : Nat) = 2 ^ 32 from rfl, ← Nat.pow_mul, ← Nat.pow_mul]
    ac_rfl
  rw [e1, num_drop xs hx]
  have h1 := num_head (xs.drop (W + i))
  have e2 : (xs.drop (W + i)).getD 0 0 = xs.getD (W + i) 0 := by simp [List.getD_eq_getElem?_getD]
  have e3 : (xs.drop (W + i)).getD 1 0 = xs.getD (W + i + 1) 0 := by simp [List.getD_eq_getElem?_getD]
  rw [e2, e3] at h1
  change _ = pair xs (W + i) % _ at h1
  generalize num (xs.drop (W + i)) = A at *
  generalize pair xs (W + i) = B at *
  have hpw : 2 ^ p * 2 ^ (64 - p) = 18446744073709551616 := by rw [← Nat.pow_add, show p + (64 - p) = 64 by omega]
  have key : ∀ X : Nat, X / 2 ^ p % 4294967296 = X % 18446744073709551616 / 2 ^ p % 4294967296 := by
    intro X
    have h2 : X % (2 ^ p * 2 ^ (64 - p)) / 2 ^ p = X / 2 ^ p % 2 ^ (64 - p) := by rw [Nat.mod_mul_right_div_self]
    rw [hpw] at h2
    rw [h2, Nat.mod_mod_of_dvd]
    rw [show (4294967296 : Nat) = 2 ^ 32 from rfl]
    exact Nat.pow_dvd_pow 2 (by omega)
  rw [key A, key B, h1]
/-- The first words of a number, and noughts. -/
def mix (n V k : Nat) : List Nat := (List.range n).map fun j => if j < k then V / 4294967296 ^ j % 4294967296 else 0
theorem mix_full (n V : Nat) : mix n V n = dn n V := by
  unfold mix dn
  apply List.map_congr_left
  intro j hj
  rw [if_pos (List.mem_range.1 hj)]
end Pl
theorem bits_or64 {a b : Nat} (ha : a < 4294967296) (hb : b < 4294967296) : bits .or .u64 (a : Int) ((b : Int) * 4294967296) = ((a + 4294967296 * b : Nat) : Int) := by
  have e1 : (b : Int) * 4294967296 = ((4294967296 * b : Nat) : Int) := by omega
  have h64 : (2 : Nat) ^ IntKind.u64.bits = 18446744073709551616 := rfl
  have hw : ∀ n : Nat, n < 18446744073709551616 → IntKind.u64.wrap (n : Int) = n := fun n hn => by rw [IntKind.wrap_u64]; omega
  have hor : a ||| 4294967296 * b = a + 4294967296 * b := by
    have := Nat.two_pow_add_eq_or_of_lt (i := 32) (b := a) ha b
    rw [show (2 : Nat) ^ 32 = 4294967296 from rfl] at this
    rw [Nat.or_comm, ← this, Nat.add_comm]
  rw [e1]
  simp only [bits, BitVec.ofInt_natCast, BitVec.toNat_or, BitVec.toNat_ofNat, h64]
  rw [Nat.mod_eq_of_lt (show a < 18446744073709551616 by omega), Nat.mod_eq_of_lt (show 4294967296 * b < 18446744073709551616 by omega), hor, hw _ (by omega)]
theorem cast_shift (a p : Nat) : (a : Int) / 2 ^ p % 4294967296 = ((a / 2 ^ p % 4294967296 : Nat) : Int) := by
  rw [Int.natCast_emod, Int.natCast_ediv, Int.natCast_pow]; rfl
theorem mix_step {n V k x : Nat} (hx : V / 4294967296 ^ k % 4294967296 = x) : wcells (Pl.mix n V (k + 1)) = (wcells (Pl.mix n V k)).setIfInBounds k (.int .u32 (x : Nat)) := by
  unfold wcells
  apply Array.toList_inj.1
  apply List.ext_getElem
  · simp [Pl.mix]
  · intro i h1 h2
    simp only [Array.toList_setIfInBounds, List.getElem_set, List.getElem_map, Pl.mix, List.getElem_range]
    by_cases e : k = i
    · subst e
      rw [if_pos rfl, if_pos (by omega), hx]
    · rw [if_neg e]
      by_cases e2 : i < k
      · rw [if_pos (by omega), if_pos e2]
      · rw [if_neg (by omega), if_neg e2]
def RightOk (w : World) (ys : List Nat) (e : Ending) (w' : World) : Prop :=
  ∃ v b, e = .returned (.tuple #[v, .bool b]) ∧ Rd w' v ys ∧ Below w.heap.size w w'
theorem right_far (v : Value) (xs : List Nat) (sh : Nat) (w : World) (h : Rd w v xs) (hs : sh ≤ 40000) (hf : xs.length ≤ sh / 32) :
    Calls Tryz.prog 111 #[v, .int .u64 sh] w (RightOk w (Pl.shr xs sh)) := by
  have HE := Lib.hid (show Pl.shr xs sh = [] by unfold Pl.shr Pl.dn; rw [show xs.length - sh / 32 = 0 by omega]; rfl)
  obtain ⟨va, vc, rfl⟩ : ∃ a c, v = .slice a xs.length c := by
    rcases h with ⟨h1, h2⟩ | ⟨b, cap, h1, _⟩
    · exact ⟨none, 0, by rw [h1, h2]; rfl⟩
    · exact ⟨_, _, h1⟩
  clear h
  obtain ⟨N, hN⟩ : ∃ N, xs.length = N := ⟨_, rfl⟩
  rw [hN] at hf ⊢
  obtain ⟨wh, hwh⟩ : ∃ wh, sh / 32 = wh := ⟨_, rfl⟩
  obtain ⟨pt, hpt⟩ : ∃ pt, sh % 32 = pt := ⟨_, rfl⟩
  have d1 : (sh : Int) / 32 = (wh : Int) := by omega
  have d2 : (sh : Int) % 32 = (pt : Int) := by omega
  rw [hwh] at hf
  clear hwh hpt hN
  have hd : decide ((N : Int) ≤ (wh : Int)) = true := decide_eq_true (by omega)
  go_enter Tryz.func111, Tryz.ntmps111
  go_wp2_with fail
  go_ret2
  exact ⟨_, _, rfl, by rw [HE.out]; exact .inl ⟨rfl, rfl⟩, Below.refl _ _⟩
set_option maxRecDepth 4000 in
set_option maxHeartbeats 2000000 in
theorem right_near (v : Value) (xs : List Nat) (sh : Nat) (w : World) (h : Rd w v xs) (hl : xs.length ≤ 2000) (hx : ∀ x ∈ xs, x < 4294967296) (hs : sh ≤ 40000) (hf : sh / 32 < xs.length) :
    Calls Tryz.prog 111 #[v, .int .u64 sh] w (RightOk w (Pl.shr xs sh)) := by
  obtain ⟨i0, hi, hz0, hz1, hz2⟩ := info_parts info74
  have HX := Lib.hid hx
  rcases h with ⟨_, h2⟩ | ⟨b, cap, rfl, hcap, hbs, hcells⟩
  · rw [h2] at hf; simp at hf
  have HC := Lib.hid hcells
  clear hcells hx
  obtain ⟨N, hN⟩ : ∃ N, xs.length = N := ⟨_, rfl⟩
  rw [hN] at hl hf hcap ⊢
  have HN := Lib.hid hN
  clear hN
  obtain ⟨wh, hwh⟩ : ∃ wh, sh / 32 = wh := ⟨_, rfl⟩
  obtain ⟨pt, hpt⟩ : ∃ pt, sh % 32 = pt := ⟨_, rfl⟩
  have d1 : (sh : Int) / 32 = (wh : Int) := by omega
  have d2 : (sh : Int) % 32 = (pt : Int) := by omega
  have hpt2 : pt < 32 := by omega
  rw [hwh] at hf
  have HSH := Lib.hid (show sh = 32 * wh + pt by omega)
  have HWH := Lib.hid hwh
  clear hwh hpt
  have HRW : Hid (Rd w (.slice (some ⟨b, 0, none⟩) wh cap) (xs.take wh)) := Lib.hid (.inr ⟨b, cap, by rw [List.length_take, Nat.min_eq_left (by rw [HN.out]; omega)], by rw [List.length_take]; omega, hbs, fun j x hj => by
    rw [List.getElem?_take] at hj
    split at hj
    · exact HC.out j x hj
    · cases hj⟩)
  have HT := Lib.hid (trim_any _ _ w HRW.out (by rw [List.length_take]; omega))
  have HLO := Lib.hid (fun v' (h : Rd w v' (Pl.trimW (xs.take wh))) => long_any v' _ w h (Nat.le_trans (trimW_len _) (by rw [List.length_take]; omega)) (fun x hx => HX.out x (List.mem_of_mem_take (trimW_mem hx))))
  have hkl : wh < xs.length := by rw [HN.out]; exact hf
  obtain ⟨xw, hxw⟩ : ∃ x, xs[wh] = x := ⟨_, rfl⟩
  have hcw : w.cell? ⟨b, wh, none⟩ = some (.int .u32 (xw : Nat)) := HC.out wh xw (by rw [List.getElem?_eq_getElem hkl, hxw])
  have hxwl : xw < 4294967296 := by rw [← hxw]; exact HX.out _ (List.getElem_mem _)
  clear hxw hkl
  obtain ⟨nbl, hnbl⟩ : ∃ nbl, Pl.nb (Pl.num (Pl.trimW (xs.take wh))) = nbl := ⟨_, rfl⟩
  rw [hnbl] at HLO
  clear hnbl
  obtain ⟨n, hn⟩ : ∃ n, N - wh = n := ⟨_, rfl⟩
  have HNN := Lib.hid hn
  have hnI : (N : Int) - (wh : Int) = (n : Int) := by omega
  have hn2 : n ≤ 4000 := by omega
  have hd : decide ((N : Int) ≤ (wh : Int)) = false := decide_eq_false (by omega)
  have hwle : wh ≤ cap := by omega
  go_enter Tryz.func111, Tryz.ntmps111
  go_wp2_with fail
  refine HT.out.mono ?_
  rintro e w' ⟨v', rfl, hr, rfl⟩
  have HLV := Lib.hid (HLO.out v' hr)
  obtain ⟨ta, tb, tc, rfl⟩ := rd_form hr
  clear hr HT HLO
  go_wp2_with fail
  refine HLV.out.mono ?_
  rintro e w' ⟨rfl, rfl⟩
  clear HLV
  go_wp2_with (at_make; refine wpList_make_full _ rfl _ _ 92 rfl w.heap.size 90 i0 (.int .u32 0) 1 Tryz.underlying92 hi hz0 hz1 .i64 .i64 _ _ n rfl rfl (by omega) (by omega) (by rw [hz2]; omega) (by unfold maxLen; omega) (by simp) ?_)
  all_goals
    intro w1 ho1 hg1
    obtain ⟨g, hgd⟩ : ∃ g, w.heap.size = g := ⟨_, rfl⟩
    rw [hgd] at ho1 ⊢
    have hrow : w1.heap[g]? = some (.cells (wcells (Pl.mix n (Pl.num xs / 2 ^ sh) 0)) 90) := by
      have := row_full ho1
      rw [made_words] at this
      rw [this]
      have e : Pl.words n [] = Pl.mix n (Pl.num xs / 2 ^ sh) 0 := by
        unfold Pl.words Pl.mix
        apply List.map_congr_left
        intro j _
        simp [Pl.word, Pl.le]
      rw [e]
    have HB1 := Lib.hid (show Below g w w1 from (Below.refl _ _).grown hg1 (by omega) (fun k hk => by cases hk))
    have HROW := Lib.hid hrow
    have HGD := Lib.hid hgd
    clear ho1 hg1 hi hz0 hz1 hz2 hrow hgd hn
    go_wp2_with fail
    go_loopw [51] (fun i wr => ∃ k : Nat, k ≤ n ∧ i = .int .i64 k ∧ wr.heap[g]? = some (.cells (wcells (Pl.mix n (Pl.num xs / 2 ^ sh) k)) 90) ∧ Below g w wr ∧ g < wr.heap.size) (fun i _ => n - (RowKit.intOf i).toNat)
    case atStart => exact ⟨0, Nat.zero_le _, rfl, HROW.out, HB1.out, (Array.getElem?_eq_some_iff.1 HROW.out).1⟩
    case round =>
      obtain ⟨k, hk, rfl, hrow, hb, hsz2⟩ := hrel
      have HROW := Lib.hid hrow
      have HB := Lib.hid hb
      clear hrow hb
      have hbg : b < g := by have := HGD.out; omega
      by_cases hlt : k < n
      · have hwk : wh + k < xs.length := by have h1 := HNN.out; rw [HN.out]; omega
        have hcx : wr.cell? ⟨b, wh + k, none⟩ = some (.int .u32 (xs.getD (wh + k) 0 : Nat)) := by
          rw [HB.out.cell (p := ⟨b, wh + k, none⟩) hbg]
          exact HC.out _ _ (by simp [List.getD_eq_getElem?_getD, List.getElem?_eq_getElem hwk])
        have hxl : xs.getD (wh + k) 0 < 4294967296 := by
          rw [List.getD_eq_getElem?_getD, List.getElem?_eq_getElem hwk]
          exact HX.out _ (List.getElem_mem _)
        have HW := Lib.hid (Pl.shr_word xs HX.out wh pt k hpt2)
        rw [← HSH.out] at HW
        unfold Pl.pair at HW
        obtain ⟨x0, hx0⟩ : ∃ x0, xs.getD (wh + k) 0 = x0 := ⟨_, rfl⟩
        rw [hx0] at hcx hxl HW
        clear hx0
        have hkn : k < n := hlt
        obtain ⟨y, cb⟩ : ∃ y : Nat, wr.cell? ⟨g, k, none⟩ = some (.int .u32 (y : Nat)) := ⟨(if k < k then Pl.num xs / 2 ^ sh / 4294967296 ^ k % 4294967296 else 0), by simp [World.cell?, HROW.out, wcells, Pl.mix, hkn]⟩
        have fb : wr.frozen? ⟨g, k, none⟩ = false := by simp [World.frozen?, HROW.out]
        have hwkN : wh + k < N := by rw [← HN.out]; exact hwk
        by_cases hq : wh + k + 1 < N
        · have hq' : decide ((wh : Int) + (k : Int) + 1 < (N : Int)) = true := decide_eq_true (by omega)
          have hwk1 : wh + k + 1 < xs.length := by rw [HN.out]; exact hq
          have hcy : wr.cell? ⟨b, wh + k + 1, none⟩ = some (.int .u32 (xs.getD (wh + k + 1) 0 : Nat)) := by
            rw [HB.out.cell (p := ⟨b, wh + k + 1, none⟩) hbg]
            exact HC.out _ _ (by simp [List.getD_eq_getElem?_getD, List.getElem?_eq_getElem hwk1])
          have hyl : xs.getD (wh + k + 1) 0 < 4294967296 := by
            rw [List.getD_eq_getElem?_getD, List.getElem?_eq_getElem hwk1]
            exact HX.out _ (List.getElem_mem _)
          obtain ⟨x1, hx1⟩ : ∃ x1, xs.getD (wh + k + 1) 0 = x1 := ⟨_, rfl⟩
          rw [hx1] at hcy hyl HW
          clear hx1
          obtain ⟨q, hqd⟩ : ∃ q, (x0 + 4294967296 * x1) / 2 ^ pt % 4294967296 = q := ⟨_, rfl⟩
          rw [hqd] at HW
          have HNEW := Lib.hid (mix_step (n := n) HW.out)
          have hor : bits .or .u64 (x0 : Int) ((x1 : Int) * 4294967296) / 2 ^ pt % 4294967296 = (q : Int) := by
            rw [bits_or64 hxl hyl, cast_shift, hqd]
          clear HW hqd
          go_wp2_with fail
          all_goals
            have hrow2 : (wr.setCell ⟨g, k, none⟩ (.int .u32 (q : Nat))).heap[g]? = some (.cells (wcells (Pl.mix n (Pl.num xs / 2 ^ sh) (k + 1))) 90) := by
              rw [HNEW.out]
              simp only [World.setCell, Array.getElem?_modify, if_pos, HROW.out]
              rfl
            have hB2 : Below g w (wr.setCell ⟨g, k, none⟩ (.int .u32 (q : Nat))) := HB.out.setCell (p := ⟨g, k, none⟩) (Nat.le_refl g) _
            have hz2 : g < (wr.setCell ⟨g, k, none⟩ (.int .u32 (q : Nat))).heap.size := by simp [World.setCell]; exact hsz2
            go_roundw
            case rel => exact ⟨k + 1, by omega, by go_num, hrow2, hB2, hz2⟩
            case measure => simp [RowKit.intOf]; omega
        · have hq' : decide ((wh : Int) + (k : Int) + 1 < (N : Int)) = false := decide_eq_false (by omega)
          obtain ⟨q, hqd⟩ : ∃ q, x0 / 2 ^ pt % 4294967296 = q := ⟨_, rfl⟩
          have hx1 : xs.getD (wh + k + 1) 0 = 0 := by rw [List.getD_eq_getElem?_getD, List.getElem?_eq_none (by rw [HN.out]; omega)]; rfl
          rw [hx1, Nat.mul_zero, Nat.add_zero, hqd] at HW
          have HNEW := Lib.hid (mix_step (n := n) HW.out)
          have hor : (x0 : Int) / 2 ^ pt % 4294967296 = (q : Int) := by rw [cast_shift, hqd]
          clear HW hqd hx1
          go_wp2_with fail
          all_goals
            have hrow2 : (wr.setCell ⟨g, k, none⟩ (.int .u32 (q : Nat))).heap[g]? = some (.cells (wcells (Pl.mix n (Pl.num xs / 2 ^ sh) (k + 1))) 90) := by
              rw [HNEW.out]
              simp only [World.setCell, Array.getElem?_modify, if_pos, HROW.out]
              rfl
            have hB2 : Below g w (wr.setCell ⟨g, k, none⟩ (.int .u32 (q : Nat))) := HB.out.setCell (p := ⟨g, k, none⟩) (Nat.le_refl g) _
            have hz2 : g < (wr.setCell ⟨g, k, none⟩ (.int .u32 (q : Nat))).heap.size := by simp [World.setCell]; exact hsz2
            go_roundw
            case rel => exact ⟨k + 1, by omega, by go_num, hrow2, hB2, hz2⟩
            case measure => simp [RowKit.intOf]; omega
      · obtain rfl : k = n := by omega
        rw [Pl.mix_full] at HROW
        have hrd : Rd wr (.slice (some ⟨g, 0, none⟩) k k) (Pl.dn k (Pl.num xs / 2 ^ sh)) := by
          refine .inr ⟨g, k, by rw [Pl.dn_len], by rw [Pl.dn_len]; exact Nat.le_refl _, hsz2, fun j y hy => ?_⟩
          simp only [World.cell?, HROW.out, wcells]
          simp [hy]
        have HT := Lib.hid (trim_any _ _ wr hrd (by rw [Pl.dn_len]; omega))
        have HBW := Lib.hid (show Below w.heap.size w wr from by rw [HGD.out]; exact HB.out)
        have HSR := Lib.hid (show Pl.shr xs sh = Pl.trimW (Pl.dn k (Pl.num xs / 2 ^ sh)) by unfold Pl.shr; rw [HN.out, HWH.out, HNN.out])
        clear hrd hlt
        go_wp2_with fail
        refine HT.out.mono ?_
        rintro e w' ⟨v', rfl, hrd2, rfl⟩
        have HR2 := Lib.hid hrd2
        obtain ⟨a, b, c, rfl⟩ := rd_form hrd2
        clear hrd2
        go_wp2_with fail
        go_ret2
        exact ⟨_, _, rfl, by rw [HSR.out]; exact HR2.out, HBW.out⟩
end Go.Proofs.YtgdohmaljbggjaaGreatDoor
namespace Go.Proofs.YtgdohmaljbggjaaGreatDoor
open Go.RowKit Go.Lib
theorem right_any (v : Value) (xs : List Nat) (sh : Nat) (w : World) (h : Rd w v xs) (hl : xs.length ≤ 2000) (hx : ∀ x ∈ xs, x < 4294967296) (hs : sh ≤ 40000) :
    Calls Tryz.prog 111 #[v, .int .u64 sh] w (RightOk w (Pl.shr xs sh)) := by
  rcases Nat.lt_or_ge (sh / 32) xs.length with hf | hf
  · exact right_near v xs sh w h hl hx hs hf
  · exact right_far v xs sh w h hs hf
theorem shr_lt {xs : List Nat} {k x : Nat} (h : x ∈ Pl.shr xs k) : x < 4294967296 := Pl.dn_lt (trimW_mem h)
theorem shr_len (xs : List Nat) (k : Nat) : (Pl.shr xs k).length ≤ xs.length := by
  unfold Pl.shr
  refine Nat.le_trans (trimW_len _) ?_
  rw [Pl.dn_len]; omega
theorem num_shr (xs : List Nat) (hx : ∀ x ∈ xs, x < 4294967296) (k : Nat) : Pl.num (Pl.shr xs k) = Pl.num xs / 2 ^ k := by
  unfold Pl.shr
  rw [Pl.num_trimW, Pl.num_dn]
  have h1 := Pl.num_lt xs hx
  have hk : k = 32 * (k / 32) + k % 32 := by omega
  rw [Nat.div_lt_iff_lt_mul (Nat.two_pow_pos _)]
  rcases Nat.lt_or_ge xs.length (k / 32) with h | h
  · rw [show xs.length - k / 32 = 0 by omega, Nat.pow_zero, Nat.one_mul]
    refine Nat.lt_of_lt_of_le h1 ?_
    rw [show (4294967296 : Nat) = 2 ^ 32 from rfl, ← Nat.pow_mul]
    exact Nat.pow_le_pow_right (by decide) (by omega)
  · refine Nat.lt_of_lt_of_le h1 ?_
    rw [show (4294967296 : Nat) = 2 ^ 32 from rfl, ← Nat.pow_mul, ← Nat.pow_mul, ← Nat.pow_add]
    exact Nat.pow_le_pow_right (by decide) (by omega)
set_option maxRecDepth 4000 in
set_option maxHeartbeats 2000000 in
theorem shiftr_any (l : List UInt8) (k : Nat) (w : World) (hl : l.length ≤ 4096) (hc : Pl.chk false l = 0) (hk : k ≤ 32768) (hk0 : 1 ≤ k) (hs : (Pl.bytesOf (Pl.shr (Pl.words ((l.length + 3) / 4) l) k)).length ≤ 4096) :
    Calls Tryz.prog 63 #[lv false l, .int .i64 (-(k : Int))] w (ShiftOk w false (Pl.shr (Pl.words ((l.length + 3) / 4) l) k)) := by
  have HC := Lib.hid (fun w => check_any false l w (by omega))
  rw [hc] at HC
  have HO := Lib.hid (fun w => lof_any false l w hl)
  have hxw : ∀ x ∈ Pl.words ((l.length + 3) / 4) l, x < 4294967296 := fun x hx => by
    obtain ⟨j, _, rfl⟩ := List.mem_map.1 hx; exact Pl.word_lt l j
  have HL := Lib.hid (fun v w (h : Rd w v (Pl.words ((l.length + 3) / 4) l)) => right_any v _ k w h (by rw [Pl.words_len]; omega) hxw (by omega))
  have hlen : (Pl.words ((l.length + 3) / 4) l).length ≤ 10000 := by rw [Pl.words_len]; omega
  have HT := Lib.hid (fun v w (h : Rd w v (Pl.shr (Pl.words ((l.length + 3) / 4) l) k)) => ltold_any v _ false w h (Nat.le_trans (shr_len _ _) hlen) (fun x hx => shr_lt hx) hs)
  generalize Pl.shr (Pl.words ((l.length + 3) / 4) l) k = ys at *
  clear hc hxw hs hlen
  unfold lv at *
  generalize bs l = s at *
  go_enter Tryz.func63, Tryz.ntmps63
  go_wp2_with fail
  refine (HC.out _).mono ?_
  rintro e w1 ⟨rfl, hB1⟩
  have HF1 := Lib.hid ((Frm.new w false s).below hB1)
  obtain ⟨g0, g1, _, _, _, _⟩ := HF1.out.cells
  clear hB1
  go_wp2_with fail
  refine (HO.out _).mono ?_
  rintro e w2 ⟨v, rfl, hrd, hB2⟩
  have HF2 := Lib.hid (HF1.out.below hB2)
  have HRD := Lib.hid hrd
  obtain ⟨va, vn, vc, rfl⟩ := rd_form hrd
  clear hB2 hrd HF1
  clear g0 g1
  have hd1 : decide (-(k : Int) < -32768) = false := decide_eq_false (by omega)
  have hd2 : decide (32768 < -(k : Int)) = false := decide_eq_false (by omega)
  have hd3 : decide (0 ≤ -(k : Int)) = false := decide_eq_false (by omega)
  have hku : IntKind.u64.wrap (k : Int) = (k : Int) := wrap_nat (by omega)
  go_wp2_with fail
  obtain ⟨C, hC⟩ : ∃ C, w2.heap.size = C := ⟨_, rfl⟩
  obtain ⟨W3, hW3⟩ : ∃ W3, w2.alloc (.cells #[.slice va vn vc, .bool false] 112) = W3 := ⟨_, rfl⟩
  have hB3 : Below w2.heap.size w2 W3 := by rw [← hW3]; exact (Below.refl _ _).alloc (Nat.le_refl _) _
  have HF3 := Lib.hid (HF2.out.below hB3)
  have HRD3 := Lib.hid (HRD.out.below hB3)
  have hn : W3.heap[C]? = some (.cells #[.slice va vn vc, .bool false] 112) := by rw [← hW3, ← hC]; exact heap_alloc_at _ _
  have hCs : C < W3.heap.size := (Array.getElem?_eq_some_iff.1 hn).1
  rw [hC, hW3]
  clear hB3 hW3 hC HRD HF2
  obtain ⟨B, hBd⟩ : ∃ B, w.heap.size + 1 = B := ⟨_, rfl⟩
  rw [hBd]
  have HBd := Lib.hid hBd
  clear hBd
  refine (HL.out _ _ (by exact HRD3.out)).mono ?_
  rintro e w4 ⟨v4, lost, rfl, hrd4, hB4⟩
  have HF4 := Lib.hid (HF3.out.below hB4)
  have hn4 : w4.heap[C]? = some (.cells #[.slice va vn vc, .bool false] 112) := by rw [hB4.block _ hCs]; exact hn
  have HRD4 := Lib.hid hrd4
  obtain ⟨x1, x2, x3, rfl⟩ := rd_form hrd4
  have m1 : w4.cell? ⟨C, 1, none⟩ = some (.bool false) := by simp [World.cell?, hn4]
  have hCs4 : C < w4.heap.size := (Array.getElem?_eq_some_iff.1 hn4).1
  clear hn hn4 hrd4 hB4 HRD3 HF3 HL HO HC hCs
  cases lost
  all_goals
    go_wp2_with fail
    refine (HT.out _ _ HRD4.out).mono ?_
    rintro e w5 ⟨rfl, hB5⟩
    have HF5 := Lib.hid (HF4.out.below hB5)
    obtain ⟨_, _, r0, r1, f0, f1⟩ := HF5.out.cells
    rw [HBd.out] at r0 r1 f0 f1
    unfold lv
    obtain ⟨k0, k1, kB⟩ := two_set w5 B (.bool (false && !(Pl.bytesOf ys).isEmpty)) (.string (bs (Pl.bytesOf ys))) r0 r1
    have kB' := HF5.out.low.trans (kB.mono (by have := HBd.out; omega))
    clear hB5
    simp only [Bool.false_and] at k0 k1 kB kB' ⊢
    go_wp2_with fail
    refine bodyPost_ret (v := .tuple #[.agg #[.bool (false && !(Pl.bytesOf ys).isEmpty), .string (bs (Pl.bytesOf ys))], .int .i64 0]) (by simp [results, Tryz.results63, go_sem, k0, k1]) rfl ⟨rfl, kB'⟩
/-- A number without a sign, shifted to the right. -/
theorem shift_down (V k : Nat) (w : World) (hV : V < 256 ^ 4096) (hk : k ≤ 32768) :
    Calls Tryz.prog 63 #[lv false (Pl.dgs V), .int .i64 (-(k : Int))] w fun e w' => e = .returned (.tuple #[lv false (Pl.dgs (V / 2 ^ k)), .int .i64 0]) ∧ Below w.heap.size w w' := by
  have hlen := Pl.dgs_len hV
  rcases Nat.eq_zero_or_pos k with h0 | h0
  · subst h0
    have h := shiftl_any false (Pl.dgs V) 0 w hlen (Pl.chk_dgs hV (by simp)) (by omega) (by rw [Pl.shl_is, Nat.pow_zero, Nat.mul_one]; exact hlen)
    refine Calls.mono ?_ (fun e w' h => h)
    unfold ShiftOk at h
    rw [Pl.shl_is, Nat.pow_zero, Nat.mul_one, Bool.false_and] at h
    simpa using h
  · have hxw : ∀ x ∈ Pl.words (((Pl.dgs V).length + 3) / 4) (Pl.dgs V), x < 4294967296 := fun x hx => by
      obtain ⟨j, _, rfl⟩ := List.mem_map.1 hx; exact Pl.word_lt _ j
    have hb : Pl.bytesOf (Pl.shr (Pl.words (((Pl.dgs V).length + 3) / 4) (Pl.dgs V)) k) = Pl.dgs (V / 2 ^ k) := by
      rw [Pl.bytesOf_is (fun x hx => shr_lt hx), num_shr _ hxw, Pl.num_words _ _ (by omega), Pl.le_dgs]
    have h := shiftr_any (Pl.dgs V) k w hlen (Pl.chk_dgs hV (by simp)) hk h0 (by rw [hb]; exact Pl.dgs_len (Nat.lt_of_le_of_lt (Nat.div_le_self _ _) hV))
    unfold ShiftOk at h
    rw [hb, Bool.false_and] at h
    exact h
end Go.Proofs.YtgdohmaljbggjaaGreatDoor
namespace Go.Proofs.YtgdohmaljbggjaaGreatDoor
open Go.RowKit Go.Lib
theorem lof_form (n : Int) : ∃ g S, lof n = .agg #[.bool g, .string S] := ⟨_, _, rfl⟩
theorem large_kept {W W' : World} {C : Nat} {g : Bool} {S : ByteArray} (h : W.heap[C]? = some (.cells #[.bool g, .string S] 42)) (hb : Below W.heap.size W W') : W'.heap[C]? = some (.cells #[.bool g, .string S] 42) := by
  rw [hb.block _ (Array.getElem?_eq_some_iff.1 h).1]; exact h
theorem large_cells {W : World} {C : Nat} {g : Bool} {S : ByteArray} (h : W.heap[C]? = some (.cells #[.bool g, .string S] 42)) : W.cell? ⟨C, 0, none⟩ = some (.bool g) ∧ W.cell? ⟨C, 1, none⟩ = some (.string S) ∧ C < W.heap.size :=
  ⟨by simp [World.cell?, h], by simp [World.cell?, h], (Array.getElem?_eq_some_iff.1 h).1⟩
end Go.Proofs.YtgdohmaljbggjaaGreatDoor
namespace Go.Proofs.YtgdohmaljbggjaaGreatDoor
open Go.RowKit Go.Lib
theorem run_field_nat (a : Option Addr) (n c : Nat) (b : Bool) (w : World) : (Instr.field 112 (.agg #[.slice a n c, .bool b]) 0).run Tryz.prog w = .ok (.slice a n c) w := by
  simp [Instr.field, run_underlying Tryz.underlying112, part, asAgg, Tryz.isAgg92, go_sem]
set_option maxRecDepth 4000 in
set_option maxHeartbeats 1000000 in
theorem nbits_any (neg : Bool) (V : Nat) (w : World) (hV : V < 256 ^ 4096) (hc : Pl.chk neg (Pl.dgs V) = 0) :
    Calls Tryz.prog 62 #[lv neg (Pl.dgs V)] w fun e w' => e = .returned (.int .i64 (Pl.nb V : Nat)) ∧ Below w.heap.size w w' := by
  have hlen := Pl.dgs_len hV
  have HC := Lib.hid (fun w => check_any neg (Pl.dgs V) w (by omega))
  rw [hc] at HC
  have HO := Lib.hid (fun w => lof_any neg (Pl.dgs V) w hlen)
  have hxw : ∀ x ∈ Pl.words (((Pl.dgs V).length + 3) / 4) (Pl.dgs V), x < 4294967296 := fun x hx => by
    obtain ⟨j, _, rfl⟩ := List.mem_map.1 hx; exact Pl.word_lt _ j
  have HL := Lib.hid (fun v w (h : Rd w v (Pl.words (((Pl.dgs V).length + 3) / 4) (Pl.dgs V))) => long_any v _ w h (by rw [Pl.words_len]; omega) hxw)
  rw [Pl.num_words _ _ (by omega), Pl.le_dgs] at HL
  generalize Pl.nb V = R at *
  clear hc hxw hV hlen
  unfold lv at *
  generalize bs (Pl.dgs V) = s at *
  go_enter Tryz.func62, Tryz.ntmps62
  go_wp2_with fail
  refine (HC.out _).mono ?_
  rintro e w1 ⟨rfl, hB1⟩
  have hh : (w.alloc (.cells #[.bool neg, .string s] 42)).heap[w.heap.size]? = some (.cells #[.bool neg, .string s] 42) := heap_alloc_at _ _
  have HB1 := Lib.hid (show Below w.heap.size w w1 from ((Below.refl _ _).alloc (Nat.le_refl _) _).trans (hB1.mono (by simp)))
  obtain ⟨c0, c1, _⟩ := large_cells (large_kept hh hB1)
  clear hB1 hh
  go_wp2_with fail
  refine (HO.out _).mono ?_
  rintro e w2 ⟨v, rfl, hrd, hB2⟩
  have HRD := Lib.hid hrd
  have HB2 := Lib.hid (HB1.out.trans (hB2.mono HB1.out.size))
  obtain ⟨va, vn, vc, rfl⟩ := rd_form hrd
  clear hB2 hrd HB1
  have hfield := fun w => run_field_nat va vn vc neg w
  go_wp2_with fail
  refine (HL.out _ _ HRD.out).mono ?_
  rintro e w' ⟨rfl, rfl⟩
  go_wp2_with fail
  go_ret
  exact ⟨rfl, HB2.out⟩
theorem Pl.le_take_succ {l : List UInt8} {i : Nat} (h : i < l.length) : Pl.le (l.take (i + 1)) = Pl.le (l.take i) + 256 ^ i * l[i].toNat := by
  rw [List.take_succ_eq_append_getElem h, Pl.le_snoc, List.length_take, Nat.min_eq_left (by omega)]
theorem bits_or_byte {a b k : Nat} (hk : k < 8) (ha : a < 256 ^ k) (hb : b < 256) : bits .or .u64 (a : Int) ((b : Int) * 2 ^ (8 * k) % 18446744073709551616) = ((a + 256 ^ k * b : Nat) : Int) := by
  have hp : (2 : Nat) ^ (8 * k) = 256 ^ k := by rw [Nat.pow_mul]
  have h7 : 256 ^ k ≤ 256 ^ 7 := Nat.pow_le_pow_right (by decide) (by omega)
  have h77 : (256 : Nat) ^ 7 = 72057594037927936 := by decide
  have hm : 256 ^ k * b ≤ 256 ^ 7 * 255 := Nat.mul_le_mul h7 (by omega)
  have e1 : (b : Int) * 2 ^ (8 * k) % 18446744073709551616 = ((256 ^ k * b : Nat) : Int) := by
    have : (b : Int) * 2 ^ (8 * k) = ((256 ^ k * b : Nat) : Int) := by rw [← hp, Int.natCast_mul, Int.natCast_pow, Int.mul_comm]; rfl
    rw [this]; omega
  have h64 : (2 : Nat) ^ IntKind.u64.bits = 18446744073709551616 := rfl
  have hw : ∀ n : Nat, n < 18446744073709551616 → IntKind.u64.wrap (n : Int) = n := fun n hn => by rw [IntKind.wrap_u64]; omega
  have hor : a ||| 256 ^ k * b = a + 256 ^ k * b := by
    have := Nat.two_pow_add_eq_or_of_lt (i := 8 * k) (b := a) (by rw [hp]; exact ha) b
    rw [hp] at this
    rw [Nat.or_comm, ← this, Nat.add_comm]
  rw [e1]
  simp only [bits, BitVec.ofInt_natCast, BitVec.toNat_or, BitVec.toNat_ofNat, h64]
  rw [Nat.mod_eq_of_lt (show a < 18446744073709551616 by omega), Nat.mod_eq_of_lt (show 256 ^ k * b < 18446744073709551616 by omega), hor, hw _ (by omega)]
theorem lt_pow_more {V a b : Nat} (h : V < 256 ^ a) (hab : a ≤ b) : V < 256 ^ b := Nat.lt_of_lt_of_le h (Nat.pow_le_pow_right (by decide) hab)
theorem chk_small {V : Nat} (h : V < 9223372036854775808) : Pl.chk false (Pl.dgs V) = 0 := by
  have h8 : V < 256 ^ 8 := Nat.lt_of_lt_of_le h (by decide)
  refine Pl.chk_dgs ?_ (by simp)
  obtain ⟨b, hb⟩ : ∃ b, b = 4096 := ⟨_, rfl⟩
  rw [← hb]
  exact lt_pow_more h8 (by omega)
set_option maxRecDepth 4000 in
set_option maxHeartbeats 1000000 in
theorem small_any (V : Nat) (w : World) (hV : V < 9223372036854775808) :
    Calls Tryz.prog 64 #[lv false (Pl.dgs V)] w fun e w' => e = .returned (.tuple #[.int .i64 V, .bool true]) ∧ Below w.heap.size w w' := by
  have hlen : (Pl.dgs V).length ≤ 8 := Pl.dgs_len (by omega)
  have HC := Lib.hid (fun w => check_any false (Pl.dgs V) w (by omega))
  rw [chk_small hV] at HC
  have HLE := Lib.hid (Pl.le_dgs V)
  generalize Pl.dgs V = l at *
  unfold lv at *
  have hsz : (bs l).size = l.length := rfl
  have HAT := Lib.hid (at_bs l)
  generalize bs l = s at *
  obtain ⟨N, hN⟩ : ∃ N, l.length = N := ⟨_, rfl⟩
  rw [hN] at hsz hlen
  have HN := Lib.hid hN
  clear hN
  have hd8 : decide (8 < (N : Int)) = false := decide_eq_false (by omega)
  go_enter Tryz.func64, Tryz.ntmps64
  go_wp2_with fail
  refine (HC.out _).mono ?_
  rintro e w1 ⟨rfl, hB1⟩
  have hh : (w.alloc (.cells #[.bool false, .string s] 42)).heap[w.heap.size]? = some (.cells #[.bool false, .string s] 42) := heap_alloc_at _ _
  have HB1 := Lib.hid (show Below w.heap.size w w1 from ((Below.refl _ _).alloc (Nat.le_refl _) _).trans (hB1.mono (by simp)))
  obtain ⟨c0, c1, _⟩ := large_cells (large_kept hh hB1)
  clear hB1 hh HC
  go_wp2_with fail
  go_loop [4, 19] (fun x i => ∃ k : Nat, k ≤ N ∧ i = .int .i64 k ∧ x = .int .u64 (Pl.le (l.take k) : Nat)) (fun _ i => N - (RowKit.intOf i).toNat)
  case atStart => exact ⟨0, Nat.zero_le _, rfl, by simp [Pl.le]⟩
  case round =>
    obtain ⟨k, hk, rfl, rfl⟩ := hrel
    by_cases hlt : k < N
    · have hkl : k < l.length := by rw [HN.out]; exact hlt
      have q : k < s.size := by omega
      have ak : s[k]'q = l[k] := HAT.out.get hkl q (by omega)
      have hst := Pl.le_take_succ hkl
      have hlt2 := Pl.le_lt (l.take k)
      rw [List.length_take, Nat.min_eq_left (by omega)] at hlt2
      obtain ⟨c, hc⟩ : ∃ c, l[k] = c := ⟨_, rfl⟩
      rw [hc] at ak hst
      have hcb := c.toNat_lt
      have hor := bits_or_byte (a := Pl.le (l.take k)) (b := c.toNat) (k := k) (by omega) hlt2 (by omega)
      rw [← hst] at hor
      have HS := Lib.hid hor
      clear hst hlt2 hc hor
      generalize Pl.le (l.take k) = a0 at *
      obtain ⟨a1, ha1⟩ : ∃ a1, Pl.le (l.take (k + 1)) = a1 := ⟨_, rfl⟩
      rw [ha1] at HS
      have HA1 := Lib.hid ha1
      clear ha1
      have hor := HS.out
      rw [← IntKind.wrap_u64] at hor
      go_wp2_with fail
      go_round
      case rel => exact ⟨k + 1, by omega, by go_num, by rw [HA1.out]⟩
      case measure => simp [RowKit.intOf]; omega
    · obtain rfl : k = N := by omega
      rw [List.take_of_length_le (by rw [HN.out]; exact Nat.le_refl _), HLE.out]
      go_wp2_with fail
      go_ret2
      exact ⟨rfl, HB1.out⟩
end Go.Proofs.YtgdohmaljbggjaaGreatDoor
namespace Go.Proofs.YtgdohmaljbggjaaGreatDoor
open Go.RowKit Go.Lib
set_option maxHeartbeats 1000000 in
theorem common_zero (t : ByteArray) (w : World) (q : 0 < t.size) (hs : t.size ≤ 100000) (hd : 48 ≤ (t[0]'q).toNat ∧ (t[0]'q).toNat ≤ 57) :
    Calls Tryz.prog 232 #[.string t, .string ⟨#[105, 110, 102, 105, 110, 105, 116, 121]⟩] w fun e w' => e = .returned (.int .i64 0) ∧ w = w' := by
  obtain ⟨c, hc⟩ : ∃ c, t[0]'q = c := ⟨_, rfl⟩
  rw [hc] at hd
  obtain ⟨h1, h2⟩ := hd
  have b1 : ((c.toNat : Int) != ((((⟨#[105, 110, 102, 105, 110, 105, 116, 121]⟩ : ByteArray)[0]'(by decide)).toNat : Nat) : Int)) = true := by rw [bne_iff_ne]; show (c.toNat : Int) ≠ 105; omega
  obtain ⟨N, hN⟩ : ∃ N, t.size = N := ⟨_, rfl⟩
  have hn1 : 0 < N := by omega
  have hn2 : N ≤ 100000 := by omega
  obtain ⟨k, hk⟩ : ∃ k : Int, min 8 (N : Int) = k := ⟨_, rfl⟩
  have hk1 : 0 < k := by omega
  go_enter Tryz.func232, Tryz.ntmps232
  go_wp2_with fail
  refine wp_loop_rounds 1 ?_
  rw [rounds_succ]
  go_wp2_with fail
  go_ret
  exact ⟨rfl, rfl⟩
set_option maxHeartbeats 1000000 in
theorem special_pos (s : ByteArray) (w : World) (q : 0 < s.size) (hs : s.size ≤ 100000) (hd : 48 ≤ (s[0]'q).toNat ∧ (s[0]'q).toNat ≤ 57) :
    Calls Tryz.prog 192 #[.string s] w fun e w' => e = .returned (.tuple #[.float .f64 0, .int .i64 0, .bool false]) ∧ w = w' := by
  obtain ⟨c, hc⟩ : ∃ c, s[0]'q = c := ⟨_, rfl⟩
  rw [hc] at hd
  obtain ⟨h1, h2⟩ := hd
  have b1 : ((c.toNat : Int) == 43) = false := by rw [beq_eq_false_iff_ne]; omega
  have b2 : ((c.toNat : Int) == 45) = false := by rw [beq_eq_false_iff_ne]; omega
  have b3 : ((c.toNat : Int) == 105) = false := by rw [beq_eq_false_iff_ne]; omega
  have b4 : ((c.toNat : Int) == 73) = false := by rw [beq_eq_false_iff_ne]; omega
  have b5 : ((c.toNat : Int) == 110) = false := by rw [beq_eq_false_iff_ne]; omega
  have b6 : ((c.toNat : Int) == 78) = false := by rw [beq_eq_false_iff_ne]; omega
  obtain ⟨N, hN⟩ : ∃ N, s.size = N := ⟨_, rfl⟩
  have hn0 : ((N : Int) == 0) = false := by rw [beq_eq_false_iff_ne]; omega
  have hn1 : 0 < N := by omega
  go_enter Tryz.func192, Tryz.ntmps192
  go_wp2_with fail
  go_ret3
  exact ⟨rfl, rfl⟩
set_option maxHeartbeats 1000000 in
theorem special_neg (s : ByteArray) (w : World) (q0 : 0 < s.size) (q : 1 < s.size) (hs : s.size ≤ 100000) (h0 : s[0]'q0 = 45) (hd : 48 ≤ (s[1]'q).toNat ∧ (s[1]'q).toNat ≤ 57) :
    Calls Tryz.prog 192 #[.string s] w fun e w' => e = .returned (.tuple #[.float .f64 0, .int .i64 0, .bool false]) ∧ w = w' := by
  have HC := Lib.hid (fun (w : World) => common_zero (s.extract 1 s.size) w (by rw [ByteArray.size_extract]; omega) (by rw [ByteArray.size_extract]; omega) (by rw [ByteArray.getElem_extract]; exact hd))
  obtain ⟨N, hN⟩ : ∃ N, s.size = N := ⟨_, rfl⟩
  have hn0 : ((N : Int) == 0) = false := by rw [beq_eq_false_iff_ne]; omega
  have hn1 : 1 < N := by omega
  have hn2 : N ≤ 100000 := by omega
  rw [hN] at HC
  clear hd q
  go_enter Tryz.func192, Tryz.ntmps192
  go_wp2_with fail
  refine (HC.out _).mono ?_
  rintro e w' ⟨rfl, rfl⟩
  go_wp2_with fail
  go_ret3
  exact ⟨rfl, rfl⟩
end Go.Proofs.YtgdohmaljbggjaaGreatDoor
namespace Go.Proofs.YtgdohmaljbggjaaGreatDoor
open Go.RowKit Go.Lib
theorem ret3v {a b c a' b' c' : Value} (h1 : a = a') (h2 : b = b') (h3 : c = c') : Ending.returned (.tuple #[a, b, c]) = .returned (.tuple #[a', b', c']) := by rw [h1, h2, h3]
set_option maxHeartbeats 1000000 in
theorem exact_div (m k p r x : Nat) (neg : Bool) (w : World) (hm : m < 4503599627370496) (hk : k ≤ 22) (hk0 : 0 < k) (he : Env w) (hp : Pl.f10[k]? = some p) (hx : (if neg then floatOfInt .f64 (m : Int) ^^^ 9223372036854775808 else floatOfInt .f64 (m : Int)) = x) (hr : Fl.D.div x p = some r) :
    Calls Tryz.prog 203 #[.int .u64 m, .int .i64 (-(k : Int)), .bool neg] w fun e w' => e = .returned (.tuple #[.float .f64 r, .bool true]) ∧ w = w' := by
  have h1 := he.info
  obtain ⟨a, cap, h2, h3, h4⟩ := he.f10
  have h5 := h4 k p hp
  have h6 := fun (t : TypeId) (w : World) => run_float_arith (P := Tryz.prog) w .quo t .f64 x p r hr
  have b1 : ((m : Int) / 4503599627370496 != 0) = false := by rw [bne_eq_false_iff_eq]; omega
  have b2 : (-(k : Int) == 0) = false := by rw [beq_eq_false_iff_ne]; omega
  clear h4 hp hr he h3
  cases neg
  · have hx' : floatOfInt .f64 (m : Int) = x := by simpa using hx
    clear hx
    go_enter Tryz.func203, Tryz.ntmps203
    go_wp2_with fail
    go_ret2
    exact ⟨rfl, rfl⟩
  · have hx' : floatOfInt .f64 (m : Int) ^^^ 9223372036854775808 = x := by simpa using hx
    clear hx
    obtain ⟨y, hy⟩ : ∃ y, floatOfInt .f64 (m : Int) = y := ⟨_, rfl⟩
    rw [hy] at hx'
    have hn : ∀ w : World, (Op.unary .neg (.float .f64 y)).run Tryz.prog w = .ok (.float .f64 x) w := fun w => by rw [run_neg, hx']
    clear hx'
    go_enter Tryz.func203, Tryz.ntmps203
    go_wp2_with fail
    go_ret2
    exact ⟨rfl, rfl⟩
theorem run_sfrom (n : Int) (w : World) : (callFunc 202 #[.int .u64 n]).run Tryz.prog w = .ok (.value (.float .f64 n.toNat)) w := by
  rw [run_callFunc_extern Tryz.func202 (by kernel_rfl) (by kernel_rfl) (by kernel_rfl) (show Extern.find _ = some Extern.MathFloatBits.float64frombits by kernel_rfl)]
  rfl
def IsSpecial (s : ByteArray) : Prop := ∀ w, Calls Tryz.prog 192 #[.string s] w fun e w' => e = .returned (.tuple #[.float .f64 0, .int .i64 0, .bool false]) ∧ w = w'
def ReadsAs (s : ByteArray) (m : Nat) (e : Int) (neg tr : Bool) (n : Nat) : Prop := ∀ w, Calls Tryz.prog 193 #[.string s] w fun en w' => en = .returned (.tuple #[.int .u64 m, .int .i64 e, .bool neg, .bool tr, .bool false, .int .i64 n, .bool true]) ∧ w' = w
set_option maxHeartbeats 1000000 in
theorem atof_div (s : ByteArray) (n m k p r x : Nat) (neg : Bool) (w : World) (hs : IsSpecial s) (hr : ReadsAs s m (-(k : Int)) neg false n) (hm : m < 4503599627370496) (hm0 : 0 < m) (hk : k ≤ 22) (hk0 : 0 < k) (he : Env w) (hp : Pl.f10[k]? = some p) (hx : (if neg then floatOfInt .f64 (m : Int) ^^^ 9223372036854775808 else floatOfInt .f64 (m : Int)) = x) (hd : Fl.D.div x p = some r) :
    Calls Tryz.prog 163 #[.string s] w fun e w' => e = .returned (.tuple #[.float .f64 r, .int .i64 n, .nilIface]) ∧ w = w' := by
  have HX := Lib.hid (exact_div m k p r x neg w hm hk hk0 he hp hx hd)
  have h1 := he.opt
  have b1 : ((m : Int) == 0) = false := by rw [beq_eq_false_iff_ne]; omega
  clear hp hx hd
  cases neg
  all_goals
    go_enter Tryz.func163, Tryz.ntmps163
    go_wp2_with fail
    refine (hs _).mono ?_
    rintro e w' ⟨rfl, rfl⟩
    go_wp2_with fail
    refine (hr _).mono ?_
    rintro e w' ⟨rfl, rfl⟩
    go_wp2_with fail
    refine (bool2u_any _ _).mono ?_
    rintro e w' ⟨rfl, rfl⟩
    go_wp2_with fail
    refine HX.out.mono ?_
    rintro e w' ⟨rfl, rfl⟩
    go_wp2_with fail
    go_ret3
    exact ⟨rfl, rfl⟩
set_option maxHeartbeats 1000000 in
theorem atof_far (s : ByteArray) (n m : Nat) (e : Int) (tr : Bool) (w : World) (hs : IsSpecial s) (hr : ReadsAs s m e false tr n) (hm0 : 0 < m) (he : Env w) (h3 : 310 < e) :
    Calls Tryz.prog 163 #[.string s] w fun e w' => e = .returned (.tuple #[.float .f64 9218868437227405312, .int .i64 n, .iface 129 (.int .i64 1)]) ∧ w = w' := by
  have h1 := he.opt
  have h2 := run_sfrom
  have b1 : ((m : Int) == 0) = false := by rw [beq_eq_false_iff_ne]; omega
  have b2 : bits .or .u64 0 9218868437227405312 = 9218868437227405312 := by decide
  go_enter Tryz.func163, Tryz.ntmps163
  go_wp2_with fail
  refine (hs _).mono ?_
  rintro e w' ⟨rfl, rfl⟩
  go_wp2_with fail
  refine (hr _).mono ?_
  rintro e w' ⟨rfl, rfl⟩
  go_wp2_with fail
  refine (bool2u_any _ _).mono ?_
  rintro e w' ⟨rfl, rfl⟩
  go_wp2_with fail
  go_ret3
  exact ⟨rfl, rfl⟩
end Go.Proofs.YtgdohmaljbggjaaGreatDoor
