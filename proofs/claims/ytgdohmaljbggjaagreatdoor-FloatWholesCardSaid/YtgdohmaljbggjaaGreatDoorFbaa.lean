/- The reference's digits: rows of bytes that are read; the contracts of trim and digit. The reference's sums of digits: the contract of plus. The reference's differences of digits, and their order: the contracts of minus and cmp. The reference's order of digits: the contract of cmp. The reference's large numbers out of digits: the contract of made. -/
import Derived.Test.YtgdohmaljbggjaaGreatDoorBaan
namespace Go.Proofs.YtgdohmaljbggjaaGreatDoor
open Go.RowKit Go.Lib
/-- A slice that reads as bytes. -/
def RdB (w : World) (v : Value) (l : List UInt8) : Prop :=
  (v = .slice none 0 0 ∧ l = []) ∨ ∃ b cap, v = .slice (some ⟨b, 0, none⟩) l.length cap ∧ l.length ≤ cap ∧ b < w.heap.size ∧ ∀ (j : Nat) (x : UInt8), l[j]? = some x → w.cell? ⟨b, j, none⟩ = some (.int .u8 x.toNat)
theorem RdB.below {w w' : World} {v : Value} {l : List UInt8} (h : RdB w v l) (hb : Below w.heap.size w w') : RdB w' v l := by
  rcases h with h | ⟨b, cap, h1, h2, h3, h4⟩
  · exact .inl h
  · exact .inr ⟨b, cap, h1, h2, Nat.lt_of_lt_of_le h3 hb.size, fun j x hx => by rw [hb.cell (p := ⟨b, j, none⟩) h3]; exact h4 j x hx⟩
theorem RdB.form {w : World} {v : Value} {l : List UInt8} (h : RdB w v l) : ∃ a c, v = .slice a l.length c := by
  rcases h with ⟨h1, h2⟩ | ⟨b, cap, h1, _⟩
  · exact ⟨none, 0, by rw [h1, h2]; rfl⟩
  · exact ⟨_, _, h1⟩
theorem RdB.cell {w : World} {a : Option Addr} {n c : Nat} {l : List UInt8} (h : RdB w (.slice a n c) l) {j : Nat} {x : UInt8} (hx : l[j]? = some x) : ∃ b, a = some ⟨b, 0, none⟩ ∧ b < w.heap.size ∧ w.cell? ⟨b, j, none⟩ = some (.int .u8 x.toNat) := by
  rcases h with ⟨_, h2⟩ | ⟨b, cap, h1, _, h3, h4⟩
  · rw [h2] at hx; cases hx
  · injection h1 with e1 _ _
    exact ⟨b, e1, h3, h4 j x hx⟩
theorem RdB.of_owns {w : World} {base n : Nat} {v : Value} {l : List UInt8} (h : Owns w base 5 1 v n (bc l)) : RdB w v l := by
  have hl := h.1
  rw [Nat.mul_one] at hl
  have hl' : l.length = n := by simpa [bc] using hl
  rcases h.2 with ⟨h1, h2⟩ | ⟨g, cap, cur, fz, h1, hb, hg, hfz, hnc, hcm, hcs, ht⟩
  · exact .inl ⟨h1, List.length_eq_zero_iff.1 (by omega)⟩
  · refine .inr ⟨g, cap, by rw [hl']; exact h1, by omega, (Array.getElem?_eq_some_iff.1 hg).1, fun j x hx => ?_⟩
    have := h.cells (g := g) (by rw [h1]; rfl) j (.int .u8 x.toNat) (by simp [bc, hx])
    have e : (⟨g, 0, none⟩ : Addr).add j = ⟨g, j, none⟩ := by unfold Addr.add; split <;> simp_all
    rw [e] at this
    exact this
def TrimB (w : World) (l : List UInt8) (e : Ending) (w' : World) : Prop := ∃ v', e = .returned v' ∧ RdB w v' (Pl.strip l) ∧ w = w'
/-- The same, and the row is the one that was handed in. -/
def TrimS (w : World) (v : Value) (l : List UInt8) (e : Ending) (w' : World) : Prop := ∃ v', e = .returned v' ∧ RdB w v' (Pl.strip l) ∧ w = w' ∧ v'.ownBlock = v.ownBlock
theorem u8_beq (c : UInt8) : ((c.toNat : Int) == 0) = (c == 0) := by
  rw [Bool.eq_iff_iff, beq_iff_eq, beq_iff_eq]
  constructor
  · intro h
    exact UInt8.toNat_inj.1 (by simp; omega)
  · intro h; subst h; rfl
set_option maxHeartbeats 1000000 in
theorem rtrim_same (v : Value) (l : List UInt8) (w : World) (h : RdB w v l) (hl : l.length ≤ 100000) : Calls Tryz.prog 154 #[v] w (TrimS w v l) := by
  rcases h with ⟨rfl, rfl⟩ | ⟨b, cap, rfl, h2, h3, h4⟩
  · go_enter Tryz.func154, Tryz.ntmps154
    go_wp2_with fail
    refine wp_loop_rounds 1 ?_
    rw [rounds_succ]
    go_wp2_with fail
    go_ret
    exact ⟨_, rfl, .inl ⟨rfl, rfl⟩, rfl, rfl⟩
  · have H4 := Lib.hid h4
    clear h4
    obtain ⟨n, hn⟩ : ∃ n, l.length = n := ⟨_, rfl⟩
    rw [hn] at h2 hl ⊢
    have HN := Lib.hid hn
    clear hn
    go_enter Tryz.func154, Tryz.ntmps154
    go_wp2_with fail
    go_loop [0] (fun s => ∃ k : Nat, k ≤ n ∧ s = .slice (some ⟨b, 0, none⟩) k cap ∧ Hid (Pl.strip (l.take k) = Pl.strip l)) (fun s => match s with | .slice _ k _ => k | _ => 0)
    case atStart => exact ⟨n, Nat.le_refl _, rfl, Lib.hid (by rw [List.take_of_length_le (by rw [HN.out]; exact Nat.le_refl _)])⟩
    case round =>
      obtain ⟨k, hk, rfl, hz⟩ := hrel
      cases k with
      | zero =>
        go_wp2_with fail
        go_ret
        exact ⟨_, rfl, .inr ⟨b, cap, by rw [← hz.out]; rfl, by rw [← hz.out]; simp [Pl.strip], h3, fun j x hx => by rw [← hz.out] at hx; simp [Pl.strip] at hx⟩, rfl, rfl⟩
      | succ k =>
        have hk2 : k < l.length := by rw [HN.out]; omega
        have hc := H4.out k l[k] (List.getElem?_eq_getElem hk2)
        have HT := Lib.hid (show l.take (k + 1) = l.take k ++ [l[k]] from List.take_succ_eq_append_getElem hk2)
        generalize l[k] = c at hc HT
        have hbq := u8_beq c
        by_cases h0 : c = 0
        · have b0 : ((c.toNat : Int) == 0) = true := by rw [hbq, h0]; rfl
          have HS := Lib.hid (show Pl.strip (l.take k) = Pl.strip l by rw [← hz.out, HT.out, h0, Pl.strip_snoc_zero])
          clear h0 HT hz hbq
          go_wp2_with fail
          go_round
          case rel => exact ⟨k, by omega, rfl, HS⟩
          case measure => simp
        · have b0 : ((c.toNat : Int) == 0) = false := by rw [hbq]; simpa using h0
          have HS := Lib.hid (show Pl.strip l = l.take (k + 1) by rw [← hz.out, HT.out, Pl.strip_snoc h0])
          clear h0 HT hz hbq
          go_wp2_with fail
          go_ret
          have hlen : (l.take (k + 1)).length = k + 1 := by rw [List.length_take, HN.out]; omega
          refine ⟨_, rfl, .inr ⟨b, cap, by rw [HS.out, hlen]; rfl, by rw [HS.out, hlen]; omega, h3, fun j x hx => ?_⟩, rfl, rfl⟩
          rw [HS.out] at hx
          rw [List.getElem?_take] at hx
          split at hx
          · exact H4.out j x hx
          · cases hx
theorem rtrim_any (v : Value) (l : List UInt8) (w : World) (h : RdB w v l) (hl : l.length ≤ 100000) : Calls Tryz.prog 154 #[v] w (TrimB w l) :=
  (rtrim_same v l w h hl).mono fun _ _ ⟨v', h1, h2, h3, _⟩ => ⟨v', h1, h2, h3⟩
/-- A digit; nought behind the last one. -/
def Pl.dig (l : List UInt8) (i : Nat) : Nat := (l.getD i 0).toNat
theorem rdigit_any (v : Value) (l : List UInt8) (i : Nat) (w : World) (h : RdB w v l) :
    Calls Tryz.prog 156 #[v, .int .i64 i] w fun e w' => e = .returned (.int .i64 (Pl.dig l i : Nat)) ∧ w = w' := by
  obtain ⟨a, c, rfl⟩ := h.form
  by_cases hlt : i < l.length
  · obtain ⟨b, rfl, _, hc⟩ := h.cell (List.getElem?_eq_getElem hlt)
    have HD := Lib.hid (show Pl.dig l i = l[i].toNat by unfold Pl.dig; rw [List.getD_eq_getElem?_getD, List.getElem?_eq_getElem hlt]; rfl)
    rw [HD.out]
    have hyl := UInt8.toNat_lt l[i]
    generalize l[i].toNat = y at *
    generalize l.length = n at *
    have hd : decide ((i : Int) < (n : Int)) = true := decide_eq_true (by omega)
    clear h HD
    go_enter Tryz.func156, Tryz.ntmps156
    go_wp2_with fail
    go_ret
    exact ⟨rfl, rfl⟩
  · have HD := Lib.hid (show Pl.dig l i = 0 by unfold Pl.dig; rw [List.getD_eq_getElem?_getD, List.getElem?_eq_none (by omega)]; rfl)
    rw [HD.out]
    generalize l.length = n at *
    have hd : decide ((i : Int) < (n : Int)) = false := decide_eq_false (by omega)
    clear h HD
    go_enter Tryz.func156, Tryz.ntmps156
    go_wp2_with fail
    go_ret
    exact ⟨rfl, rfl⟩
namespace Pl
theorem dig_lt (l : List UInt8) (i : Nat) : dig l i < 256 := by unfold dig; exact UInt8.toNat_lt _
theorem le_take_dig (l : List UInt8) (i : Nat) : le (l.take (i + 1)) = le (l.take i) + 256 ^ i * dig l i := by
  rcases Nat.lt_or_ge i l.length with h | h
  · rw [le_take_succ h]; unfold dig; rw [List.getD_eq_getElem?_getD, List.getElem?_eq_getElem h]; rfl
  · rw [List.take_of_length_le (by omega), List.take_of_length_le h]
    unfold dig
    rw [List.getD_eq_getElem?_getD, List.getElem?_eq_none h]
    simp
theorem le_snoc_u8 (l : List UInt8) (x : Nat) (h : x < 256) : le (l ++ [UInt8.ofNat x]) = le l + 256 ^ l.length * x := by
  rw [le_snoc]
  congr 2
  simp [UInt8.toNat_ofNat']
  omega
/-- One step of a sum of digits. -/
theorem plus_step {L A B a b c k : Nat} (h : L + 256 ^ k * c = A + B) : L + 256 ^ k * ((a + b + c) % 256) + 256 ^ (k + 1) * ((a + b + c) / 256) = A + 256 ^ k * a + (B + 256 ^ k * b) := by
  have e := Nat.div_add_mod (a + b + c) 256
  have e2 : 256 ^ k * ((a + b + c) % 256) + 256 ^ (k + 1) * ((a + b + c) / 256) = 256 ^ k * (a + b + c) := by
    rw [Nat.pow_succ, Nat.mul_assoc, ← Nat.mul_add, Nat.add_comm, e]
  rw [Nat.add_assoc, e2, Nat.mul_add, Nat.mul_add]
  omega
end Pl
end Go.Proofs.YtgdohmaljbggjaaGreatDoor
namespace Go.Proofs.YtgdohmaljbggjaaGreatDoor
open Go.RowKit Go.Lib
/-- What a call that makes digits answers. -/
def DigOk (w : World) (V : Nat) (e : Ending) (w' : World) : Prop := ∃ v', e = .returned v' ∧ RdB w' v' (Pl.dgs V) ∧ Below w.heap.size w w'
/-- The same, of a new row. -/
def DigF (w : World) (V : Nat) (e : Ending) (w' : World) : Prop := ∃ v', e = .returned v' ∧ RdB w' v' (Pl.dgs V) ∧ Below w.heap.size w w' ∧ ∀ k, v'.ownBlock = some k → w.heap.size ≤ k
theorem strip_dgs {l : List UInt8} {V : Nat} (h : Pl.le l = V) : Pl.strip l = Pl.dgs V := Pl.le_inj (Pl.canon_strip l) (Pl.canon_dgs V) (by rw [Pl.le_strip, h, Pl.le_dgs])
theorem bc_one {r : Nat} (h : r < 256) : bc [UInt8.ofNat r] = [.int .u8 (r : Int)] := by
  have e : (UInt8.ofNat r).toNat = r := by simp [UInt8.toNat_ofNat']; omega
  simp only [bc, List.map_cons, List.map_nil, e]
set_option maxRecDepth 4000 in
set_option maxHeartbeats 2000000 in
theorem rplus_fresh (va vb : Value) (a b : List UInt8) (w : World) (ha : RdB w va a) (hb : RdB w vb b) (hla : a.length ≤ 20000) (hlb : b.length ≤ 20000) :
    Calls Tryz.prog 153 #[va, vb] w (DigF w (Pl.le a + Pl.le b)) := by
  obtain ⟨n, hn⟩ : ∃ n, max a.length b.length = n := ⟨_, rfl⟩
  have hn2 : n ≤ 20000 := by omega
  have HDA := Lib.hid (fun (wr : World) (i : Nat) (h : Below w.heap.size w wr) => rdigit_any va a i wr (ha.below h))
  have HDB := Lib.hid (fun (wr : World) (i : Nat) (h : Below w.heap.size w wr) => rdigit_any vb b i wr (hb.below h))
  obtain ⟨aa, ac, rfl⟩ := ha.form
  obtain ⟨ba, bc', rfl⟩ := hb.form
  have hmx : max (a.length : Int) (b.length : Int) = (n : Int) := by omega
  have HTA := Lib.hid (show a.take (n + 1) = a from List.take_of_length_le (by omega))
  have HTB := Lib.hid (show b.take (n + 1) = b from List.take_of_length_le (by omega))
  have HLA := Lib.hid (show Pl.le a < 256 ^ n from Nat.lt_of_lt_of_le (Pl.le_lt a) (Nat.pow_le_pow_right (by decide) (by omega)))
  have HLB := Lib.hid (show Pl.le b < 256 ^ n from Nat.lt_of_lt_of_le (Pl.le_lt b) (Nat.pow_le_pow_right (by decide) (by omega)))
  clear hn ha hb
  generalize a.length = la at *
  generalize b.length = lb at *
  go_enter Tryz.func153, Tryz.ntmps153
  go_wp2_with fail
  go_loopw [5, 6, 7] (fun s c i wr => ∃ (k cy : Nat) (out : List UInt8), k ≤ n + 1 ∧ i = .int .i64 k ∧ c = .int .i64 cy ∧ cy ≤ 1 ∧ out.length = k ∧ Hid (Pl.le out + 256 ^ k * cy = Pl.le (a.take k) + Pl.le (b.take k)) ∧ Owns wr w.heap.size 5 1 s k (bc out) ∧ Below w.heap.size w wr) (fun _ _ i _ => n + 1 - (RowKit.intOf i).toNat)
  case atStart => exact ⟨0, 0, [], Nat.zero_le _, rfl, rfl, by omega, rfl, Lib.hid (by simp [Pl.le]), Owns.nil _ _ _ _, Below.refl _ _⟩
  case round =>
    obtain ⟨k, cy, out, hk, rfl, rfl, hcy, hol, hval, ho, hB⟩ := hrel
    have HO := Lib.hid ho
    have HB := Lib.hid hB
    have HOL := Lib.hid hol
    obtain ⟨a1, c1, rfl⟩ := ho.form
    clear ho hB hol
    by_cases hlt : k ≤ n
    · have D1 := Lib.hid (HDA.out wr k HB.out)
      have D2 := Lib.hid (HDB.out wr k HB.out)
      have HV := Lib.hid (Pl.plus_step (a := Pl.dig a k) (b := Pl.dig b k) hval.out)
      have hx1 := Pl.dig_lt a k
      have hx2 := Pl.dig_lt b k
      rw [← Pl.le_take_dig, ← Pl.le_take_dig] at HV
      generalize Pl.dig a k = x at *
      generalize Pl.dig b k = y at *
      obtain ⟨q, hq⟩ : ∃ q, (x + y + cy) / 256 = q := ⟨_, rfl⟩
      obtain ⟨r, hr⟩ : ∃ r, (x + y + cy) % 256 = r := ⟨_, rfl⟩
      rw [hq, hr] at HV
      have hr' : ((x : Int) + y + cy) % 256 = (r : Int) := by omega
      have hq' : ((x : Int) + y + cy) / 256 = (q : Int) := by omega
      have hrl : r < 256 := by omega
      have hql : q ≤ 1 := by omega
      clear hq hr hval
      go_wp2_with fail
      refine D1.out.mono ?_
      rintro e w' ⟨rfl, rfl⟩
      go_wp2_with fail
      refine D2.out.mono ?_
      rintro e w' ⟨rfl, rfl⟩
      have hbs := HB.out.size
      go_wp2_with (at_builtin; refine wpList_app rfl (.tmp 27) (.tmp 31) rfl w.heap.size _ _ _ rfl HO.out [.int .u8 (r : Int)] rfl (ones (news := [(r : Int)])) (by simp only [List.length_cons, List.length_nil]; omega) (by omega) ?_)
      intro v2 w2 ho2 hg2
      have HO2 := Lib.hid ho2
      have HG2 := Lib.hid hg2
      obtain ⟨a2, c2, rfl⟩ := ho2.form
      clear ho2 hg2
      go_wp2_with fail
      go_roundw
      case rel =>
        refine ⟨k + 1, q, out ++ [UInt8.ofNat r], by omega, by go_num, by go_num, hql, by rw [List.length_append, HOL.out]; rfl, Lib.hid ?_, ?_, HG2.out.below HB.out hbs (fun g hg => (HO.out.lt g hg).1)⟩
        · rw [Pl.le_snoc_u8 _ _ hrl, HOL.out]; exact HV.out
        · have h2 := HO2.out
          rw [bc_app, bc_one hrl]
          exact h2
      case measure => simp [RowKit.intOf]; omega
    · obtain rfl : k = n + 1 := by omega
      rw [HTA.out, HTB.out] at hval
      have hv : Pl.le out = Pl.le a + Pl.le b := by
        have h1 := hval.out
        have h2 := HLA.out
        have h3 := HLB.out
        rw [Nat.pow_succ] at h1
        rcases Nat.eq_zero_or_pos cy with h0 | h0
        · subst h0; omega
        · have : 256 ^ n * 256 * 1 ≤ 256 ^ n * 256 * cy := Nat.mul_le_mul_left _ h0
          omega
      have HT := Lib.hid (rtrim_same _ out wr (RdB.of_owns HO.out) (by rw [HOL.out]; omega))
      have HS := Lib.hid (strip_dgs hv)
      clear hv hval
      go_wp2_with fail
      refine HT.out.mono ?_
      rintro e w' ⟨v', rfl, hr, rfl, hob⟩
      have HR := Lib.hid hr
      have HOB := Lib.hid hob
      obtain ⟨a2, c2, rfl⟩ := hr.form
      clear hr hob
      go_wp2_with fail
      go_ret
      exact ⟨_, rfl, by rw [← HS.out]; exact HR.out, HB.out, fun k hk => (HO.out.lt k (by rw [← HOB.out]; exact hk)).1⟩
theorem rplus_any (va vb : Value) (a b : List UInt8) (w : World) (ha : RdB w va a) (hb : RdB w vb b) (hla : a.length ≤ 20000) (hlb : b.length ≤ 20000) :
    Calls Tryz.prog 153 #[va, vb] w (DigOk w (Pl.le a + Pl.le b)) :=
  (rplus_fresh va vb a b w ha hb hla hlb).mono fun _ _ ⟨v', h1, h2, h3, _⟩ => ⟨v', h1, h2, h3⟩
end Go.Proofs.YtgdohmaljbggjaaGreatDoor
namespace Go.Proofs.YtgdohmaljbggjaaGreatDoor
open Go.RowKit Go.Lib
namespace Pl
/-- One step of a difference of digits. -/
theorem minus_step {L A B x y c r c' k : Nat} (h : L + B = A + 256 ^ k * c) (e : r + y + c = x + 256 * c') : L + 256 ^ k * r + (B + 256 ^ k * y) = A + 256 ^ k * x + 256 ^ (k + 1) * c' := by
  have e2 : 256 ^ k * (r + y + c) = 256 ^ k * (x + 256 * c') := by rw [e]
  rw [Nat.mul_add, Nat.mul_add, Nat.mul_add, ← Nat.mul_assoc, ← Nat.pow_succ] at e2
  have : 256 ^ k.succ * c' = 256 ^ (k + 1) * c' := rfl
  omega
theorem le_take_all {a b : List UInt8} (h : le b ≤ le a) : le (b.take a.length) = le b := by
  rcases Nat.lt_or_ge a.length b.length with hl | hl
  · have e := le_append (b.take a.length) (b.drop a.length)
    rw [List.take_append_drop, List.length_take, Nat.min_eq_left (by omega)] at e
    have h1 := le_lt a
    rcases Nat.eq_zero_or_pos (le (b.drop a.length)) with h0 | h0
    · rw [h0] at e; omega
    · have : 256 ^ a.length * 1 ≤ 256 ^ a.length * le (b.drop a.length) := Nat.mul_le_mul_left _ h0
      omega
  · rw [List.take_of_length_le hl]
end Pl
set_option maxRecDepth 4000 in
set_option maxHeartbeats 2000000 in
theorem rminus_fresh (va vb : Value) (a b : List UInt8) (w : World) (ha : RdB w va a) (hb : RdB w vb b) (hla : a.length ≤ 20000) (hle : Pl.le b ≤ Pl.le a) :
    Calls Tryz.prog 155 #[va, vb] w (DigF w (Pl.le a - Pl.le b)) := by
  have HDA := Lib.hid (fun (wr : World) (i : Nat) (h : Below w.heap.size w wr) => rdigit_any va a i wr (ha.below h))
  have HDB := Lib.hid (fun (wr : World) (i : Nat) (h : Below w.heap.size w wr) => rdigit_any vb b i wr (hb.below h))
  obtain ⟨aa, ac, rfl⟩ := ha.form
  obtain ⟨ba, bc', rfl⟩ := hb.form
  have HTB := Lib.hid (Pl.le_take_all hle)
  obtain ⟨n, hn⟩ : ∃ n, a.length = n := ⟨_, rfl⟩
  have HTA := Lib.hid (show a.take n = a from List.take_of_length_le (by omega))
  have HLE := Lib.hid hle
  rw [hn] at HTB hla HDA ⊢
  clear hn ha hb hle
  generalize b.length = lb at *
  go_enter Tryz.func155, Tryz.ntmps155
  go_wp2_with fail
  go_loopw [5, 6, 7] (fun s c i wr => ∃ (k cy : Nat) (out : List UInt8), k ≤ n ∧ i = .int .i64 k ∧ c = .int .i64 cy ∧ cy ≤ 1 ∧ out.length = k ∧ Hid (Pl.le out + Pl.le (b.take k) = Pl.le (a.take k) + 256 ^ k * cy) ∧ Owns wr w.heap.size 5 1 s k (bc out) ∧ Below w.heap.size w wr) (fun _ _ i _ => n - (RowKit.intOf i).toNat)
  case atStart => exact ⟨0, 0, [], Nat.zero_le _, rfl, rfl, by omega, rfl, Lib.hid (by simp [Pl.le]), Owns.nil _ _ _ _, Below.refl _ _⟩
  case round =>
    obtain ⟨k, cy, out, hk, rfl, rfl, hcy, hol, hval, ho, hB⟩ := hrel
    have HO := Lib.hid ho
    have HB := Lib.hid hB
    have HOL := Lib.hid hol
    obtain ⟨a1, c1, rfl⟩ := ho.form
    clear ho hB hol
    by_cases hlt : k < n
    · have D1 := Lib.hid (HDA.out wr k HB.out)
      have D2 := Lib.hid (HDB.out wr k HB.out)
      obtain ⟨r, c2', hr, hrl, hcl, hcase⟩ : ∃ r c2' : Nat, r + Pl.dig b k + cy = Pl.dig a k + 256 * c2' ∧ r < 256 ∧ c2' ≤ 1 ∧ ((c2' = 1 ∧ (Pl.dig a k : Int) - Pl.dig b k - cy < 0) ∨ (c2' = 0 ∧ 0 ≤ (Pl.dig a k : Int) - Pl.dig b k - cy)) := by
        have hx1 := Pl.dig_lt a k
        have hx2 := Pl.dig_lt b k
        by_cases h : (Pl.dig a k : Int) - Pl.dig b k - cy < 0
        · exact ⟨(Pl.dig a k + 256) - Pl.dig b k - cy, 1, by omega, by omega, by omega, .inl ⟨rfl, h⟩⟩
        · exact ⟨Pl.dig a k - Pl.dig b k - cy, 0, by omega, by omega, by omega, .inr ⟨rfl, by omega⟩⟩
      have HV := Lib.hid (Pl.minus_step hval.out hr)
      rw [← Pl.le_take_dig, ← Pl.le_take_dig] at HV
      have hx1 := Pl.dig_lt a k
      have hx2 := Pl.dig_lt b k
      generalize Pl.dig a k = x at *
      generalize Pl.dig b k = y at *
      clear hval
      have hbs := HB.out.size
      rcases hcase with ⟨rfl, hs⟩ | ⟨rfl, hs⟩
      · have hr' : (x : Int) - y - cy + 256 = (r : Int) := by omega
        go_wp2_with fail
        refine D1.out.mono ?_
        rintro e w' ⟨rfl, rfl⟩
        go_wp2_with fail
        refine D2.out.mono ?_
        rintro e w' ⟨rfl, rfl⟩
        go_wp2_with (at_builtin; refine wpList_app rfl (.tmp 28) (.tmp 31) rfl w.heap.size _ _ _ rfl HO.out [.int .u8 (r : Int)] rfl (ones (news := [(r : Int)])) (by simp only [List.length_cons, List.length_nil]; omega) (by omega) ?_)
        intro v2 w2 ho2 hg2
        have HO2 := Lib.hid ho2
        have HG2 := Lib.hid hg2
        obtain ⟨a2, c2, rfl⟩ := ho2.form
        clear ho2 hg2
        go_wp2_with fail
        go_roundw
        case rel =>
          refine ⟨k + 1, 1, out ++ [UInt8.ofNat r], by omega, by go_num, by go_num, by omega, by rw [List.length_append, HOL.out]; rfl, Lib.hid ?_, ?_, HG2.out.below HB.out hbs (fun g hg => (HO.out.lt g hg).1)⟩
          · rw [Pl.le_snoc_u8 _ _ hrl, HOL.out]; exact HV.out
          · have h2 := HO2.out
            rw [bc_app, bc_one hrl]
            exact h2
        case measure => simp [RowKit.intOf]; omega
      · have hr' : (x : Int) - y - cy = (r : Int) := by omega
        go_wp2_with fail
        refine D1.out.mono ?_
        rintro e w' ⟨rfl, rfl⟩
        go_wp2_with fail
        refine D2.out.mono ?_
        rintro e w' ⟨rfl, rfl⟩
        go_wp2_with (at_builtin; refine wpList_app rfl (.tmp 28) (.tmp 31) rfl w.heap.size _ _ _ rfl HO.out [.int .u8 (r : Int)] rfl (ones (news := [(r : Int)])) (by simp only [List.length_cons, List.length_nil]; omega) (by omega) ?_)
        intro v2 w2 ho2 hg2
        have HO2 := Lib.hid ho2
        have HG2 := Lib.hid hg2
        obtain ⟨a2, c2, rfl⟩ := ho2.form
        clear ho2 hg2
        go_wp2_with fail
        go_roundw
        case rel =>
          refine ⟨k + 1, 0, out ++ [UInt8.ofNat r], by omega, by go_num, by go_num, by omega, by rw [List.length_append, HOL.out]; rfl, Lib.hid ?_, ?_, HG2.out.below HB.out hbs (fun g hg => (HO.out.lt g hg).1)⟩
          · rw [Pl.le_snoc_u8 _ _ hrl, HOL.out]; exact HV.out
          · have h2 := HO2.out
            rw [bc_app, bc_one hrl]
            exact h2
        case measure => simp [RowKit.intOf]; omega
    · obtain rfl : k = n := by omega
      rw [HTA.out, HTB.out] at hval
      have hv : Pl.le out = Pl.le a - Pl.le b := by
        have h1 := hval.out
        have h2 := Pl.le_lt out
        have h3 := HLE.out
        rw [HOL.out] at h2
        rcases Nat.eq_zero_or_pos cy with h0 | h0
        · subst h0; omega
        · have : 256 ^ k * 1 ≤ 256 ^ k * cy := Nat.mul_le_mul_left _ h0
          omega
      have HT := Lib.hid (rtrim_same _ out wr (RdB.of_owns HO.out) (by rw [HOL.out]; omega))
      have HS := Lib.hid (strip_dgs hv)
      clear hv hval
      go_wp2_with fail
      refine HT.out.mono ?_
      rintro e w' ⟨v', rfl, hr, rfl, hob⟩
      have HR := Lib.hid hr
      have HOB := Lib.hid hob
      obtain ⟨a2, c2, rfl⟩ := hr.form
      clear hr hob
      go_wp2_with fail
      go_ret
      exact ⟨_, rfl, by rw [← HS.out]; exact HR.out, HB.out, fun k hk => (HO.out.lt k (by rw [← HOB.out]; exact hk)).1⟩
theorem rminus_any (va vb : Value) (a b : List UInt8) (w : World) (ha : RdB w va a) (hb : RdB w vb b) (hla : a.length ≤ 20000) (hle : Pl.le b ≤ Pl.le a) :
    Calls Tryz.prog 155 #[va, vb] w (DigOk w (Pl.le a - Pl.le b)) :=
  (rminus_fresh va vb a b w ha hb hla hle).mono fun _ _ ⟨v', h1, h2, h3, _⟩ => ⟨v', h1, h2, h3⟩
end Go.Proofs.YtgdohmaljbggjaaGreatDoor
namespace Go.Proofs.YtgdohmaljbggjaaGreatDoor
open Go.RowKit Go.Lib
namespace Pl
theorem le_take_lt (l : List UInt8) (k : Nat) : le (l.take k) < 256 ^ k := Nat.lt_of_lt_of_le (le_lt _) (Nat.pow_le_pow_right (by decide) (by rw [List.length_take]; omega))
theorem dig_less {a b : List UInt8} {k : Nat} (h : le a + le (b.take (k + 1)) = le b + le (a.take (k + 1))) (hx : dig a k < dig b k) : le a < le b := by
  rw [le_take_dig, le_take_dig] at h
  have h1 := le_take_lt a k
  have h2 : 256 ^ k * (dig a k + 1) ≤ 256 ^ k * dig b k := Nat.mul_le_mul_left _ hx
  rw [Nat.mul_add, Nat.mul_one] at h2
  omega
theorem dig_same {a b : List UInt8} {k : Nat} (h : le a + le (b.take (k + 1)) = le b + le (a.take (k + 1))) (hx : dig a k = dig b k) : le a + le (b.take k) = le b + le (a.take k) := by
  rw [le_take_dig, le_take_dig, hx] at h
  omega
/-- The order of two numbers, as an integer. -/
def ord (x y : Nat) : Int := if x < y then -1 else if y < x then 1 else 0
end Pl
set_option maxRecDepth 4000 in
set_option maxHeartbeats 2000000 in
theorem rcmp_any (va vb : Value) (a b : List UInt8) (w : World) (ha : RdB w va a) (hb : RdB w vb b) (hla : a.length ≤ 20000) (hlb : b.length ≤ 20000) :
    Calls Tryz.prog 125 #[va, vb] w fun e w' => e = .returned (.int .i64 (Pl.ord (Pl.le a) (Pl.le b))) ∧ w = w' := by
  obtain ⟨n, hn⟩ : ∃ n, max a.length b.length = n := ⟨_, rfl⟩
  have hn2 : n ≤ 20000 := by omega
  have HDA := Lib.hid (fun (i : Nat) => rdigit_any va a i w ha)
  have HDB := Lib.hid (fun (i : Nat) => rdigit_any vb b i w hb)
  obtain ⟨aa, ac, rfl⟩ := ha.form
  obtain ⟨ba, bc', rfl⟩ := hb.form
  have hmx : max (a.length : Int) (b.length : Int) = (n : Int) := by omega
  have HTA := Lib.hid (show a.take n = a from List.take_of_length_le (by omega))
  have HTB := Lib.hid (show b.take n = b from List.take_of_length_le (by omega))
  clear hn ha hb
  generalize a.length = la at *
  generalize b.length = lb at *
  go_enter Tryz.func125, Tryz.ntmps125
  go_wp2_with fail
  go_loop [5] (fun i => ∃ k : Nat, k ≤ n ∧ i = .int .i64 ((k : Int) - 1) ∧ Hid (Pl.le a + Pl.le (b.take k) = Pl.le b + Pl.le (a.take k))) (fun i => ((RowKit.intOf i) + 1).toNat)
  case atStart => exact ⟨n, Nat.le_refl _, by go_num, Lib.hid (by rw [HTA.out, HTB.out, Nat.add_comm])⟩
  case round =>
    obtain ⟨k, hk, rfl, hval⟩ := hrel
    cases k with
    | zero =>
      have HR := Lib.hid (show Pl.ord (Pl.le a) (Pl.le b) = 0 by
        have h1 := hval.out
        simp [Pl.le] at h1
        unfold Pl.ord
        rw [if_neg (by omega), if_neg (by omega)])
      clear hval
      go_wp2_with fail
      go_ret
      exact ⟨ret_int (by rw [HR.out]), rfl⟩
    | succ k =>
      have D1 := Lib.hid (HDA.out k)
      have D2 := Lib.hid (HDB.out k)
      have hkk : ((k + 1 : Nat) : Int) - 1 = (k : Int) := by omega
      rw [hkk]
      have hx1 := Pl.dig_lt a k
      have hx2 := Pl.dig_lt b k
      have HC : Hid ((Pl.dig a k < Pl.dig b k ∧ Pl.ord (Pl.le a) (Pl.le b) = -1) ∨ (Pl.dig b k < Pl.dig a k ∧ Pl.ord (Pl.le a) (Pl.le b) = 1) ∨ (Pl.dig a k = Pl.dig b k ∧ Pl.le a + Pl.le (b.take k) = Pl.le b + Pl.le (a.take k))) := Lib.hid (by
        rcases Nat.lt_trichotomy (Pl.dig a k) (Pl.dig b k) with h | h | h
        · refine .inl ⟨h, ?_⟩
          unfold Pl.ord
          rw [if_pos (Pl.dig_less hval.out h)]
        · exact .inr (.inr ⟨h, Pl.dig_same hval.out h⟩)
        · refine .inr (.inl ⟨h, ?_⟩)
          have := Pl.dig_less (a := b) (b := a) hval.out.symm h
          unfold Pl.ord
          rw [if_neg (by omega), if_pos this])
      generalize Pl.dig a k = x at *
      generalize Pl.dig b k = y at *
      clear hval
      rcases HC.out with ⟨h, hr⟩ | ⟨h, hr⟩ | ⟨h, hr⟩
      · have HR := Lib.hid hr
        have hd : decide ((x : Int) < y) = true := decide_eq_true (by omega)
        clear hr HC
        go_wp2_with fail
        refine D1.out.mono ?_
        rintro e w' ⟨rfl, rfl⟩
        go_wp2_with fail
        refine D2.out.mono ?_
        rintro e w' ⟨rfl, rfl⟩
        go_wp2_with fail
        go_ret
        exact ⟨ret_int (by rw [HR.out]), rfl⟩
      · have HR := Lib.hid hr
        have hd : decide ((x : Int) < y) = false := decide_eq_false (by omega)
        have hd2 : decide ((y : Int) < x) = true := decide_eq_true (by omega)
        clear hr HC
        go_wp2_with fail
        refine D1.out.mono ?_
        rintro e w' ⟨rfl, rfl⟩
        go_wp2_with fail
        refine D2.out.mono ?_
        rintro e w' ⟨rfl, rfl⟩
        go_wp2_with fail
        go_ret
        exact ⟨ret_int (by rw [HR.out]), rfl⟩
      · have HR := Lib.hid hr
        subst h
        clear hr HC
        go_wp2_with fail
        refine D1.out.mono ?_
        rintro e w' ⟨rfl, rfl⟩
        go_wp2_with fail
        refine D2.out.mono ?_
        rintro e w' ⟨rfl, rfl⟩
        go_wp2_with fail
        go_round
        case rel => exact ⟨k, by omega, by go_num, HR⟩
        case measure => simp [RowKit.intOf]
end Go.Proofs.YtgdohmaljbggjaaGreatDoor
namespace Go.Proofs.YtgdohmaljbggjaaGreatDoor
open Go.RowKit Go.Lib
/-- 'string(b)' of a row that is read. -/
theorem run_string_of_rdb {w : World} {v : Value} {l : List UInt8} (h : RdB w v l) : (convert 103 9 v).run Tryz.prog w = .ok (.string ⟨l.toArray⟩) w := by
  rcases h with ⟨rfl, rfl⟩ | ⟨b, cap, rfl, h2, h3, h4⟩
  · rw [run_convert_bytes_string w 103 9 5 none 0 0 Tryz.underlying103 Tryz.underlying5 Tryz.underlying9]
    simp [Conv.bytesToString, Sem.run_pure]
    rfl
  · rw [run_convert_bytes_string w 103 9 5 _ l.length cap Tryz.underlying103 Tryz.underlying5 Tryz.underlying9]
    have hload : (loadCells ⟨b, 0, none⟩ l.length).run Tryz.prog w = .ok ((l.map fun b => (b.toNat : Int)).map (Value.int .u8)).toArray w := by
      have h5 := run_loadCells_list (P := Tryz.prog) w ⟨b, 0, none⟩ (l.map fun b => Value.int .u8 b.toNat) (fun j u hu => by
        have e : (⟨b, 0, none⟩ : Addr).add j = ⟨b, j, none⟩ := by unfold Addr.add; split <;> simp_all
        rw [e]
        rw [List.getElem?_map] at hu
        obtain ⟨x, hx, rfl⟩ := Option.map_eq_some_iff.1 hu
        exact h4 j x hx)
      rw [List.length_map] at h5
      rw [h5, List.map_map]
      rfl
    rw [run_bytesToString w ⟨b, 0, none⟩ l.length cap _ hload, foldl_push]
    simp
set_option maxRecDepth 4000 in
set_option maxHeartbeats 2000000 in
theorem rmade_any (v : Value) (l : List UInt8) (neg : Bool) (w : World) (h : RdB w v l) (hl : l.length ≤ 100000) (hV : Pl.le l < 256 ^ 4096) :
    Calls Tryz.prog 119 #[v, .bool neg] w fun e w' => e = .returned (.tuple #[lv (neg && !decide (Pl.le l = 0)) (Pl.dgs (Pl.le l)), .int .i64 0]) ∧ Below w.heap.size w w' := by
  have HT := Lib.hid (fun (W : World) (hB : Below w.heap.size w W) => rtrim_any v l W (h.below hB) hl)
  have HS := Lib.hid (strip_dgs (l := l) rfl)
  have HLN := Lib.hid (Pl.dgs_len hV)
  have HE := Lib.hid (Pl.dgs_empty (Pl.le l))
  obtain ⟨va, vc, rfl⟩ := h.form
  generalize Pl.dgs (Pl.le l) = D at *
  generalize decide (Pl.le l = 0) = z at *
  clear h hV
  unfold lv
  go_enter Tryz.func119, Tryz.ntmps119
  go_wp2_with fail
  refine (HT.out _ ((Below.refl _ _).alloc (Nat.le_refl _) _)).mono ?_
  rintro e w' ⟨v', rfl, hr, rfl⟩
  rw [HS.out] at hr
  have hst := run_string_of_rdb hr
  obtain ⟨a2, c2, rfl⟩ := hr.form
  have hl2 := HLN.out
  have hz : z = decide (D.length = 0) := by
    rw [← HE.out]
    cases D <;> rfl
  have hd : decide (4096 < (D.length : Int)) = false := decide_eq_false (by omega)
  have HD : Hid (bs D = ⟨D.toArray⟩) := Lib.hid rfl
  have HZ := Lib.hid hz
  clear hr hz
  cases neg
  · go_wp2_with fail
    have hh : (w.alloc (.cells #[.bool false, .string ⟨D.toArray⟩] 42)).heap[w.heap.size]? = some (.cells #[.bool false, .string ⟨D.toArray⟩] 42) := heap_alloc_at _ _
    have hB : Below w.heap.size w (w.alloc (.cells #[.bool false, .string ⟨D.toArray⟩] 42)) := (Below.refl _ _).alloc (Nat.le_refl _) _
    generalize w.alloc (.cells #[.bool false, .string ⟨D.toArray⟩] 42) = w1 at hh hB ⊢
    have c0 : w1.cell? ⟨w.heap.size, 0, none⟩ = some (.bool false) := by simp [World.cell?, hh]
    have c1 : w1.cell? ⟨w.heap.size, 1, none⟩ = some (.string ⟨D.toArray⟩) := by simp [World.cell?, hh]
    exact bodyPost_ret (v := .tuple #[.agg #[.bool false, .string ⟨D.toArray⟩], .int .i64 0]) (by simp [results, Tryz.results119, go_sem, c0, c1]) rfl ⟨rfl, hB⟩
  · go_wp2_with fail
    obtain ⟨y, hy⟩ : ∃ y, decide (0 < D.length) = y := ⟨_, rfl⟩
    have HY := Lib.hid (show (!z) = y by rw [HZ.out, ← hy]; cases D <;> simp)
    rw [hy]
    have hh : (w.alloc (.cells #[.bool y, .string ⟨D.toArray⟩] 42)).heap[w.heap.size]? = some (.cells #[.bool y, .string ⟨D.toArray⟩] 42) := heap_alloc_at _ _
    have hB : Below w.heap.size w (w.alloc (.cells #[.bool y, .string ⟨D.toArray⟩] 42)) := (Below.refl _ _).alloc (Nat.le_refl _) _
    generalize w.alloc (.cells #[.bool y, .string ⟨D.toArray⟩] 42) = w1 at hh hB ⊢
    have c0 : w1.cell? ⟨w.heap.size, 0, none⟩ = some (.bool y) := by simp [World.cell?, hh]
    have c1 : w1.cell? ⟨w.heap.size, 1, none⟩ = some (.string ⟨D.toArray⟩) := by simp [World.cell?, hh]
    exact bodyPost_ret (v := .tuple #[.agg #[.bool y, .string ⟨D.toArray⟩], .int .i64 0]) (by simp [results, Tryz.results119, go_sem, c0, c1]) rfl ⟨by rw [Bool.true_and, HY.out], hB⟩
end Go.Proofs.YtgdohmaljbggjaaGreatDoor
