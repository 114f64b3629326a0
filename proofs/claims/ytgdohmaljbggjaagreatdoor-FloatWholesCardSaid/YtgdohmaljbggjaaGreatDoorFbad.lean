/- The reference's quotients of digits: the contract of divide. The reference's quotients: the contract of Quo. -/
import Derived.Test.YtgdohmaljbggjaaGreatDoorFbac
import Derived.IntWalk
import Derived.Deep.RegionHeld3
namespace Go.Proofs.YtgdohmaljbggjaaGreatDoor
open Go.RowKit Go.Lib
namespace Pl
theorem le_cons (c : UInt8) (l : List UInt8) : le (c :: l) = c.toNat + 256 * le l := rfl
theorem strip_cons_dgs (c : UInt8) (R : Nat) : strip (c :: dgs R) = dgs (c.toNat + 256 * R) := strip_dgs (by rw [le_cons, le_dgs])
theorem le_drop (l : List UInt8) (i : Nat) (h : i < l.length) : le (l.drop i) = l[i].toNat + 256 * le (l.drop (i + 1)) := by
  rw [List.drop_eq_getElem_cons h, le_cons]
/-- The bit steps of a digit of a quotient. -/
theorem bit_yes {T n k B R : Nat} (h : T = n * 2 ^ (k + 1) * B + R) (hr : R < 2 ^ (k + 1) * B) (hy : 2 ^ k * B ≤ R) : T = (2 * n + 1) * 2 ^ k * B + (R - 2 ^ k * B) ∧ R - 2 ^ k * B < 2 ^ k * B := by
  have e1 : n * 2 ^ (k + 1) * B = 2 * n * (2 ^ k * B) := by rw [Nat.pow_succ]; ac_rfl
  have e2 : 2 ^ (k + 1) * B = 2 * (2 ^ k * B) := by rw [Nat.pow_succ]; ac_rfl
  have e3 : (2 * n + 1) * 2 ^ k * B = 2 * n * (2 ^ k * B) + 2 ^ k * B := by rw [Nat.add_mul, Nat.add_mul, Nat.one_mul, Nat.mul_assoc (2 * n)]
  rw [e1] at h; rw [e2] at hr; rw [e3]
  omega
theorem bit_no {T n k B R : Nat} (h : T = n * 2 ^ (k + 1) * B + R) (hn : R < 2 ^ k * B) : T = (2 * n) * 2 ^ k * B + R ∧ R < 2 ^ k * B := by
  have e1 : n * 2 ^ (k + 1) * B = 2 * n * 2 ^ k * B := by rw [Nat.pow_succ]; ac_rfl
  exact ⟨by rw [← e1]; exact h, hn⟩
theorem quo_of {A B Q R : Nat} (h : A = Q * B + R) (hr : R < B) : A / B = Q ∧ A % B = R := by
  subst h
  constructor
  · rw [Nat.mul_comm, Nat.mul_add_div (by omega), Nat.div_eq_of_lt hr, Nat.add_zero]
  · rw [Nat.mul_comm, Nat.mul_add_mod, Nat.mod_eq_of_lt hr]
theorem nb_pow (B k : Nat) (hk : k < 8) (h : nb B ≤ 30000) : nb (B * 2 ^ k) ≤ 30008 := by have := nb_shift B k; omega
end Pl
theorem RdB.nil (w : World) : RdB w (.slice none 0 0) [] := .inl ⟨rfl, rfl⟩
/-- A value that lies in neither of two blocks. -/
def Off (g h : Nat) (v : Value) : Prop := ∀ k, v.ownBlock = some k → k ≠ g ∧ k ≠ h
theorem RdB.set {w : World} {v : Value} {l : List UInt8} (h : RdB w v l) (g j : Nat) (x : Value) (ho : ∀ k, v.ownBlock = some k → k ≠ g) : RdB (w.setCell ⟨g, j, none⟩ x) v l := by
  rcases h with h | ⟨b, cap, h1, h2, h3, h4⟩
  · exact .inl h
  · refine .inr ⟨b, cap, h1, h2, by simp only [World.setCell, Array.size_modify]; exact h3, fun i y hy => ?_⟩
    have hne : b ≠ g := ho b (by rw [h1]; rfl)
    rw [World.cell?_setCell_other _ _ _ _ (by intro e; injection e with e _; exact hne e.symm)]
    exact h4 i y hy
theorem RdB.drewN {w : World} {v : Value} {l : List UInt8} (h : RdB w v l) (n : Nat) : RdB (w.drewN n) v l := h.below ((Below.refl _ _).drewN n)
/-- The eight shifted divisors. -/
def Many (g h B : Nat) (K : Nat) (w : World) : Prop := ∀ j, j < K → ∃ v l, w.cell? ⟨h, j, none⟩ = some v ∧ RdB w v l ∧ Pl.le l = 2 ^ j * B ∧ l.length ≤ 4096 ∧ Off g h v
theorem Many.below {g h B K : Nat} {w w' : World} (hm : Many g h B K w) (hb : Below w.heap.size w w') (hg : h < w.heap.size) : Many g h B K w' := fun j hj => by
  obtain ⟨v, l, h1, h2, h3, h4, h5⟩ := hm j hj
  exact ⟨v, l, by rw [hb.cell (p := ⟨h, j, none⟩) hg]; exact h1, h2.below hb, h3, h4, h5⟩
theorem Many.setq {g h B K : Nat} {w : World} (hm : Many g h B K w) (hgh : g ≠ h) (i : Nat) (x : Value) : Many g h B K (w.setCell ⟨g, i, none⟩ x) := fun j hj => by
  obtain ⟨v, l, h1, h2, h3, h4, h5⟩ := hm j hj
  refine ⟨v, l, ?_, h2.set g i x (fun k hk => (h5 k hk).1), h3, h4, h5⟩
  rw [World.cell?_setCell_other _ _ _ _ (by intro e; injection e with e _; exact hgh e)]
  exact h1
/-- One more. -/
theorem Many.more {g h B K : Nat} {w : World} (hm : Many g h B K w) {v0 : Value} (hc : w.cell? ⟨h, K, none⟩ = some v0) {v : Value} {l : List UInt8} (hr : RdB w v l) (hl : Pl.le l = 2 ^ K * B) (hn : l.length ≤ 4096) (ho : Off g h v) : Many g h B (K + 1) (w.setCell ⟨h, K, none⟩ v) := fun j hj => by
  by_cases e : j = K
  · subst e
    exact ⟨v, l, World.cell?_setCell_same _ _ _ hc, hr.set h j v (fun k hk => (ho k hk).2), hl, hn, ho⟩
  · obtain ⟨v1, l1, h1, h2, h3, h4, h5⟩ := hm j (by omega)
    refine ⟨v1, l1, ?_, h2.set h K v (fun k hk => (h5 k hk).2), h3, h4, h5⟩
    rw [World.cell?_setCell_other _ _ _ _ (by intro e2; injection e2 with _ e2; exact e e2.symm)]
    exact h1
theorem Owns.one (w : World) (d : Int) : Owns (w.alloc (.cells #[.int .u8 d] 5)) w.heap.size 5 1 (.slice (some ⟨w.heap.size, 0, none⟩) 1 1) 1 [.int .u8 d] :=
  ⟨rfl, .inr ⟨w.heap.size, 1, #[.int .u8 d], (0, 0), rfl, Nat.le_refl _, heap_alloc_at _ _, .inl (Nat.le_refl _), Nat.le_refl _, by unfold maxLen; omega, rfl, rfl⟩⟩
/-- 'append(v, x...)' where x is read. -/
theorem wpList_app_rdb {ops : Array Oper} {rest : List Oper} {o : Oper} {a : Act} {Q : Exit → Act → World → Prop} {w : World} (hgd : o.guard = none) (s x : Operand)
    (ho : o.op = .call { callee := .builtin .append, args := #[s, x], argTypes := #[103, 103] }) (base : Nat) (v : Value) (n : Nat) (xs : List Value) (hs : a.eval s = v) (hown : Owns w base 5 1 v n xs)
    (vx : Value) (l : List UInt8) (hx : a.eval x = vx) (hr : RdB w vx l) (hlen : n + l.length ≤ 1000000) (hbase : base ≤ w.heap.size)
    (h : ∀ v' w', Owns w' base 5 1 v' (n + l.length) (xs ++ bc l) → Grow w v w' v' → wpList Tryz.prog ops Q rest (a.put o.dst v') w') : wpList Tryz.prog ops Q (o :: rest) a w := by
  obtain ⟨i0, hi, hz0, hz1, hz2⟩ := info_parts info5
  rcases hr with ⟨rfl, rfl⟩ | ⟨b, cap, rfl, h2, h3, h4⟩
  · refine wpList_plain hgd fun K hK => ?_
    have hrun : (Builtin.append_ #[103, 103] o.type #[v, .slice none 0 0]).run Tryz.prog w = .ok v w := by
      rcases hown.2 with ⟨rfl, rfl⟩ | ⟨g, cap, cur, fz, rfl, hbg, hg, hfz, hnc, hcm, hcs, htake⟩
      · simp [Builtin.append_, run_underlying Tryz.underlying103, sizeOf, typeInfo, hi, Builtin.lenOf, Builtin.firstCells]
      · simp [Builtin.append_, run_underlying Tryz.underlying103, sizeOf, typeInfo, hi, Builtin.lenOf, Builtin.firstCells, loadCells, hnc, storeCells]
    unfold Oper.wp execOp
    simp only [ho, resolve, invoke, builtin, Sem.run_bind, Sem.run_pure, Result.andThen_ok, List.map_toArray, List.map_cons, List.map_nil, hs, hx, hrun]
    have h9 := h v w (by simpa [bc] using hown) (Grow.refl w v)
    exact hK _ _ h9
  · refine wpList_append_owns hgd s x 103 ho base 5 i0 (.int .u8 0) 1 1 Tryz.underlying103 hi hz0 hz1 hz2 rfl v n xs hs hown ⟨b, 0, none⟩ l.length cap (bc l) hx (by simp [bc]) ?_ ?_ (by unfold maxLen; omega) (by omega) hbase h
    · intro j u hj
      unfold bc at hj
      rw [List.getElem?_map] at hj
      obtain ⟨y, hy, rfl⟩ := Option.map_eq_some_iff.1 hj
      have e : (⟨b, 0, none⟩ : Addr).add j = ⟨b, j, none⟩ := by unfold Addr.add; split <;> simp_all
      rw [e]
      exact h4 j y hy
    · intro u hu
      unfold bc at hu
      obtain ⟨y, _, rfl⟩ := List.mem_map.1 hu
      rfl
/-- What divide answers. -/
def DivOk (w : World) (A B : Nat) (e : Ending) (w' : World) : Prop := ∃ vq vr, e = .returned (.tuple #[vq, vr]) ∧ RdB w' vq (Pl.dgs (A / B)) ∧ RdB w' vr (Pl.dgs (A % B)) ∧ Below w.heap.size w w'
set_option maxRecDepth 4000 in
set_option maxHeartbeats 16000000 in
theorem rdivide_any (va vb : Value) (a b : List UInt8) (w : World) (ha : RdB w va a) (hb : RdB w vb b) (hla : a.length ≤ 4096) (hlb : b.length ≤ 4096) (hB : 0 < Pl.le b) (hnb : Pl.nb (Pl.le b) ≤ 30000) :
    Calls Tryz.prog 118 #[va, vb] w (DivOk w (Pl.le a) (Pl.le b)) := by
  obtain ⟨i0, hi, hz0, hz1, hz2⟩ := info_parts info5
  have HRA := Lib.hid ha
  have HRB := Lib.hid hb
  obtain ⟨aa, ac, rfl⟩ := ha.form
  obtain ⟨ba, bc', rfl⟩ := hb.form
  obtain ⟨la, hla'⟩ : ∃ la, a.length = la := ⟨_, rfl⟩
  rw [hla'] at hla HRA ⊢
  have HLA := Lib.hid hla'
  obtain ⟨lb, hlb'⟩ : ∃ lb, b.length = lb := ⟨_, rfl⟩
  rw [hlb'] at hlb HRB ⊢
  have HLB := Lib.hid hlb'
  obtain ⟨B, hBd⟩ : ∃ B, Pl.le b = B := ⟨_, rfl⟩
  rw [hBd] at hB hnb ⊢
  have HBD := Lib.hid hBd
  have HNB := Lib.hid hnb
  have HBP := Lib.hid hB
  clear ha hb hla' hlb' hBd hnb hB
  go_enter Tryz.func118, Tryz.ntmps118
  go_wp2_with (at_make; refine wpList_make_full _ rfl _ _ 103 rfl w.heap.size 5 i0 (.int .u8 0) 1 Tryz.underlying103 hi hz0 hz1 .i64 .i64 _ _ la rfl rfl (by omega) (by omega) (by rw [hz2]; omega) (by unfold maxLen; omega) (by simp) ?_)
  intro w1 ho1 hg1
  obtain ⟨g, hgd⟩ : ∃ g, w.heap.size = g := ⟨_, rfl⟩
  rw [hgd] at ho1 ⊢
  have hrow : w1.heap[g]? = some (.cells (bc (List.replicate la 0)).toArray 5) := by
    have := row_full ho1
    rw [made_bytes] at this
    exact this
  have HB1 := Lib.hid (show Below g w w1 from (Below.refl _ _).grown hg1 (by omega) (fun k hk => by cases hk))
  have HROW := Lib.hid hrow
  have HGD := Lib.hid hgd
  have hgh := (Array.getElem?_eq_some_iff.1 hrow).1
  clear ho1 hg1 hi hz0 hz1 hz2 hrow hgd
  go_wp2_with fail
  obtain ⟨h, hhd⟩ : ∃ h, w1.heap.size = h := ⟨_, rfl⟩
  have hrow2 := heap_alloc_at w1 (.cells #[.slice ba lb bc', .slice none 0 0, .slice none 0 0, .slice none 0 0, .slice none 0 0, .slice none 0 0, .slice none 0 0, .slice none 0 0] 148)
  have hb2 : Below w1.heap.size w1 (w1.alloc (.cells #[.slice ba lb bc', .slice none 0 0, .slice none 0 0, .slice none 0 0, .slice none 0 0, .slice none 0 0, .slice none 0 0, .slice none 0 0] 148)) := (Below.refl _ _).alloc (Nat.le_refl _) _
  rw [hhd] at hrow2 hb2 hgh ⊢
  have hsz2 := (Array.getElem?_eq_some_iff.1 hrow2).1
  generalize w1.alloc (.cells #[.slice ba lb bc', .slice none 0 0, .slice none 0 0, .slice none 0 0, .slice none 0 0, .slice none 0 0, .slice none 0 0, .slice none 0 0] 148) = W2 at hrow2 hb2 hsz2 ⊢
  have HC0 := Lib.hid (show ∀ i, 0 < i → i < 8 → W2.cell? ⟨h, i, none⟩ = some (.slice none 0 0) from fun i h1 h2 => by
    rcases (show i = 1 ∨ i = 2 ∨ i = 3 ∨ i = 4 ∨ i = 5 ∨ i = 6 ∨ i = 7 by omega) with rfl | rfl | rfl | rfl | rfl | rfl | rfl <;> simp [World.cell?, hrow2])
  have HF0 := Lib.hid (show ∀ i, i < 8 → W2.frozen? ⟨h, i, none⟩ = false from fun i h2 => by simp [World.frozen?, hrow2])
  have HB2 := Lib.hid (show Below g w W2 from HB1.out.trans (hb2.mono (by omega)))
  have HR0 := Lib.hid (show W2.heap[g]? = some (.cells (bc (List.replicate la 0)).toArray 5) by rw [hb2.block _ hgh]; exact HROW.out)
  have HM0 := Lib.hid (show Many g h B 1 W2 from fun j hj => by
    obtain rfl : j = 0 := by omega
    refine ⟨.slice ba lb bc', b, by simp [World.cell?, hrow2], ?_, by rw [HBD.out]; simp, by rw [HLB.out]; exact hlb, fun k hk => ?_⟩
    · have := HRB.out.below (w' := W2) (by rw [HGD.out]; exact HB2.out)
      rw [← HLB.out] at this ⊢; exact this
    · have hk2 : k < w.heap.size := by
        rcases HRB.out with ⟨h1, _⟩ | ⟨b1, cap, h1, _, h3, _⟩
        · rw [h1] at hk; cases hk
        · rw [h1] at hk
          have e : b1 = k := by simpa [Value.ownBlock] using hk
          omega
      rw [HGD.out] at hk2
      omega)
  have HNB2 := Lib.hid (fun j (hj : j < 8) => Pl.nb_pow B j hj HNB.out)
  have HGH := Lib.hid hgh
  clear hrow2 hb2 hhd
  go_loopw [8] (fun s wr => ∃ j : Nat, j ≤ 7 ∧ s = .int .i64 ((j : Int) + 1) ∧ Hid (Many g h B (j + 1) wr) ∧ Hid (∀ i, j < i → i < 8 → wr.cell? ⟨h, i, none⟩ = some (.slice none 0 0)) ∧ Hid (∀ i, i < 8 → wr.frozen? ⟨h, i, none⟩ = false) ∧ Hid (wr.heap[g]? = some (.cells (bc (List.replicate la 0)).toArray 5)) ∧ Hid (Below g w wr) ∧ h < wr.heap.size) (fun s _ => 8 - (RowKit.intOf s).toNat)
  case atStart => exact ⟨0, by omega, rfl, HM0, HC0, HF0, HR0, HB2, hsz2⟩
  case round =>
    obtain ⟨j, hj, rfl, HM, HC, HF, HR, HB, hsz⟩ := hrel
    by_cases hlt : j < 7
    · obtain ⟨v, l, hcv, hrv, hlv, hnv, hov⟩ := HM.out j (by omega)
      obtain ⟨av, cv, rfl⟩ := hrv.form
      have hcn := HC.out (j + 1) (by omega) (by omega)
      have hfn := HF.out (j + 1) (by omega)
      have HRV := Lib.hid hrv
      have HPL := Lib.hid (fun W (hr : RdB W (.slice av l.length cv) l) => rplus_fresh _ _ _ _ W hr hr (by omega) (by omega))
      rw [hlv] at HPL
      have HDL := Lib.hid (show (Pl.dgs (2 ^ j * B + 2 ^ j * B)).length ≤ 4096 from Pl.dgs_len (Pl.nb_good (by
        have e : 2 ^ j * B + 2 ^ j * B = B * 2 ^ (j + 1) := by rw [Nat.pow_succ, Nat.mul_comm B, Nat.mul_right_comm, Nat.mul_two]
        rw [e]; have := HNB2.out (j + 1) (by omega); omega)))
      have hd1 : decide ((j : Int) + 1 < 8) = true := decide_eq_true (by omega)
      have hw1 : IntKind.i64.wrap (j : Int) = j := IntWalk.i64_in _ (by omega)
      have hw2 : ((j : Int) + 1).toNat = j + 1 := by omega
      have hw3 : (0 : Int) ≤ (j : Int) + 1 := by omega
      have hw4 : (j : Int) + 1 < 8 := by omega
      have hw5 : (j : Int) < 8 := by omega
      have BD := Lib.hid (show Below wr.heap.size wr wr.drew from (Below.refl _ _).drew)
      have hne5 : (⟨h, j + 1, none⟩ : Addr) ≠ ⟨h, j, none⟩ := by intro e; injection e with _ e; omega
      clear hrv hlv
      go_wp2_with fail
      go_region_held3 (fun W => W.cell? ⟨h, j, none⟩ = some (.slice av l.length cv)) (first | exact hcv | exact hk4 | (rw [World.cell?_setCell_other _ _ _ _ hne5]; exact hk4)) ((go_at_call 153; refine (HPL.out _ (by first | exact HRV.out.below BD.out | exact HRV.out)).mono ?_; rintro e w4 ⟨v4, rfl, hv4, hb4, hfr⟩; have hB4 : Below wr.heap.size wr w4 := (by first | exact BD.out.trans (hb4.mono BD.out.size) | exact hb4); obtain ⟨a4, c4, rfl⟩ := hv4.form; have HV4 := Lib.hid hv4; have hc4 : w4.cell? ⟨h, j + 1, none⟩ = some (.slice none 0 0) := (by rw [hB4.cell (p := ⟨h, j + 1, none⟩) hsz]; exact hcn); have hk4 : w4.cell? ⟨h, j, none⟩ = some (.slice av l.length cv) := (by rw [hB4.cell (p := ⟨h, j, none⟩) hsz]; exact hcv); have hf4 : w4.frozen? ⟨h, j + 1, none⟩ = false := (by rw [hB4.frozen (p := ⟨h, j + 1, none⟩) hsz]; exact hfn); have HFR := Lib.hid hfr; clear hv4 hb4 hfr))
      all_goals
        have HM5 := Lib.hid ((HM.out.below hB4 hsz).more hc4 HV4.out (by rw [Pl.le_dgs, Nat.pow_succ, Nat.mul_right_comm, Nat.mul_two]) HDL.out (fun k hk => by have h9 : wr.heap.size ≤ k := HFR.out k hk; have := HGH.out; omega))
        have HC5 := Lib.hid (show ∀ i, j + 1 < i → i < 8 → (w4.setCell ⟨h, j + 1, none⟩ (.slice a4 (Pl.dgs (2 ^ j * B + 2 ^ j * B)).length c4)).cell? ⟨h, i, none⟩ = some (.slice none 0 0) from fun i h1 h2 => by
          rw [World.cell?_setCell_other _ _ _ _ (by intro e; injection e with _ e; omega), hB4.cell (p := ⟨h, i, none⟩) hsz]
          exact HC.out i (by omega) h2)
        have HF5 := Lib.hid (show ∀ i, i < 8 → (w4.setCell ⟨h, j + 1, none⟩ (.slice a4 (Pl.dgs (2 ^ j * B + 2 ^ j * B)).length c4)).frozen? ⟨h, i, none⟩ = false from fun i h2 => by
          rw [World.frozen?_setCell, hB4.frozen (p := ⟨h, i, none⟩) hsz]
          exact HF.out i h2)
        have HR5 := Lib.hid (show (w4.setCell ⟨h, j + 1, none⟩ (.slice a4 (Pl.dgs (2 ^ j * B + 2 ^ j * B)).length c4)).heap[g]? = some (.cells (bc (List.replicate la 0)).toArray 5) by
          have hgh := HGH.out
          simp only [World.setCell, Array.getElem?_modify]
          rw [if_neg (by omega), hB4.block _ (by omega)]
          exact HR.out)
        have HB5 := Lib.hid (show Below g w (w4.setCell ⟨h, j + 1, none⟩ (.slice a4 (Pl.dgs (2 ^ j * B + 2 ^ j * B)).length c4)) from (HB.out.trans (hB4.mono (by have := HGH.out; omega))).setCell (p := ⟨h, j + 1, none⟩) (by have := HGH.out; show g ≤ h; omega) _)
        have hs5 : h < (w4.setCell ⟨h, j + 1, none⟩ (.slice a4 (Pl.dgs (2 ^ j * B + 2 ^ j * B)).length c4)).heap.size := by simp only [World.setCell, Array.size_modify]; have := hB4.size; omega
        clear hc4 hk4 hf4 hB4 HFR HV4 hcv hcn hfn hne5 HM HC HF HR HB
        generalize w4.setCell ⟨h, j + 1, none⟩ (.slice a4 (Pl.dgs (2 ^ j * B + 2 ^ j * B)).length c4) = w5 at *
        go_wp2_with fail
        go_roundw
        case rel => exact ⟨j + 1, by omega, by go_num, HM5, HC5, HF5, HR5, HB5, hs5⟩
        case measure => simp [RowKit.intOf]; omega
    · obtain rfl : j = 7 := by omega
      rw [show ((7 : Nat) : Int) + 1 = 8 from rfl]
      clear HC HF HC0 HF0 HM0 HR0 HB2 hsz2
      go_wp2_with fail
      have HD0 := Lib.hid (show Pl.dgs 0 = [] from by have := Pl.dgs_empty 0; simpa using this)
      have HWS := Lib.hid hsz
      have HBS := Lib.hid HB.out
      go_loopw [9, 10] (fun r s wr => ∃ (i R : Nat) (q : List UInt8), i ≤ la ∧ s = .int .i64 ((i : Int) - 1) ∧ Hid (q.length = la) ∧ Hid (Pl.le (a.drop i) = Pl.le (q.drop i) * B + R ∧ R < B) ∧ Hid (RdB wr r (Pl.dgs R)) ∧ Hid (Off g h r) ∧ Hid (Many g h B 8 wr) ∧ Hid (wr.heap[g]? = some (.cells (bc q).toArray 5)) ∧ Hid (Below g w wr) ∧ h < wr.heap.size) (fun _ s _ => ((RowKit.intOf s) + 1).toNat)
      case atStart => exact ⟨la, 0, List.replicate la 0, Nat.le_refl _, by go_num, Lib.hid (by simp), Lib.hid ⟨by rw [List.drop_of_length_le (by rw [HLA.out]; exact Nat.le_refl _), List.drop_of_length_le (by simp)]; simp [Pl.le], HBP.out⟩, Lib.hid (by rw [HD0.out]; exact RdB.nil _), Lib.hid (fun k hk => by cases hk), HM, HR, HB, hsz⟩
      case round =>
        clear HM HR HB hsz HWS HBS
        obtain ⟨i, R, q, hil, rfl, HQL, hval, HRR, HOR, HM, HQ, HB, hsz⟩ := hrel
        obtain ⟨ar, cr, rfl⟩ := HRR.out.form
        cases i with
        | zero =>
          have hb0 : decide (0 ≤ ((0 : Nat) : Int) - 1) = false := by decide
          have HRQ := Lib.hid (show RdB wr (.slice (some ⟨g, 0, none⟩) la la) q from .inr ⟨g, la, by rw [HQL.out], by rw [HQL.out]; exact Nat.le_refl _, by have := HGH.out; omega, fun j x hx => by simp [World.cell?, HQ.out, bc, hx]⟩)
          have HT := Lib.hid (rtrim_any _ q wr HRQ.out (by rw [HQL.out]; omega))
          have HAB := Lib.hid (show Pl.le a / B = Pl.le q ∧ Pl.le a % B = R from by
            have h1 := hval.out
            simp only [List.drop_zero] at h1
            exact Pl.quo_of h1.1 h1.2)
          have HS := Lib.hid (strip_dgs (l := q) rfl)
          clear hval
          go_wp2_with fail
          refine HT.out.mono ?_
          rintro e w' ⟨v', rfl, hr, rfl⟩
          have HRT := Lib.hid hr
          obtain ⟨a2, c2, rfl⟩ := hr.form
          clear hr
          go_wp2_with fail
          go_ret2
          refine ⟨_, _, rfl, ?_, ?_, by rw [HGD.out]; exact HB.out⟩
          · rw [HAB.out.1, ← HS.out]; exact HRT.out
          · rw [HAB.out.2]; exact HRR.out
        | succ i =>
          have hia : i < a.length := by rw [HLA.out]; omega
          obtain ⟨b0, rfl, hb0, hca0⟩ := HRA.out.cell (List.getElem?_eq_getElem hia)
          have hkk : ((i + 1 : Nat) : Int) - 1 = (i : Int) := by omega
          rw [hkk]
          have hca : wr.cell? ⟨b0, i, none⟩ = some (.int .u8 (a[i].toNat : Int)) := by
            rw [HB.out.cell (p := ⟨b0, i, none⟩) (by rw [← HGD.out]; exact hb0)]; exact hca0
          have HAD := Lib.hid (Pl.le_drop a i hia)
          obtain ⟨c, hc⟩ : ∃ c, a[i] = c := ⟨_, rfl⟩
          rw [hc] at hca HAD
          have hcl := UInt8.toNat_lt c
          have hdl : (Pl.dgs R).length ≤ 4096 := Pl.dgs_len (Pl.nb_good (by
            have := Pl.nb_mono (Nat.le_of_lt hval.out.2); have := HNB.out; omega))
          have hb1 : decide (0 ≤ (i : Int)) = true := decide_eq_true (by omega)
          have hi1 : (i : Int) < la := by omega
          clear hc hca0 hkk hia
          go_wp2_with (at_builtin; refine wpList_app_rdb rfl (.tmp 44) (.tmp 45) rfl wr.heap.size _ _ _ rfl (Owns.one wr (c.toNat : Int)) _ _ rfl (HRR.out.below ((Below.refl _ _).alloc (Nat.le_refl _) _)) (by omega) (by simp) ?_)
          intro v2 w2 ho2 hg2
          have HRS := Lib.hid (show RdB w2 v2 (c :: Pl.dgs R) from RdB.of_owns ho2)
          have HLT := Lib.hid ho2.lt
          have HB2 := Lib.hid (show Below wr.heap.size wr w2 from hg2.below ((Below.refl _ _).alloc (Nat.le_refl _) _) (by simp) (fun k hk => by have : wr.heap.size = k := (by simpa [Value.ownBlock] using hk); omega))
          have HT := Lib.hid (rtrim_same v2 _ w2 HRS.out (by simp only [List.length_cons]; omega))
          obtain ⟨a2, c2, rfl⟩ := ho2.form
          clear ho2 hg2
          go_wp2_with fail
          refine HT.out.mono ?_
          rintro e w3 ⟨v3, rfl, hr3, rfl, hob⟩
          obtain ⟨T, hT⟩ : ∃ T, c.toNat + 256 * R = T := ⟨_, rfl⟩
          rw [Pl.strip_cons_dgs, hT] at hr3
          have HR3 := Lib.hid hr3
          have HO3 := Lib.hid (show Off g h v3 from fun k hk => by rw [hob] at hk; have h9 := (HLT.out k hk).1; have := HGH.out; omega)
          obtain ⟨a3, c3, rfl⟩ := hr3.form
          clear hr3 hob HRS HT HLT hca
          have HM2 := Lib.hid (HM.out.below HB2.out hsz)
          have HQ2 := Lib.hid (show w2.heap[g]? = some (.cells (bc q).toArray 5) by rw [HB2.out.block _ (by have := HGH.out; omega)]; exact HQ.out)
          have HBW := Lib.hid (show Below g w w2 from HB.out.trans (HB2.out.mono (by have := HGH.out; omega)))
          have hs2 : h < w2.heap.size := by have := HB2.out.size; omega
          have hTB : T < 2 ^ 8 * B := by have := hval.out.2; have e : (2 : Nat) ^ 8 * B = 256 * B := rfl; omega
          have HTE := Lib.hid hT
          have HTB := Lib.hid hTB
          have HSB := Lib.hid (show Below w2.heap.size w2 w2 from Below.refl _ _)
          have HS2 := Lib.hid hs2
          obtain ⟨wz, hwz⟩ : ∃ wz, w2 = wz := ⟨_, rfl⟩
          have HSC : Hid (Below wz.heap.size wz w2) := Lib.hid (by rw [hwz]; exact Below.refl _ _)
          rw [hwz] at HM2 HQ2 HBW HS2
          clear hT hTB HM HQ HB HB2 HRR HOR hsz hs2 HSB hwz
          go_wp2_with fail
          go_loopw [9, 11, 12] (fun r n s wx => ∃ (k nn R2 : Nat), k ≤ 8 ∧ s = .int .i64 ((k : Int) - 1) ∧ n = .int .i64 nn ∧ nn ≤ 255 ∧ Hid (T = nn * 2 ^ k * B + R2 ∧ R2 < 2 ^ k * B) ∧ Hid (RdB wx r (Pl.dgs R2)) ∧ Hid (Off g h r) ∧ Hid (Below wz.heap.size wz wx)) (fun _ _ s _ => ((RowKit.intOf s) + 1).toNat)
          case atStart => exact ⟨8, 0, T, by omega, rfl, rfl, by omega, Lib.hid ⟨by simp, HTB.out⟩, HR3, HO3, HSC⟩
          case round =>
            clear HR3 HO3 HSC
            obtain ⟨k, nn, R2, hk, rfl, rfl, hnn, hv2, HR2, HO2, HBX⟩ := hrel
            obtain ⟨a5, c5, rfl⟩ := HR2.out.form
            cases k with
            | zero =>
              have hb2 : decide (0 ≤ ((0 : Nat) : Int) - 1) = false := by decide
              have hQX : wr.heap[g]? = some (.cells (bc q).toArray 5) := by rw [HBX.out.block _ (by have := HGH.out; have := HS2.out; omega)]; exact HQ2.out
              have hiq : i < q.length := by rw [HQL.out]; omega
              obtain ⟨yq, hcq⟩ : ∃ yq, wr.cell? ⟨g, i, none⟩ = some (.int .u8 yq) := ⟨(q[i].toNat : Int), by simp [World.cell?, hQX, bc, hiq]⟩
              have hfq : wr.frozen? ⟨g, i, none⟩ = false := by simp [World.frozen?, hQX]
              have hnm : (nn : Int) % 256 = (nn : Int) := by omega
              have HXN := Lib.hid (show (UInt8.ofNat nn).toNat = nn by simp [UInt8.toNat_ofNat']; omega)
              have HQN := Lib.hid (show (wr.setCell ⟨g, i, none⟩ (.int .u8 (nn : Int))).heap[g]? = some (.cells (bc (q.set i (UInt8.ofNat nn))).toArray 5) by
                simp only [World.setCell, Array.getElem?_modify, if_pos, hQX]
                simp [bc, List.map_set, HXN.out])
              have HVN := Lib.hid (show Pl.le (a.drop i) = Pl.le ((q.set i (UInt8.ofNat nn)).drop i) * B + R2 ∧ R2 < B by
                have h1 := hv2.out
                rw [Nat.pow_zero, Nat.mul_one, Nat.one_mul] at h1
                refine ⟨?_, h1.2⟩
                have e1 : Pl.le ((q.set i (UInt8.ofNat nn)).drop i) = nn + 256 * Pl.le (q.drop (i + 1)) := by
                  rw [Pl.le_drop _ i (by rw [List.length_set]; exact hiq), List.getElem_set_self, HXN.out, List.drop_set_of_lt (by omega)]
                rw [HAD.out, hval.out.1, e1, Nat.mul_add, Nat.add_mul]
                have h2 := h1.1
                rw [← HTE.out] at h2
                have e2 : 256 * (Pl.le (q.drop (i + 1)) * B) = 256 * Pl.le (q.drop (i + 1)) * B := by rw [Nat.mul_assoc]
                omega)
              have HRN := Lib.hid (HR2.out.set g i (.int .u8 (nn : Int)) (fun k hk => (HO2.out k hk).1))
              have HMN := Lib.hid ((HM2.out.below HBX.out HS2.out).setq (by have := HGH.out; omega) i (.int .u8 (nn : Int)))
              have HBN := Lib.hid (show Below g w (wr.setCell ⟨g, i, none⟩ (.int .u8 (nn : Int))) from (HBW.out.trans (HBX.out.mono (by have := HGH.out; have := HS2.out; omega))).setCell (p := ⟨g, i, none⟩) (Nat.le_refl g) _)
              have hsn : h < (wr.setCell ⟨g, i, none⟩ (.int .u8 (nn : Int))).heap.size := by simp only [World.setCell, Array.size_modify]; have := HBX.out.size; have := HS2.out; omega
              have HQLN := Lib.hid (show (q.set i (UInt8.ofNat nn)).length = la by rw [List.length_set]; exact HQL.out)
              clear hQX hiq hval hv2
              go_wp2_with fail
              go_roundw
              case rel => exact ⟨i, R2, q.set i (UInt8.ofNat nn), by omega, by go_num, HQLN, HVN, HRN, HO2, HMN, HQN, HBN, hsn⟩
              case measure => simp [RowKit.intOf]
            | succ k =>
              have hkk : ((k + 1 : Nat) : Int) - 1 = (k : Int) := by omega
              rw [hkk]
              obtain ⟨v, l, hcv, hrv, hlv, hnv, hov⟩ := (HM2.out.below HBX.out HS2.out) k (by omega)
              obtain ⟨a6, c6, rfl⟩ := hrv.form
              have HRL := Lib.hid hrv
              have hk8 : k < 8 := by omega
              have hk8I : (k : Int) < 8 := by omega
              have hb2 : decide (0 ≤ (k : Int)) = true := decide_eq_true (by omega)
              have HLR := Lib.hid (show (Pl.dgs R2).length ≤ 4096 from Pl.dgs_len (Pl.nb_good (by
                have h1 := Pl.nb_mono (Nat.le_of_lt hv2.out.2)
                have h2 := Pl.nb_shift B (k + 1)
                rw [Nat.mul_comm] at h1
                have := HNB.out; omega)))
              have HCM := Lib.hid (rcmp_any _ _ _ _ wr HR2.out HRL.out (by have := HLR.out; omega) (by omega))
              rw [Pl.le_dgs, hlv] at HCM
              have hn2 : nn * 2 ^ (k + 1) < 256 := by
                have h1 := hv2.out.1
                have h2 := HTB.out
                refine Nat.lt_of_mul_lt_mul_right (a := B) ?_
                have e : (2 : Nat) ^ 8 * B = 256 * B := rfl
                omega
              have hn3 : nn ≤ 127 := by
                have h3 : nn * 2 ≤ nn * 2 ^ (k + 1) := Nat.mul_le_mul_left _ (by rw [Nat.pow_succ]; have := Nat.two_pow_pos k; omega)
                omega
              by_cases hy : 2 ^ k * B ≤ R2
              · have hb3 : decide (0 ≤ Pl.ord R2 (2 ^ k * B)) = true := by unfold Pl.ord; rw [if_neg (by omega)]; split <;> rfl
                have HMI := Lib.hid (rminus_fresh _ _ _ _ wr HR2.out HRL.out (by have := HLR.out; omega) (by rw [Pl.le_dgs, hlv]; exact hy))
                rw [Pl.le_dgs, hlv] at HMI
                have HV2 := Lib.hid (Pl.bit_yes hv2.out.1 hv2.out.2 hy)
                obtain ⟨P, hP⟩ : ∃ P, 2 ^ k * B = P := ⟨_, rfl⟩
                rw [hP] at HMI HCM hb3
                have HPH := Lib.hid hP
                generalize Pl.ord R2 P = od at *
                clear hP hy hlv hrv hv2 hn2 hkk
                go_wp2_with fail
                refine HCM.out.mono ?_
                rintro e w4 ⟨rfl, rfl⟩
                go_wp2_with fail
                refine HMI.out.mono ?_
                rintro e w4 ⟨v4, rfl, hv4, hb4, hfr⟩
                have HO4 := Lib.hid (show Off g h v4 from fun k hk => by have h9 := hfr k hk; have := HGH.out; have := HS2.out; have := HBX.out.size; omega)
                have HB4 := Lib.hid (HBX.out.trans (hb4.mono HBX.out.size))
                have HV4 := Lib.hid hv4
                obtain ⟨a7, c7, rfl⟩ := hv4.form
                clear hv4 hb4 hfr hcv
                go_wp2_with fail
                go_roundw
                case rel =>
                  refine ⟨k, 2 * nn + 1, _, by omega, by go_num, by go_num, by omega, Lib.hid HV2.out, ?_, HO4, HB4⟩
                  rw [HPH.out]
                  exact HV4
                case measure => simp [RowKit.intOf]
              · have hb3 : decide (0 ≤ Pl.ord R2 (2 ^ k * B)) = false := by unfold Pl.ord; rw [if_pos (by omega)]; rfl
                have HV2 := Lib.hid (Pl.bit_no hv2.out.1 (show R2 < 2 ^ k * B by omega))
                obtain ⟨P, hP⟩ : ∃ P, 2 ^ k * B = P := ⟨_, rfl⟩
                rw [hP] at HCM hb3
                generalize Pl.ord R2 P = od at *
                clear hP hy hlv hrv hv2 hn2 hkk
                go_wp2_with fail
                refine HCM.out.mono ?_
                rintro e w4 ⟨rfl, rfl⟩
                go_wp2_with fail
                go_roundw
                case rel => exact ⟨k, 2 * nn, R2, by omega, by go_num, by go_num, by omega, HV2, HR2, HO2, HBX⟩
                case measure => simp [RowKit.intOf]
end Go.Proofs.YtgdohmaljbggjaaGreatDoor
namespace Go.Proofs.YtgdohmaljbggjaaGreatDoor
open Go.RowKit Go.Lib
theorem tdiv_sign (x y : Int) : x.tdiv y = if (decide (x < 0) != decide (y < 0)) then -((x.natAbs / y.natAbs : Nat) : Int) else (x.natAbs / y.natAbs : Nat) := by
  obtain ⟨a, rfl | rfl⟩ := Int.eq_nat_or_neg x <;> obtain ⟨b, rfl | rfl⟩ := Int.eq_nat_or_neg y
  all_goals simp only [Int.neg_tdiv, Int.tdiv_neg, Int.natAbs_neg, Int.natAbs_natCast, Int.ofNat_tdiv, Int.neg_neg]
  · rw [decide_eq_false (by omega), decide_eq_false (by omega)]; rfl
  · by_cases h : b = 0
    · subst h; simp
    · rw [decide_eq_false (by omega), decide_eq_true (by omega)]; rfl
  · by_cases h : a = 0
    · subst h; simp
    · rw [decide_eq_true (by omega), decide_eq_false (by omega)]; rfl
  · by_cases h : a = 0
    · subst h; simp
    · by_cases h2 : b = 0
      · subst h2; simp
      · rw [decide_eq_true (by omega), decide_eq_true (by omega)]; rfl
theorem tmod_sign (x y : Int) : x.tmod y = if decide (x < 0) then -((x.natAbs % y.natAbs : Nat) : Int) else (x.natAbs % y.natAbs : Nat) := by
  obtain ⟨a, rfl | rfl⟩ := Int.eq_nat_or_neg x <;> obtain ⟨b, rfl | rfl⟩ := Int.eq_nat_or_neg y
  all_goals simp only [Int.neg_tmod, Int.tmod_neg, Int.natAbs_neg, Int.natAbs_natCast, Int.ofNat_tmod]
  · rw [decide_eq_false (by omega)]; rfl
  · rw [decide_eq_false (by omega)]; rfl
  · by_cases h : a = 0
    · subst h; simp
    · rw [decide_eq_true (by omega)]; rfl
  · by_cases h : a = 0
    · subst h; simp
    · rw [decide_eq_true (by omega)]; rfl
/-- 'made' of what has few bits. -/
theorem rmade_int (n : Int) (neg : Bool) (V : Nat) (v : Value) (W : World) (h : n = if neg then -(V : Int) else V) (hn : Pl.nb V ≤ 30000) (hv : RdB W v (Pl.dgs V)) :
    Calls Tryz.prog 119 #[v, .bool neg] W fun e w' => e = .returned (.tuple #[lof n, .int .i64 0]) ∧ Below W.heap.size W w' := by
  have h2 := rmade_any v _ neg W hv (by have := Pl.dgs_len (Pl.nb_good (V := V) (by omega)); omega) (by rw [Pl.le_dgs]; exact Pl.nb_good (by omega))
  rw [Pl.le_dgs, lof_mk h] at h2
  exact h2
theorem Lg.at {w : World} {neg : Bool} {s : ByteArray} {k : Nat} (h : w.heap.size = k) : Lg (w.alloc (.cells #[.bool neg, .string s] 42)) k neg s := h ▸ Lg.new w neg s
theorem four_new (w : World) (n0 n1 n2 n3 : Bool) (s0 s1 s2 s3 : ByteArray) : ∃ W, (((w.alloc (.cells #[.bool n0, .string s0] 42)).alloc (.cells #[.bool n1, .string s1] 42)).alloc (.cells #[.bool n2, .string s2] 42)).alloc (.cells #[.bool n3, .string s3] 42) = W ∧ Lg W w.heap.size n0 s0 ∧ Lg W (w.heap.size + 1) n1 s1 ∧ Lg W (w.heap.size + 2) n2 s2 ∧ Lg W (w.heap.size + 3) n3 s3 ∧ Below w.heap.size w W ∧ W.heap.size = w.heap.size + 4 :=
  ⟨_, rfl, ((((Lg.new w n0 s0).alloc _).alloc _).alloc _), ((Lg.at (by simp)).alloc _).alloc _, (Lg.at (by simp)).alloc _, Lg.at (by simp), (((((Below.refl _ _).alloc (Nat.le_refl _) _).alloc (by simp) _).alloc (by simp; omega) _).alloc (by simp; omega) _), by simp⟩
theorem nb_div (a b : Nat) : Pl.nb (a / b) ≤ Pl.nb a := Pl.nb_mono (Nat.div_le_self _ _)
theorem nb_mod (a b : Nat) : Pl.nb (a % b) ≤ Pl.nb a := Pl.nb_mono (Nat.mod_le _ _)
set_option maxRecDepth 4000 in
set_option maxHeartbeats 8000000 in
theorem rquo_any (x y : Int) (w : World) (hx : Pl.nb x.natAbs ≤ 20000) (hy : Pl.nb y.natAbs ≤ 20000) (h0 : y ≠ 0) :
    Calls Tryz.prog 70 #[lof x, lof y] w fun e w' => e = .returned (.tuple #[lof (x.tdiv y), lof (x.tmod y), .int .i64 0]) ∧ Below w.heap.size w w' := by
  have HC : Hid (∀ w, Calls Tryz.prog 117 #[lof x, lof y] w fun e w' => e = .returned (.int .i64 0) ∧ Below w.heap.size w w') := Lib.hid (fun w => rboth_any _ _ _ _ w (good_int (by omega)) (good_int (by omega)))
  have hla := Pl.dgs_len (Pl.nb_good (V := x.natAbs) (by omega))
  have hlb := Pl.dgs_len (Pl.nb_good (V := y.natAbs) (by omega))
  obtain ⟨F, vF, hconv, hF⟩ := conv_bytes (Pl.dgs x.natAbs) (by omega)
  obtain ⟨G, vG, hconv2, hG⟩ := conv_bytes (Pl.dgs y.natAbs) (by omega)
  have HFF := Lib.hid hF
  have HGG := Lib.hid hG
  have HDV := Lib.hid (fun va vb W (ha : RdB W va (Pl.dgs x.natAbs)) (hb : RdB W vb (Pl.dgs y.natAbs)) => rdivide_any va vb _ _ W ha hb (by omega) (by omega) (by rw [Pl.le_dgs]; omega) (by rw [Pl.le_dgs]; omega))
  rw [Pl.le_dgs, Pl.le_dgs] at HDV
  have HM1 := Lib.hid (fun v W (hv : RdB W v (Pl.dgs (x.natAbs / y.natAbs))) => rmade_int _ _ _ v W (tdiv_sign x y) (by have := nb_div x.natAbs y.natAbs; omega) hv)
  have HM2 := Lib.hid (fun v W (hv : RdB W v (Pl.dgs (x.natAbs % y.natAbs))) => rmade_int _ _ _ v W (tmod_sign x y) (by have := nb_mod x.natAbs y.natAbs; omega) hv)
  have hye : (Pl.dgs y.natAbs).length ≠ 0 := by
    intro h
    have h2 := Pl.dgs_empty y.natAbs
    rw [List.isEmpty_iff_length_eq_zero.2 h] at h2
    have := of_decide_eq_true h2.symm
    omega
  have hss : (bs (Pl.dgs y.natAbs)).size = (Pl.dgs y.natAbs).length := rfl
  have hsz : (((bs (Pl.dgs y.natAbs)).size : Int) == 0) = false := by rw [beq_eq_false_iff_ne, hss]; omega
  simp only [lof_is] at *
  generalize x.tdiv y = Q at *
  generalize x.tmod y = M at *
  generalize bs (Pl.dgs x.natAbs) = sa at *
  generalize bs (Pl.dgs y.natAbs) = sb at *
  generalize bs (Pl.dgs Q.natAbs) = sq at *
  generalize bs (Pl.dgs M.natAbs) = sm at *
  generalize decide (x < 0) = na at *
  generalize decide (y < 0) = nb at *
  generalize decide (Q < 0) = nq at *
  generalize decide (M < 0) = nm at *
  clear hx hy h0 hla hlb hF hG hye hss
  go_enter Tryz.func70, Tryz.ntmps70
  go_wp2_with fail
  refine (HC.out _).mono ?_
  rintro e w1 ⟨rfl, hb⟩
  obtain ⟨W0, hW0, l0, l1, l2, l3, hb0, hs0⟩ := four_new w na nb false false sa sb ⟨#[]⟩ ⟨#[]⟩
  rw [hW0] at hb
  have HBw := Lib.hid (show Below w.heap.size w w1 from hb0.trans (hb.mono (by omega)))
  have hsw : w.heap.size + 4 ≤ w1.heap.size := by have := hb.size; omega
  have L0 := Lib.hid (l0.below hb)
  have L1 := Lib.hid (l1.below hb)
  have L2 := Lib.hid (l2.below hb)
  have L3 := Lib.hid (l3.below hb)
  clear l0 l1 l2 l3 hb0 hs0 hb hW0 HC
  obtain ⟨p0, p1, _, _⟩ := L0.out.cells
  obtain ⟨p2, p3, _, _⟩ := L1.out.cells
  have HBF := Lib.hid (HFF.out w1).2
  have HBG := Lib.hid ((HFF.out w1).2.trans ((HGG.out (F w1)).2.mono (HFF.out w1).2.size))
  obtain ⟨_, q3, _, _⟩ := (L1.out.below HBF.out).cells
  go_wp2_with fail
  refine (HDV.out _ _ _ ((HFF.out _).1.below (HGG.out _).2) (HGG.out _).1).mono ?_
  rintro e w2 ⟨vq, vr, rfl, hq, hr, hb⟩
  have HB2 := Lib.hid (show Below w1.heap.size w1 w2 from HBG.out.trans (hb.mono HBG.out.size))
  have HQ := Lib.hid hq
  have HR := Lib.hid hr
  obtain ⟨aq, cq, rfl⟩ := hq.form
  obtain ⟨ar, cr, rfl⟩ := hr.form
  clear hq hr hb p0 p1 p2 p3 q3
  have hs2 : w.heap.size + 4 ≤ w2.heap.size := by have := HB2.out.size; omega
  obtain ⟨p0, p1, _, _⟩ := (L0.out.below HB2.out).cells
  obtain ⟨p2, p3, _, _⟩ := (L1.out.below HB2.out).cells
  go_wp2_with fail
  refine (HM1.out _ _ HQ.out).mono ?_
  rintro e w3 ⟨rfl, hb⟩
  have HB3 := Lib.hid (HB2.out.trans (hb.mono HB2.out.size))
  have HR3 := Lib.hid (HR.out.below hb)
  clear hb p0 p1 p2 p3 hs2
  have hs3 : w.heap.size + 4 ≤ w3.heap.size := by have := HB3.out.size; omega
  have HN3 := Lib.hid (Lg.new w3 nq sq)
  have HB3a := Lib.hid (show Below w1.heap.size w1 (w3.alloc (.cells #[.bool nq, .string sq] 42)) from HB3.out.alloc HB3.out.size _)
  obtain ⟨p0, p1, _, _⟩ := (L0.out.below HB3a.out).cells
  go_wp2_with fail
  refine (HM2.out _ _ (HR3.out.below ((Below.refl _ _).alloc (Nat.le_refl _) _))).mono ?_
  rintro e w4 ⟨rfl, hb⟩
  have HB4 := Lib.hid (HB3a.out.trans (hb.mono HB3a.out.size))
  have HN4 := Lib.hid (HN3.out.below hb)
  have hs34 : w3.heap.size < w4.heap.size := by have := hb.size; simp at this; omega
  clear hb p0 p1
  go_wp2_with fail
  have HN5 := Lib.hid (HN4.out.alloc (.cells #[.bool nm, .string sm] 42))
  have HM5 := Lib.hid (Lg.new w4 nm sm)
  have HB5 := Lib.hid (show Below w1.heap.size w1 (w4.alloc (.cells #[.bool nm, .string sm] 42)) from HB4.out.alloc HB4.out.size _)
  generalize w4.alloc (.cells #[.bool nm, .string sm] 42) = w5 at HN5 HM5 HB5 ⊢
  obtain ⟨p0, p1, _, _⟩ := HN5.out.cells
  obtain ⟨p2, p3, _, _⟩ := HM5.out.cells
  obtain ⟨r0, r1, f0, f1⟩ := (L2.out.below HB5.out).cells
  obtain ⟨r2, r3, f2, f3⟩ := (L3.out.below HB5.out).cells
  go_region
  all_goals
    have hf1 := ((L2.out.below HB5.out).set nq sq)
    have hr4 : Lg ((((w5.setCell ⟨w.heap.size + 2, 0, none⟩ (.bool nq)).setCell ⟨w.heap.size + 2, 1, none⟩ (.string sq)).setCell ⟨w.heap.size + 3, 0, none⟩ (.bool nm)).setCell ⟨w.heap.size + 3, 1, none⟩ (.string sm)) (w.heap.size + 2) nq sq := (hf1.other (by omega)).other (by omega)
    have hr5 : Lg ((((w5.setCell ⟨w.heap.size + 2, 0, none⟩ (.bool nq)).setCell ⟨w.heap.size + 2, 1, none⟩ (.string sq)).setCell ⟨w.heap.size + 3, 0, none⟩ (.bool nm)).setCell ⟨w.heap.size + 3, 1, none⟩ (.string sm)) (w.heap.size + 3) nm sm := (((L3.out.below HB5.out).other (by omega)).other (by omega)).set nm sm
    have kB : Below w.heap.size w ((((w5.setCell ⟨w.heap.size + 2, 0, none⟩ (.bool nq)).setCell ⟨w.heap.size + 2, 1, none⟩ (.string sq)).setCell ⟨w.heap.size + 3, 0, none⟩ (.bool nm)).setCell ⟨w.heap.size + 3, 1, none⟩ (.string sm)) := (((((HBw.out.trans (HB5.out.mono (by omega))).setCell (p := ⟨w.heap.size + 2, 0, none⟩) (Nat.le_add_right w.heap.size _) _).setCell (p := ⟨w.heap.size + 2, 1, none⟩) (Nat.le_add_right w.heap.size _) _).setCell (p := ⟨w.heap.size + 3, 0, none⟩) (Nat.le_add_right w.heap.size _) _).setCell (p := ⟨w.heap.size + 3, 1, none⟩) (Nat.le_add_right w.heap.size _) _)
    have kBd := Lib.hid kB.drew
    obtain ⟨k0, k1, _, _⟩ := (hr4.below (Below.refl _ _).drew).cells
    obtain ⟨k2, k3, _, _⟩ := (hr5.below (Below.refl _ _).drew).cells
    clear hf1 hr4 hr5 kB
    generalize ((((w5.setCell ⟨w.heap.size + 2, 0, none⟩ (.bool nq)).setCell ⟨w.heap.size + 2, 1, none⟩ (.string sq)).setCell ⟨w.heap.size + 3, 0, none⟩ (.bool nm)).setCell ⟨w.heap.size + 3, 1, none⟩ (.string sm)).drew = w6 at k0 k1 k2 k3 kBd ⊢
    go_wp2_with fail
    exact bodyPost_ret (v := .tuple #[.agg #[.bool nq, .string sq], .agg #[.bool nm, .string sm], .int .i64 0]) (by simp [results, Tryz.results70, go_sem, k0, k1, k2, k3]) rfl ⟨rfl, kBd.out⟩
end Go.Proofs.YtgdohmaljbggjaaGreatDoor
