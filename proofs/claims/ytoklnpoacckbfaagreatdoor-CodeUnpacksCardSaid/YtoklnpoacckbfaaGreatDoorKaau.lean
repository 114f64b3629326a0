/- tree's literal at large integers. (Printed by gen_mla.py.) tree's literal at arrays, and so at whatever literal. -/
import Derived.Test.YtoklnpoacckbfaaGreatDoorKaat
namespace Go.Proofs.YtoklnpoacckbfaaGreatDoor
open Go.RowKit
set_option maxRecDepth 100000 in
set_option maxHeartbeats 4000000 in
theorem tlit_large {B : Nat} {v : Value} (x : Pl.Lit) (i m d : Bool) (P : Nat) (w : World) (hv : LitsAt B w x.items v) (hxw : Pl.LitW x) (hL : LookAt w P m d) (he : ErrAt w) (hk : x.kind = 5) :
    Calls Tryz.prog 230 #[.pointer (some ⟨P, 0, none⟩), litV x v, .bool i] w (LitEnd P x i m d w) := by
  have HOK := Lib.hid (Pl.ok_large (b := i) hk)
  have HI := Lib.hid (Pl.isEmpty_eq x.items)
  have HD := Lib.hid (Pl.deep_flat (x := x) (by omega))
  have HM := Lib.hid (fun h => Pl.many_none (x := x) h (by omega))
  have HL := Lib.hid hL
  have hlt := hL.lt
  have hts := hxw.t
  obtain ⟨A, cap, V, rfl, _, hrow, _, _⟩ := hv.out
  have h1 := hrow.le
  have h2 := hrow.len
  have HE := Lib.hid he
  unfold litV
  clear hL he
  rw [hk, show ((5 : Nat) : Int) = 5 from rfl]
  clear hk
  have RI := Lib.hid (fun w he => integer_any x.text w hts he)
  cases hn : Pl.integer x.text.data.toList with
  | none =>
    rw [hn] at RI
    have HLT := Lib.hid (Pl.large_none hn)
    clear hn
    go_enter Tryz.func230, Tryz.ntmps230
    go_wp2_with fail
    refine (RI.out _ (HE.out.keep (((Below.refl w.heap.size w).alloc (Nat.le_refl _) _).alloc (by simp) _) HE.out.1)).mono ?_
    rintro e w2 ⟨rfl, hb2⟩
    obtain ⟨n1, n2⟩ := newCells2 (hb2.mono (by simp))
    have b0 := n1 0 _ rfl
    have b1 := n1 1 _ rfl
    have b2 := n1 2 _ rfl
    have b3 := n1 3 _ rfl
    have b4 := n1 4 _ rfl
    have r0 := n2 0 _ rfl
    have r1 := n2 1 _ rfl
    have r2 := n2 2 _ rfl
    have r3 := n2 3 _ rfl
    have r4 := n2 4 _ rfl
    have f3 : w2.frozen? ⟨w.heap.size + 1, 3, none⟩ = false := by rw [hb2.frozen (p := ⟨w.heap.size + 1, 3, none⟩) (by simp)]; simp [go_sem]
    clear n1 n2
    have hz := hb2.size
    simp only [World.size_alloc] at hz
    have HB := Lib.hid (show Below w.heap.size w w2 from (((Below.refl w.heap.size w).alloc (Nat.le_refl _) _).alloc (by simp) _).trans (hb2.mono (by simp; omega)))
    have hlt1 : w.heap.size < w2.heap.size := by omega
    have hlt2 : w.heap.size + 1 < w2.heap.size := by omega
    clear hb2
    simp only [Pl.intV, zeroLit]
    go_wp2_with (go_at_call 131; refine (must_any _ _).mono ?_; rintro e w' ⟨⟨hmust, rfl⟩ | ⟨hmust, rfl⟩, rfl⟩ <;> (try (cases hmust; done)))
    refine ⟨rfl, .inr ⟨by rw [HOK.out, HLT.out]; rfl, rfl⟩, Only.of_below ?_ hlt⟩
    first
      | exact HB.out.alloc (by omega) _
      | exact (HB.out.setCell (p := ⟨w.heap.size + 1, 3, none⟩) (by simp) _).alloc (by simp; omega) _
  | some nm =>
    rw [hn] at RI
    cases nm with
    | small n =>
      have HLT := Lib.hid (Pl.large_small hn)
      clear hn
      go_enter Tryz.func230, Tryz.ntmps230
      go_wp2_with fail
      refine (RI.out _ (HE.out.keep (((Below.refl w.heap.size w).alloc (Nat.le_refl _) _).alloc (by simp) _) HE.out.1)).mono ?_
      rintro e w2 ⟨rfl, hb2⟩
      obtain ⟨n1, n2⟩ := newCells2 (hb2.mono (by simp))
      have b0 := n1 0 _ rfl
      have b1 := n1 1 _ rfl
      have b2 := n1 2 _ rfl
      have b3 := n1 3 _ rfl
      have b4 := n1 4 _ rfl
      have r0 := n2 0 _ rfl
      have r1 := n2 1 _ rfl
      have r2 := n2 2 _ rfl
      have r3 := n2 3 _ rfl
      have r4 := n2 4 _ rfl
      have f3 : w2.frozen? ⟨w.heap.size + 1, 3, none⟩ = false := by rw [hb2.frozen (p := ⟨w.heap.size + 1, 3, none⟩) (by simp)]; simp [go_sem]
      clear n1 n2
      have hz := hb2.size
      simp only [World.size_alloc] at hz
      have HB := Lib.hid (show Below w.heap.size w w2 from (((Below.refl w.heap.size w).alloc (Nat.le_refl _) _).alloc (by simp) _).trans (hb2.mono (by simp; omega)))
      have hlt1 : w.heap.size < w2.heap.size := by omega
      have hlt2 : w.heap.size + 1 < w2.heap.size := by omega
      clear hb2
      simp only [Pl.intV, Pl.numV]
      go_wp2_with (go_at_call 131; refine (must_any _ _).mono ?_; rintro e w' ⟨⟨hmust, rfl⟩ | ⟨hmust, rfl⟩, rfl⟩ <;> (try (cases hmust; done)))
      refine ⟨rfl, .inr ⟨by rw [HOK.out, HLT.out]; rfl, rfl⟩, Only.of_below ?_ hlt⟩
      first
        | exact HB.out.alloc (by omega) _
        | exact (HB.out.setCell (p := ⟨w.heap.size + 1, 3, none⟩) (by simp) _).alloc (by simp; omega) _
    | large t =>
      have HLG := Lib.hid (Pl.large_large hn)
      have ET := Lib.hid (ByteArray.toList_eq (⟨t.toArray⟩ : ByteArray))
      have EX := Lib.hid (ByteArray.toList_eq x.text)
      clear hn
      obtain ⟨tb, htb⟩ : ∃ tb : ByteArray, (⟨t.toArray⟩ : ByteArray) = tb := ⟨_, rfl⟩
      have HTB := Lib.hid (show tb.toList = t by rw [← htb, ET.out])
      by_cases he : t = x.text.data.toList
      · have hI : (tb.toList == x.text.toList) = true := by rw [HTB.out, EX.out, he]; simp
        have HLT := Lib.hid (HLG.out.trans (decide_eq_true he))
        clear he
        go_enter Tryz.func230, Tryz.ntmps230
        go_wp2_with fail
        refine (RI.out _ (HE.out.keep (((Below.refl w.heap.size w).alloc (Nat.le_refl _) _).alloc (by simp) _) HE.out.1)).mono ?_
        rintro e w2 ⟨rfl, hb2⟩
        obtain ⟨n1, n2⟩ := newCells2 (hb2.mono (by simp))
        have b0 := n1 0 _ rfl
        have b1 := n1 1 _ rfl
        have b2 := n1 2 _ rfl
        have b3 := n1 3 _ rfl
        have b4 := n1 4 _ rfl
        have r0 := n2 0 _ rfl
        have r1 := n2 1 _ rfl
        have r2 := n2 2 _ rfl
        have r3 := n2 3 _ rfl
        have r4 := n2 4 _ rfl
        have f3 : w2.frozen? ⟨w.heap.size + 1, 3, none⟩ = false := by rw [hb2.frozen (p := ⟨w.heap.size + 1, 3, none⟩) (by simp)]; simp [go_sem]
        clear n1 n2
        have hz := hb2.size
        simp only [World.size_alloc] at hz
        have HB := Lib.hid (show Below w.heap.size w w2 from (((Below.refl w.heap.size w).alloc (Nat.le_refl _) _).alloc (by simp) _).trans (hb2.mono (by simp; omega)))
        have hlt1 : w.heap.size < w2.heap.size := by omega
        have hlt2 : w.heap.size + 1 < w2.heap.size := by omega
        clear hb2
        simp only [Pl.intV, Pl.numV]
        rw [htb]
        go_wp2_with (go_at_call 131; refine (must_any _ _).mono ?_; rintro e w' ⟨⟨hmust, rfl⟩ | ⟨hmust, rfl⟩, rfl⟩ <;> (try (cases hmust; done)))
        all_goals first
          | (refine ⟨rfl, .inr ⟨?_, rfl⟩, ?_⟩
             · rw [HOK.out, HLT.out, HI.out]
               rw [Bool.eq_iff_iff]
               simp_all
             · exact Only.of_below ((HB.out.setCell (p := ⟨w.heap.size + 1, 3, none⟩) (by simp) _).alloc (by simp; omega) _) hlt)
          | (go_ret
             have hok : Pl.litOk i x = true := by
               rw [HOK.out, HLT.out, HI.out]
               rw [Bool.eq_iff_iff]
               simp_all
             have hit : x.items = [] := by
               have h3 := hok
               rw [HOK.out] at h3
               simp only [Bool.and_eq_true, List.isEmpty_iff] at h3
               exact h3.2
             refine ⟨.inl ⟨hok, ret_int (by rw [HD.out]; rfl), ?_⟩, Only.of_below ((HB.out.setCell (p := ⟨w.heap.size + 1, 3, none⟩) (by simp) _).alloc (by simp; omega) _) hlt⟩
             rw [HM.out hit, Bool.or_false]
             exact HL.out.keep ((HB.out.setCell (p := ⟨w.heap.size + 1, 3, none⟩) (by simp) _).alloc (by simp; omega) _) HL.out.lt)
      · have hI : (tb.toList == x.text.toList) = false := by rw [HTB.out, EX.out]; simpa using he
        have HLT := Lib.hid (HLG.out.trans (decide_eq_false he))
        clear he
        go_enter Tryz.func230, Tryz.ntmps230
        go_wp2_with fail
        refine (RI.out _ (HE.out.keep (((Below.refl w.heap.size w).alloc (Nat.le_refl _) _).alloc (by simp) _) HE.out.1)).mono ?_
        rintro e w2 ⟨rfl, hb2⟩
        obtain ⟨n1, n2⟩ := newCells2 (hb2.mono (by simp))
        have b0 := n1 0 _ rfl
        have b1 := n1 1 _ rfl
        have b2 := n1 2 _ rfl
        have b3 := n1 3 _ rfl
        have b4 := n1 4 _ rfl
        have r0 := n2 0 _ rfl
        have r1 := n2 1 _ rfl
        have r2 := n2 2 _ rfl
        have r3 := n2 3 _ rfl
        have r4 := n2 4 _ rfl
        have f3 : w2.frozen? ⟨w.heap.size + 1, 3, none⟩ = false := by rw [hb2.frozen (p := ⟨w.heap.size + 1, 3, none⟩) (by simp)]; simp [go_sem]
        clear n1 n2
        have hz := hb2.size
        simp only [World.size_alloc] at hz
        have HB := Lib.hid (show Below w.heap.size w w2 from (((Below.refl w.heap.size w).alloc (Nat.le_refl _) _).alloc (by simp) _).trans (hb2.mono (by simp; omega)))
        have hlt1 : w.heap.size < w2.heap.size := by omega
        have hlt2 : w.heap.size + 1 < w2.heap.size := by omega
        clear hb2
        simp only [Pl.intV, Pl.numV]
        rw [htb]
        go_wp2_with (go_at_call 131; refine (must_any _ _).mono ?_; rintro e w' ⟨⟨hmust, rfl⟩ | ⟨hmust, rfl⟩, rfl⟩ <;> (try (cases hmust; done)))
        refine ⟨rfl, .inr ⟨by rw [HOK.out, HLT.out]; rfl, rfl⟩, Only.of_below ?_ hlt⟩
        first
          | exact HB.out.alloc (by omega) _
          | exact (HB.out.setCell (p := ⟨w.heap.size + 1, 3, none⟩) (by simp) _).alloc (by simp; omega) _
end Go.Proofs.YtoklnpoacckbfaaGreatDoor
namespace Go.Proofs.YtoklnpoacckbfaaGreatDoor
open Go.RowKit
namespace Pl
theorem litsDeep_snoc (l : List Lit) (x : Lit) : litsDeep (l ++ [x]) = max (litsDeep l) (litDeep x) := by
  induction l with
  | nil => simp [litsDeep]
  | cons y r ih => simp only [List.cons_append, litsDeep]; rw [ih]; omega
theorem litsDeep_get {l : List Lit} {k : Nat} {x : Lit} (h : l[k]? = some x) : litsDeep (l.take (k + 1)) = max (litsDeep (l.take k)) (litDeep x) := by
  rw [List.take_add_one, h]; exact litsDeep_snoc _ _
theorem litsMany_get {l : List Lit} {k : Nat} {x : Lit} (h : l[k]? = some x) : litsMany (l.take (k + 1)) = (litsMany (l.take k) || litMany x) := by
  rw [litsMany_iff, litsMany_iff, List.take_add_one, h, List.any_append]; simp
theorem litMany_array {x : Lit} (h : x.kind = 10) : litMany x = (decide (255 < x.items.length) || litsMany x.items) := by
  cases x; simp only [Lit.kind] at h; simp [litMany, Lit.items, h]; try rfl
theorem litDeep_array {x : Lit} (h : x.kind = 10) : litDeep x = litsDeep x.items + 1 := by
  cases x; simp only [Lit.kind] at h; simp [litDeep, Lit.items, h]
mutual
theorem litDeep_big : ∀ x : Lit, litDeep x ≤ litBig x
  | .mk k _ _ t l => by
    have := litsDeep_big l
    unfold litDeep litBig
    split <;> omega
theorem litsDeep_big : ∀ l : List Lit, litsDeep l ≤ litsBig l
  | [] => by unfold litsDeep; omega
  | x :: r => by
    have h1 := litDeep_big x
    have h2 := litsDeep_big r
    unfold litsDeep litsBig
    omega
end
theorem litDeep_mem {l : List Lit} {x : Lit} (h : x ∈ l) : litDeep x ≤ litsDeep l := by
  induction l with
  | nil => cases h
  | cons y r ih =>
    unfold litsDeep
    rcases List.mem_cons.1 h with rfl | h
    · omega
    · have := ih h; omega
theorem litsDeep_take (l : List Lit) (k : Nat) : litsDeep (l.take k) ≤ litsDeep l := by
  induction l generalizing k with
  | nil => simp
  | cons y r ih =>
    cases k with
    | zero => simp [litsDeep]
    | succ k => simp only [List.take_succ_cons, litsDeep]; have := ih k; omega
end Pl
set_option maxRecDepth 100000 in
set_option maxHeartbeats 4000000 in
theorem tlit_any {B : Nat} {w0 : World} {l : List Pl.Lit} {v : Value} (h : LitsAt B w0 l v) : ∀ (x : Pl.Lit) (i m d : Bool) (P : Nat) (w : World), x.items = l → Pl.LitW x → Below B w0 w → B ≤ P → LookAt w P m d → ErrAt w → 9 < B → Pl.litDeep x ≤ 262144 →
    Calls Tryz.prog 230 #[.pointer (some ⟨P, 0, none⟩), litV x v, .bool i] w (LitEnd P x i m d w) := by
  have h' := h
  induction h with
  | mk A l cap V hB hrow hw hr ih =>
    intro x i m d P w hx hxw hbel hBP hL he hEB hdp
    have hlits := h'.keep hbel
    rw [← hx] at hlits
    have hs0 := hbel.size
    by_cases c0 : x.kind = 0 ∨ 12 ≤ x.kind
    · have := tlit_none x i m d P w hlits hL c0; rw [hx] at this; exact this
    by_cases c1 : x.kind = 1 ∨ x.kind = 2 ∨ x.kind = 3
    · cases i
      · have := tlit_sing_f x m d P w hlits hxw hL c1; rw [hx] at this; exact this
      · have := tlit_sing_t x m d P w hlits hxw hL c1; rw [hx] at this; exact this
    by_cases c2 : x.kind = 4
    · have := tlit_small x i m d P w hlits hxw hL c2; rw [hx] at this; exact this
    by_cases c3 : x.kind = 5
    · have := tlit_large x i m d P w hlits hxw hL he c3; rw [hx] at this; exact this
    by_cases c4 : x.kind = 6
    · have := tlit_float x i m d P w hlits hxw hL c4; rw [hx] at this; exact this
    by_cases c5 : x.kind = 7
    · have := tlit_char x i m d P w hlits hxw hL c5; rw [hx] at this; exact this
    by_cases c6 : x.kind = 8 ∨ x.kind = 9
    · have := tlit_text x i m d P w hlits hxw hL c6; rw [hx] at this; exact this
    by_cases c7 : x.kind = 11
    · have := tlit_bytes x i m d P w hlits hxw hL c7; rw [hx] at this; exact this
    have hk : x.kind = 10 := by omega
    clear c0 c1 c2 c3 c4 c5 c6 c7 hlits
    subst hx
    have HOK := Lib.hid ((Pl.ok_array (b := i) hk).trans (by rw [Pl.litsOk_iff]))
    have HT := Lib.hid (Pl.noText_eq x.text)
    have HMA := Lib.hid (Pl.litMany_array hk)
    have HDA := Lib.hid (Pl.litDeep_array hk)
    have hdl : Pl.litsDeep x.items ≤ 262144 := by have := HDA.out; omega
    have h1 := hrow.le
    have h2 := hrow.len
    have HL := Lib.hid hL
    have HE := Lib.hid he
    have hlt := hL.lt
    have hne : ¬ P = w.heap.size := by omega
    obtain ⟨l0, l1, l2, l3, _⟩ := hL
    unfold litV
    rw [hk, show ((10 : Nat) : Int) = 10 from rfl]
    clear hk he
    obtain ⟨m1, hm1⟩ : ∃ m1, (m || decide (255 < x.items.length)) = m1 := ⟨_, rfl⟩
    have HM1 := Lib.hid hm1
    clear hm1
    cases m
    · go_enter Tryz.func230, Tryz.ntmps230
      go_wp2_with fail
      obtain ⟨W1, hW1⟩ : ∃ W1, ((w.setCell ⟨P, 0, none⟩ (.bool (decide ((255 : Int) < (x.items.length : Int))))).alloc (.cells #[.int .u8 10, .int .i64 x.n, .int .u64 x.bits, .string x.text, .slice A x.items.length cap] 37)).alloc (.cells #[.int .u8 10, .int .i64 x.n, .int .u64 x.bits, .string x.text, .slice A x.items.length cap] 37) = W1 := ⟨_, rfl⟩
      have HO := Lib.hid (show Only P w (((w.setCell ⟨P, 0, none⟩ (.bool (decide ((255 : Int) < (x.items.length : Int))))).alloc (.cells #[.int .u8 10, .int .i64 x.n, .int .u64 x.bits, .string x.text, .slice A x.items.length cap] 37)).alloc (.cells #[.int .u8 10, .int .i64 x.n, .int .u64 x.bits, .string x.text, .slice A x.items.length cap] 37)) from (Only.set w P _).trans (Only.of_below (((Below.refl _ _).alloc (Nat.le_refl _) _).alloc (by simp) _) (by simp; omega)))
      have hLW : LookAt W1 P m1 d := by
        rw [← hW1]
        refine LookAt.keep ?_ (((Below.refl w.heap.size _).alloc (by simp) _).alloc (by simp) _) hlt
        exact LookAt.cast (LookAt.set HL.out _) (by rw [← HM1.out]; rw [Bool.eq_iff_iff]; simp <;> omega)
      have r1 : W1.cell? ⟨w.heap.size + 1, 1, none⟩ = some (.int .i64 x.n) := by rw [← hW1]; simp [go_sem]
      have r2 : W1.cell? ⟨w.heap.size + 1, 2, none⟩ = some (.int .u64 x.bits) := by rw [← hW1]; simp [go_sem]
      have r3 : W1.cell? ⟨w.heap.size + 1, 3, none⟩ = some (.string x.text) := by rw [← hW1]; simp [go_sem]
      have r4 : W1.cell? ⟨w.heap.size + 1, 4, none⟩ = some (.slice A x.items.length cap) := by rw [← hW1]; simp [go_sem]
      have fr : W1.frozen? ⟨w.heap.size + 1, 4, none⟩ = false := by rw [← hW1]; simp [go_sem]
      have hz1 : W1.heap.size = w.heap.size + 2 := by rw [← hW1]; simp
      have HLW := Lib.hid hLW
      rw [hW1] at HO ⊢
      clear hW1 hLW
      go_loopw [7, 116] (fun dv iv wr => ∃ k : Nat, dv = .int .i64 (Pl.litsDeep (x.items.take k) : Nat) ∧ iv = .int .i64 k ∧ k ≤ x.items.length ∧ (x.items.take k).all (Pl.litOk true) = true ∧ LookAt wr P (m1 || Pl.litsMany (x.items.take k)) d ∧ Only P W1 wr) (fun _ iv _ => x.items.length - (intOf iv).toNat)
      case atStart => exact ⟨0, by simp [Pl.litsDeep], rfl, Nat.zero_le _, rfl, by rw [List.take_zero]; simpa [Pl.litsMany] using HLW.out, Only.refl⟩
      case round =>
        obtain ⟨k, rfl, rfl, hk, hall, hlk, honly⟩ := hrel
        have HALL := Lib.hid hall
        have HLK := Lib.hid hlk
        have hwz := honly.low.size
        have HON := Lib.hid (show Only P w wr from HO.out.trans honly)
        have HON1 := Lib.hid honly
        have hdt := Pl.litsDeep_take x.items k
        clear hall hlk honly
        by_cases hlt2 : k < x.items.length
        · obtain ⟨b, o, rfl, hbb⟩ := hrow.some_of hlt2
          obtain ⟨y, hy⟩ : ∃ y, x.items[k]? = some y := ⟨_, List.getElem?_eq_getElem hlt2⟩
          have hB2 : Below B w0 wr := hbel.trans (HON.out.low.mono hBP)
          obtain ⟨e0, e1, e2, e3, e4⟩ := (hrow.keep hB2 hB).lit hy
          obtain ⟨Ay, capy, Vy, hVk, _⟩ := (hr k y hy).out
          rw [hVk] at e4
          have hyw := hw y (List.mem_of_getElem? hy)
          have hyd : Pl.litDeep y ≤ 262144 := by have := Pl.litDeep_mem (List.mem_of_getElem? hy); omega
          have IH := (fun (W : World) (hb : Below wr.heap.size wr W) => ih k y hy (hr k y hy) y true (m1 || Pl.litsMany (x.items.take k)) d P W rfl hyw (hB2.trans (hb.mono (by have := HON.out.low.size; omega))) hBP (HLK.out.keep hb HLK.out.lt) ((HE.out.keep HON.out.low (by omega)).keep hb (by have := HE.out.1; have := HON.out.low.size; omega)) hEB hyd)
          simp only [hVk] at IH
          have IH := Lib.hid IH
          clear hVk
          have HDG := Lib.hid (Pl.litsDeep_get hy)
          have HMG := Lib.hid (Pl.litsMany_get hy)
          have HAT := Lib.hid (Pl.all_take hy (Pl.litOk true))
          have HAG := Lib.hid (fun h => Pl.all_get hy (Pl.litOk true) h)
          clear hy
          have hPwr : P < wr.heap.size := HLK.out.lt
          go_wp2_with fail
          refine (IH.out _ ((Below.refl _ _).alloc (Nat.le_refl _) _)).mono ?_
          rintro e w3 ⟨(⟨hok, rfl, hl3⟩ | ⟨hok, rfl⟩), ho3⟩
          · have HOK3 := Lib.hid hok
            have HL3 := Lib.hid hl3
            have HO3 := Lib.hid (show Only P wr w3 from (Only.of_below ((Below.refl _ _).alloc (Nat.le_refl _) _) hPwr).trans ho3)
            clear hok hl3 ho3
            go_wp2_with fail
            go_roundw
            case rel =>
              refine ⟨k + 1, ?_, by go_num, by omega, by rw [HAT.out, HALL.out, HOK3.out]; rfl, ?_, HON1.out.trans HO3.out⟩
              · rw [HDG.out]; congr 1; omega
              · rw [HMG.out, ← Bool.or_assoc]; exact HL3.out
            case measure => simp [intOf]; omega
          · have HF := Lib.hid (show Pl.litOk i x = false by rw [HOK.out, HAG.out hok]; rfl)
            have HO3 := Lib.hid (show Only P wr w3 from (Only.of_below ((Below.refl _ _).alloc (Nat.le_refl _) _) hPwr).trans ho3)
            clear hok ho3
            go_wp2_with fail
            exact ⟨rfl, .inr ⟨HF.out, rfl⟩, HON.out.trans HO3.out⟩
        · have hkl : k = x.items.length := by omega
          have HTK := Lib.hid (show x.items.take k = x.items from List.take_of_length_le (by omega))
          have s1 : wr.cell? ⟨w.heap.size + 1, 1, none⟩ = some (.int .i64 x.n) := (HON1.out.cell (by omega) (by omega)).trans r1
          have s2 : wr.cell? ⟨w.heap.size + 1, 2, none⟩ = some (.int .u64 x.bits) := (HON1.out.cell (by omega) (by omega)).trans r2
          have s3 : wr.cell? ⟨w.heap.size + 1, 3, none⟩ = some (.string x.text) := (HON1.out.cell (by omega) (by omega)).trans r3
          have s4 : wr.cell? ⟨w.heap.size + 1, 4, none⟩ = some (.slice A x.items.length cap) := (HON1.out.cell (by omega) (by omega)).trans r4
          have f4 : wr.frozen? ⟨w.heap.size + 1, 4, none⟩ = false := (HON1.out.frozen (by omega) (by omega)).trans fr
          clear hkl
          have hOnlyEnd : ∀ v : Value, Only P w (wr.setCell ⟨w.heap.size + 1, 4, none⟩ v) := fun v => ⟨HON.out.low.setCell (p := ⟨w.heap.size + 1, 4, none⟩) (by simp; omega) v, fun j hj hjne => (Below.heap_setCell wr ⟨w.heap.size + 1, 4, none⟩ v j (by simp; omega)).trans (HON.out.rest j hj hjne)⟩
          have HOE := Lib.hid hOnlyEnd
          clear hOnlyEnd
          go_wp2_with (go_at_call 131; refine (must_any _ _).mono ?_; rintro e w' ⟨⟨hmust, rfl⟩ | ⟨hmust, rfl⟩, rfl⟩ <;> (try (cases hmust; done)))
          all_goals first
            | (refine ⟨rfl, .inr ⟨?_, rfl⟩, HOE.out _⟩
               rw [HOK.out, HT.out]
               rw [Bool.eq_iff_iff]
               simp_all)
            | (go_ret
               have hok : Pl.litOk i x = true := by
                 have h9 := HALL.out
                 rw [HTK.out] at h9
                 rw [HOK.out, HT.out, h9]
                 rw [Bool.eq_iff_iff]
                 simp_all
               refine ⟨.inl ⟨hok, ret_int (by rw [HDA.out, HTK.out]; simp), ?_⟩, HOE.out _⟩
               have h8 := HLK.out
               rw [HTK.out] at h8
               refine LookAt.cast (h8.keep (B := w.heap.size) ((Below.refl w.heap.size wr).setCell (p := ⟨w.heap.size + 1, 4, none⟩) (by simp) _) hlt) ?_
               rw [HMA.out, ← HM1.out, Bool.or_assoc])
    · go_enter Tryz.func230, Tryz.ntmps230
      go_wp2_with fail
      obtain ⟨W1, hW1⟩ : ∃ W1, ((w.setCell ⟨P, 0, none⟩ (.bool true)).alloc (.cells #[.int .u8 10, .int .i64 x.n, .int .u64 x.bits, .string x.text, .slice A x.items.length cap] 37)).alloc (.cells #[.int .u8 10, .int .i64 x.n, .int .u64 x.bits, .string x.text, .slice A x.items.length cap] 37) = W1 := ⟨_, rfl⟩
      have HO := Lib.hid (show Only P w (((w.setCell ⟨P, 0, none⟩ (.bool true)).alloc (.cells #[.int .u8 10, .int .i64 x.n, .int .u64 x.bits, .string x.text, .slice A x.items.length cap] 37)).alloc (.cells #[.int .u8 10, .int .i64 x.n, .int .u64 x.bits, .string x.text, .slice A x.items.length cap] 37)) from (Only.set w P _).trans (Only.of_below (((Below.refl _ _).alloc (Nat.le_refl _) _).alloc (by simp) _) (by simp; omega)))
      have hLW : LookAt W1 P m1 d := by
        rw [← hW1]
        refine LookAt.keep ?_ (((Below.refl w.heap.size _).alloc (by simp) _).alloc (by simp) _) hlt
        exact LookAt.cast (LookAt.set HL.out _) (by rw [← HM1.out]; rfl)
      have r1 : W1.cell? ⟨w.heap.size + 1, 1, none⟩ = some (.int .i64 x.n) := by rw [← hW1]; simp [go_sem]
      have r2 : W1.cell? ⟨w.heap.size + 1, 2, none⟩ = some (.int .u64 x.bits) := by rw [← hW1]; simp [go_sem]
      have r3 : W1.cell? ⟨w.heap.size + 1, 3, none⟩ = some (.string x.text) := by rw [← hW1]; simp [go_sem]
      have r4 : W1.cell? ⟨w.heap.size + 1, 4, none⟩ = some (.slice A x.items.length cap) := by rw [← hW1]; simp [go_sem]
      have fr : W1.frozen? ⟨w.heap.size + 1, 4, none⟩ = false := by rw [← hW1]; simp [go_sem]
      have hz1 : W1.heap.size = w.heap.size + 2 := by rw [← hW1]; simp
      have HLW := Lib.hid hLW
      rw [hW1] at HO ⊢
      clear hW1 hLW
      go_loopw [7, 116] (fun dv iv wr => ∃ k : Nat, dv = .int .i64 (Pl.litsDeep (x.items.take k) : Nat) ∧ iv = .int .i64 k ∧ k ≤ x.items.length ∧ (x.items.take k).all (Pl.litOk true) = true ∧ LookAt wr P (m1 || Pl.litsMany (x.items.take k)) d ∧ Only P W1 wr) (fun _ iv _ => x.items.length - (intOf iv).toNat)
      case atStart => exact ⟨0, by simp [Pl.litsDeep], rfl, Nat.zero_le _, rfl, by rw [List.take_zero]; simpa [Pl.litsMany] using HLW.out, Only.refl⟩
      case round =>
        obtain ⟨k, rfl, rfl, hk, hall, hlk, honly⟩ := hrel
        have HALL := Lib.hid hall
        have HLK := Lib.hid hlk
        have hwz := honly.low.size
        have HON := Lib.hid (show Only P w wr from HO.out.trans honly)
        have HON1 := Lib.hid honly
        have hdt := Pl.litsDeep_take x.items k
        clear hall hlk honly
        by_cases hlt2 : k < x.items.length
        · obtain ⟨b, o, rfl, hbb⟩ := hrow.some_of hlt2
          obtain ⟨y, hy⟩ : ∃ y, x.items[k]? = some y := ⟨_, List.getElem?_eq_getElem hlt2⟩
          have hB2 : Below B w0 wr := hbel.trans (HON.out.low.mono hBP)
          obtain ⟨e0, e1, e2, e3, e4⟩ := (hrow.keep hB2 hB).lit hy
          obtain ⟨Ay, capy, Vy, hVk, _⟩ := (hr k y hy).out
          rw [hVk] at e4
          have hyw := hw y (List.mem_of_getElem? hy)
          have hyd : Pl.litDeep y ≤ 262144 := by have := Pl.litDeep_mem (List.mem_of_getElem? hy); omega
          have IH := (fun (W : World) (hb : Below wr.heap.size wr W) => ih k y hy (hr k y hy) y true (m1 || Pl.litsMany (x.items.take k)) d P W rfl hyw (hB2.trans (hb.mono (by have := HON.out.low.size; omega))) hBP (HLK.out.keep hb HLK.out.lt) ((HE.out.keep HON.out.low (by omega)).keep hb (by have := HE.out.1; have := HON.out.low.size; omega)) hEB hyd)
          simp only [hVk] at IH
          have IH := Lib.hid IH
          clear hVk
          have HDG := Lib.hid (Pl.litsDeep_get hy)
          have HMG := Lib.hid (Pl.litsMany_get hy)
          have HAT := Lib.hid (Pl.all_take hy (Pl.litOk true))
          have HAG := Lib.hid (fun h => Pl.all_get hy (Pl.litOk true) h)
          clear hy
          have hPwr : P < wr.heap.size := HLK.out.lt
          go_wp2_with fail
          refine (IH.out _ ((Below.refl _ _).alloc (Nat.le_refl _) _)).mono ?_
          rintro e w3 ⟨(⟨hok, rfl, hl3⟩ | ⟨hok, rfl⟩), ho3⟩
          · have HOK3 := Lib.hid hok
            have HL3 := Lib.hid hl3
            have HO3 := Lib.hid (show Only P wr w3 from (Only.of_below ((Below.refl _ _).alloc (Nat.le_refl _) _) hPwr).trans ho3)
            clear hok hl3 ho3
            go_wp2_with fail
            go_roundw
            case rel =>
              refine ⟨k + 1, ?_, by go_num, by omega, by rw [HAT.out, HALL.out, HOK3.out]; rfl, ?_, HON1.out.trans HO3.out⟩
              · rw [HDG.out]; congr 1; omega
              · rw [HMG.out, ← Bool.or_assoc]; exact HL3.out
            case measure => simp [intOf]; omega
          · have HF := Lib.hid (show Pl.litOk i x = false by rw [HOK.out, HAG.out hok]; rfl)
            have HO3 := Lib.hid (show Only P wr w3 from (Only.of_below ((Below.refl _ _).alloc (Nat.le_refl _) _) hPwr).trans ho3)
            clear hok ho3
            go_wp2_with fail
            exact ⟨rfl, .inr ⟨HF.out, rfl⟩, HON.out.trans HO3.out⟩
        · have hkl : k = x.items.length := by omega
          have HTK := Lib.hid (show x.items.take k = x.items from List.take_of_length_le (by omega))
          have s1 : wr.cell? ⟨w.heap.size + 1, 1, none⟩ = some (.int .i64 x.n) := (HON1.out.cell (by omega) (by omega)).trans r1
          have s2 : wr.cell? ⟨w.heap.size + 1, 2, none⟩ = some (.int .u64 x.bits) := (HON1.out.cell (by omega) (by omega)).trans r2
          have s3 : wr.cell? ⟨w.heap.size + 1, 3, none⟩ = some (.string x.text) := (HON1.out.cell (by omega) (by omega)).trans r3
          have s4 : wr.cell? ⟨w.heap.size + 1, 4, none⟩ = some (.slice A x.items.length cap) := (HON1.out.cell (by omega) (by omega)).trans r4
          have f4 : wr.frozen? ⟨w.heap.size + 1, 4, none⟩ = false := (HON1.out.frozen (by omega) (by omega)).trans fr
          clear hkl
          have hOnlyEnd : ∀ v : Value, Only P w (wr.setCell ⟨w.heap.size + 1, 4, none⟩ v) := fun v => ⟨HON.out.low.setCell (p := ⟨w.heap.size + 1, 4, none⟩) (by simp; omega) v, fun j hj hjne => (Below.heap_setCell wr ⟨w.heap.size + 1, 4, none⟩ v j (by simp; omega)).trans (HON.out.rest j hj hjne)⟩
          have HOE := Lib.hid hOnlyEnd
          clear hOnlyEnd
          go_wp2_with (go_at_call 131; refine (must_any _ _).mono ?_; rintro e w' ⟨⟨hmust, rfl⟩ | ⟨hmust, rfl⟩, rfl⟩ <;> (try (cases hmust; done)))
          all_goals first
            | (refine ⟨rfl, .inr ⟨?_, rfl⟩, HOE.out _⟩
               rw [HOK.out, HT.out]
               rw [Bool.eq_iff_iff]
               simp_all)
            | (go_ret
               have hok : Pl.litOk i x = true := by
                 have h9 := HALL.out
                 rw [HTK.out] at h9
                 rw [HOK.out, HT.out, h9]
                 rw [Bool.eq_iff_iff]
                 simp_all
               refine ⟨.inl ⟨hok, ret_int (by rw [HDA.out, HTK.out]; simp), ?_⟩, HOE.out _⟩
               have h8 := HLK.out
               rw [HTK.out] at h8
               refine LookAt.cast (h8.keep (B := w.heap.size) ((Below.refl w.heap.size wr).setCell (p := ⟨w.heap.size + 1, 4, none⟩) (by simp) _) hlt) ?_
               rw [HMA.out, ← HM1.out, Bool.or_assoc])
end Go.Proofs.YtoklnpoacckbfaaGreatDoor
