/- WireReads returns true: words and chunks are read, or refused, just as the document says. -/
import Derived.Test.YtidflgagcamdpaaV
namespace Go.Proofs.Ytidflgagcamdpaa
open Go.RowKit Go.Lib
set_option maxRecDepth 100000 in
set_option maxHeartbeats 1000000 in
theorem reads_far (b : ByteArray) (at_ : Int) (w : World) (h : 33554431 < (b.size : Int)) : Calls Try.prog 6 #[.string b, .int .i64 at_] w (Yes w) := by
  go_enter Try.func6, Try.ntmps6
  go_wp2_with fail
  refine (works_any _).mono ?_
  rintro e w1 ⟨rfl, b1⟩
  go_wp2_with fail
  go_ret
  exact ⟨rfl, b1⟩
theorem Owns.drewN {w : World} {base : Nat} {e : TypeId} {size : Nat} {v : Value} {n : Nat} {xs : List Value} (h : Owns w base e size v n xs) (k : Nat) : Owns (w.drewN k) base e size v n xs := h
theorem chunks_few (b : List UInt8) (h : b.length ≤ 33554431) : (chunksOf b).1.length ≤ 33554431 := by
  have hl := chunksOf_law b
  by_cases h0 : (chunksOf b).2.1 = 0
  · have h1 := (hl.1 h0).1
    have h2 := catC_len (chunksOf b).1
    rw [h1] at h2; omega
  · rw [hl.2 h0]; simp
theorem Owns.blocks {w w' : World} {base : Nat} {e : TypeId} {size : Nat} {v : Value} {n : Nat} {xs : List Value} (h : Owns w base e size v n xs) (hb : ∀ g, v.ownBlock = some g → w'.heap[g]? = w.heap[g]?) : Owns w' base e size v n xs := by
  refine ⟨h.1, ?_⟩
  rcases h.2 with hn | ⟨g, cap, cur, fz, rfl, hb1, hgg, rest⟩
  · exact .inl hn
  · exact .inr ⟨g, cap, cur, fz, rfl, hb1, (hb g rfl).trans hgg, rest⟩
def two (v1 v2 : Value) (i : Nat) : Value := if i = 0 then v1 else v2
/-- The two lists, in the book. -/
theorem book_lists {w : World} {B b G cl k s : Nat} {v1 v2 fv : Value} {xs : List Value} (h1 : Owns w B 60 2 v1 k xs) (h2 : Owns w B 60 2 v2 k xs) (hf : Owns w B 42 1 fv 2 [v1, v2]) (hfv : fv = .slice (some ⟨G, 0, none⟩) 2 cl)
    (hv12 : ∀ j, v1.ownBlock = some j → v2.ownBlock ≠ some j) (l1 : ∀ j, v1.ownBlock = some j → j < s) (l2 : ∀ j, v2.ownBlock = some j → j < s) (hG : s ≤ G) (hb : Book w b fv) (hbs : s ≤ b) :
    LL b (bookObj fv) w B G 2 (two v1 v2) (fun _ => k) (fun _ => xs) := by
  have hr := hf.reads G _ _ hfv
  have hlt := (hf.lt G (by rw [hfv]; rfl)).2
  have ob : ∀ i, i < 2 → ∀ j, (two v1 v2 i).ownBlock = some j → j < s := by
    intro i hi j hj
    unfold two at hj
    split at hj
    · exact l1 j hj
    · exact l2 j hj
  refine ⟨fun i hi => ?_, fun i hi => ?_, fun i j hi hj hne => ?_, fun i hi e => ?_, hlt, hb, fun i hi e => ?_⟩
  · match i, hi with
    | 0, _ => exact hr 0 v1 rfl
    | 1, _ => exact hr 1 v2 rfl
  · unfold two; split
    · exact h1
    · exact h2
  · match i, j, hi, hj with
    | 0, 0, _, _ => exact absurd rfl hne
    | 1, 1, _, _ => exact absurd rfl hne
    | 0, 1, _, _ =>
      show v1.ownBlock = none ∨ v1.ownBlock ≠ v2.ownBlock
      cases h : v1.ownBlock with
      | none => exact .inl rfl
      | some x => right; exact fun e => hv12 x h e.symm
    | 1, 0, _, _ =>
      show v2.ownBlock = none ∨ v2.ownBlock ≠ v1.ownBlock
      cases h : v1.ownBlock with
      | none => cases h2 : v2.ownBlock with
        | none => exact .inl rfl
        | some y => exact .inr (by simp)
      | some x => right; exact hv12 x h
  · have := ob i hi G e; omega
  · have := ob i hi b e; omega
def CO (fs : List Fl) (E A : Nat) (w : World) (e : Ending) (w' : World) : Prop :=
  ∃ a c, e = .returned (.tuple #[.slice a fs.length c, .int .i64 (E : Nat), .int .i64 (A : Nat)]) ∧ Owns w' w.heap.size 60 2 (.slice a fs.length c) fs.length (fcells fs) ∧ Below w.heap.size w w'
theorem both_chunks (b : ByteArray) (hb : b.size ≤ 33554431) : ∃ fs E A, (∀ w, Calls Try.prog 21 #[.string b] w (CO fs E A w)) ∧ (∀ w, Calls Try.prog 22 #[.string b] w (CO fs E A w)) ∧ fs.length ≤ 33554431 := by
  refine ⟨(chunksOf b.data.toList).1, (chunksOf b.data.toList).2.1, (chunksOf b.data.toList).2.2, fun w => ?_, fun w => ?_, chunks_few _ (by simpa using hb)⟩
  · refine (chunks_any b w hb).mono ?_
    rintro e w' ⟨v, rfl, ho, hb⟩
    obtain ⟨a, c, rfl⟩ := ho.form
    exact ⟨a, c, rfl, ho, hb⟩
  · refine (rchunks_any b w hb).mono ?_
    rintro e w' ⟨v, rfl, ho, hb⟩
    obtain ⟨a, c, rfl⟩ := ho.form
    exact ⟨a, c, rfl, ho, hb⟩
set_option maxRecDepth 100000 in
set_option maxHeartbeats 4000000 in
theorem reads_near (b : ByteArray) (at_ : Int) (w : World) (hb : b.size ≤ 33554431) (h0 : -9223372036854775808 ≤ at_) (h1 : at_ ≤ 9223372036854775807) :
    Calls Try.prog 6 #[.string b, .int .i64 at_] w (Yes w) := by
  obtain ⟨fs, E, A, hC1, hC2, hfs⟩ := both_chunks b hb
  have HC1 := Lib.hid hC1
  have HC2 := Lib.hid hC2
  clear hC1 hC2
  go_enter Try.func6, Try.ntmps6
  go_wp2_with fail
  refine (works_any _).mono ?_
  rintro e w1 ⟨rfl, b1⟩
  have B1 := Lib.hid b1
  clear b1
  go_wp2_with fail
  refine (take_any b at_ _ (by omega) h0 h1).mono ?_
  rintro e w' ⟨rfl, rfl⟩
  go_wp2_with fail
  refine (rtake_any b at_ _ (by omega) h0 h1).mono ?_
  rintro e w' ⟨rfl, rfl⟩
  generalize (takeOf b.data.toList at_).1 = t1
  generalize (takeOf b.data.toList at_).2.1 = t2
  generalize (takeOf b.data.toList at_).2.2 = t3
  go_wp2_with fail
  refine (next_any b at_ _ (by omega) h0 h1).mono ?_
  rintro e w2 ⟨rfl, b2⟩
  have B2 := Lib.hid (B1.out.trans (b2.mono B1.out.size))
  clear b2
  go_wp2_with fail
  refine (rnext_any b at_ _ (by omega) h0 h1).mono ?_
  rintro e w3 ⟨rfl, b3⟩
  have B3 := Lib.hid (B2.out.trans (b3.mono B2.out.size))
  clear b3
  generalize bs (nextOf b.data.toList at_).1 = n1
  generalize bs (nextOf b.data.toList at_).2.1 = n2
  generalize (nextOf b.data.toList at_).2.2.1 = n3
  generalize (nextOf b.data.toList at_).2.2.2 = n4
  go_wp2_with fail
  refine (HC1.out _).mono ?_
  rintro e w4 ⟨a1, c1, rfl, o1, b4⟩
  have B4 := Lib.hid (B3.out.trans (b4.mono B3.out.size))
  have O1 := Lib.hid (o1.base_le B3.out.size)
  have L1 : Hid (∀ j, (Value.slice a1 fs.length c1).ownBlock = some j → j < w4.heap.size) := fun j hj => (o1.lt j hj).2
  clear b4 o1
  go_wp2_with fail
  refine (HC1.out _).mono ?_
  rintro e w5 ⟨a2, c2, rfl, o2, b5⟩
  have B5 := Lib.hid (B4.out.trans (b5.mono B4.out.size))
  have O2 := Lib.hid (o2.base_le B4.out.size)
  have P1 := Lib.hid (O1.out.below b5 L1.out)
  have HAP : Hid (∀ j, (Value.slice a1 fs.length c1).ownBlock = some j → (Value.slice a2 fs.length c2).ownBlock ≠ some j) := by
    intro j hj hj2
    have h1 := (o2.lt j hj2).1
    have h2 := L1.out j hj
    omega
  have M1 : Hid (∀ j, (Value.slice a1 fs.length c1).ownBlock = some j → j < w5.heap.size) := fun j hj => Nat.lt_of_lt_of_le (L1.out j hj) b5.size
  have M2 : Hid (∀ j, (Value.slice a2 fs.length c2).ownBlock = some j → j < w5.heap.size) := fun j hj => (o2.lt j hj).2
  clear b5 o2 O1 L1
  go_wp2_with fail
  refine (HC2.out _).mono ?_
  rintro e w6 ⟨a3, c3, rfl, o3, b6⟩
  have B6 := Lib.hid (B5.out.trans (b6.mono B5.out.size))
  have O3 := Lib.hid (o3.base_le B5.out.size)
  have Q1 := Lib.hid (P1.out.below b6 M1.out)
  have Q2 := Lib.hid (O2.out.below b6 M2.out)
  have N1 : Hid (∀ j, (Value.slice a1 fs.length c1).ownBlock = some j → j < w6.heap.size) := fun j hj => Nat.lt_of_lt_of_le (M1.out j hj) b6.size
  have N2 : Hid (∀ j, (Value.slice a2 fs.length c2).ownBlock = some j → j < w6.heap.size) := fun j hj => Nat.lt_of_lt_of_le (M2.out j hj) b6.size
  clear b6 o3 P1 O2 M1 M2
  go_wp2_with fail
  refine (samefiles_any _ _ _ _ fs _ Q1.out O3.out hfs).mono ?_
  rintro e w' ⟨rfl, d1, rfl⟩
  go_wp2_with fail
  refine (samefiles_any _ _ _ _ fs _ (Q2.out.drewN d1) (O3.out.drewN d1) hfs).mono ?_
  rintro e w' ⟨rfl, d2, rfl⟩
  have R1 := Lib.hid ((Q1.out.drewN d1).drewN d2)
  have R2 := Lib.hid ((Q2.out.drewN d1).drewN d2)
  have BR := Lib.hid (below_drewN (below_drewN B6.out d1) d2)
  have S1 : Hid (∀ j, (Value.slice a1 fs.length c1).ownBlock = some j → j < ((w6.drewN d1).drewN d2).heap.size) := N1
  have S2 : Hid (∀ j, (Value.slice a2 fs.length c2).ownBlock = some j → j < ((w6.drewN d1).drewN d2).heap.size) := N2
  generalize (w6.drewN d1).drewN d2 = w7 at R1 R2 BR S1 S2 ⊢
  go_wp2_with fail
  have hb7 : Book (w7.alloc (.cells #[.slice none 0 0, .slice none 0 0, .slice none 0 0, .slice none 0 0, .slice none 0 0, .slice none 0 0, .slice none 0 0, .slice none 0 0] 56)) w7.heap.size (.slice none 0 0) := heap_alloc_new w7 _
  refine (files_any w.heap.size w7.heap.size (.slice none 0 0) 0 [] _ _ _ _ hb7 (Owns.nil _ _ _ _) (by simp [Value.ownBlock]) BR.out.size (by omega)).mono ?_
  rintro e w8 ⟨rfl, fv1, hb8, of1, nb1, fr1, sz8, bl8, kp8⟩
  have T1 := Lib.hid (Owns.blocks (R1.out.alloc (.cells #[.slice none 0 0, .slice none 0 0, .slice none 0 0, .slice none 0 0, .slice none 0 0, .slice none 0 0, .slice none 0 0, .slice none 0 0] 56)) (w' := w8) (fun g hg => kp8 g (by have := S1.out g hg; simp; omega) (by have := S1.out g hg; omega) (by simp [Value.ownBlock])))
  have T2 := Lib.hid (Owns.blocks (R2.out.alloc (.cells #[.slice none 0 0, .slice none 0 0, .slice none 0 0, .slice none 0 0, .slice none 0 0, .slice none 0 0, .slice none 0 0, .slice none 0 0] 56)) (w' := w8) (fun g hg => kp8 g (by have := S2.out g hg; simp; omega) (by have := S2.out g hg; omega) (by simp [Value.ownBlock])))
  simp only [Nat.zero_add, List.nil_append] at of1
  have FR1 : Hid (∀ j, fv1.ownBlock = some j → w7.heap.size + 1 ≤ j) := by
    intro j hj
    rcases fr1 with h | h
    · rw [h] at hj; cases hj
    · have := h j hj; simpa using this
  have HB8 := Lib.hid hb8
  have OF1 := Lib.hid of1
  have NB1 := Lib.hid nb1
  have z8 : w7.heap.size + 1 ≤ w8.heap.size := by simpa using sz8
  have B8 := Lib.hid (show Below w.heap.size w w8 from (BR.out.alloc BR.out.size _).trans bl8)
  obtain ⟨af1, cf1, rfl⟩ := of1.form
  clear hb8 of1 nb1 fr1 sz8 bl8 kp8 hb7 R1 R2
  go_wp2_with fail
  refine (files_any w.heap.size w7.heap.size _ 1 _ _ _ _ _ HB8.out OF1.out NB1.out BR.out.size (by omega)).mono ?_
  rintro e w9 ⟨rfl, fv2, hb9, of2, nb2, fr2, sz9, bl9, kp9⟩
  have U1 := Lib.hid (T1.out.blocks (w' := w9) (fun g hg => kp9 g (by have := S1.out g hg; omega) (by have := S1.out g hg; omega) (by intro h; have h1 := FR1.out g h.symm; have := S1.out g hg; omega)))
  have U2 := Lib.hid (T2.out.blocks (w' := w9) (fun g hg => kp9 g (by have := S2.out g hg; omega) (by have := S2.out g hg; omega) (by intro h; have h1 := FR1.out g h.symm; have := S2.out g hg; omega)))
  have FR2 : Hid (∀ j, fv2.ownBlock = some j → w7.heap.size ≤ j) := by
    intro j hj
    rcases fr2 with h | h
    · rw [h] at hj; have := FR1.out j hj; omega
    · have := h j hj; omega
  obtain ⟨G, cl, hfv2, _⟩ := of2.some_of (by omega)
  have HLL := Lib.hid (book_lists U1.out U2.out of2 hfv2 HAP.out S1.out S2.out (FR2.out G (by rw [hfv2]; rfl)) hb9 (Nat.le_refl _))
  have B9 := Lib.hid (show Below w.heap.size w w9 from B8.out.trans bl9)
  rw [hfv2] at HLL
  clear hb9 of2 nb2 fr2 sz9 bl9 kp9 T1 T2 hfv2 FR2 FR1
  go_wp2_with fail
  refine (bookown_any w.heap.size w7.heap.size G 2 cl _ _ _ _ HLL.out (by omega) (fun _ _ => hfs) B9.out.size).mono ?_
  rintro e w10 ⟨rfl, b10⟩
  have B10 := Lib.hid (B9.out.trans b10)
  clear b10
  go_wp2_with fail
  go_ret
  exact ⟨rfl, B10.out⟩
theorem wireReads_walk (a0 : ByteArray) (a1 : Int) (w0 : a0.size ≤ maxLen) (w1 : (Lit.int .i64 a1).wf = true) (w : World) :
    Calls Try.prog 6 #[.string a0, .int .i64 a1] w fun e w' => e = .returned (.bool true) ∧ Below w.heap.size w w' := by
  obtain ⟨h1, h2⟩ := wf_i64 w1
  have _u0 := w0
  by_cases hf : 33554431 < (a0.size : Int)
  · exact reads_far a0 a1 w hf
  · exact reads_near a0 a1 w (by omega) h1 h2
end Go.Proofs.Ytidflgagcamdpaa
