/- tree.must; tree's literal at most kinds. tree's literal at floats, bytes, unknown kinds. -/
import Derived.Test.YtoklnpoacckbfaaGreatDoorKaas
namespace Go.Proofs.YtoklnpoacckbfaaGreatDoor
open Go.RowKit
/-- what ends a look -/
def wrong : List PanicEntry := [{ v := .iface 180 (.agg #[.int .i64 150]), recovered := false }]
theorem must_true (w : World) : Calls Tryz.prog 131 #[.bool true] w fun e w' => e = .returned (.tuple #[]) ∧ w = w' := by
  go_enter Tryz.func131, Tryz.ntmps131
  go_wp2_with fail
  go_end0
  exact ⟨rfl, rfl⟩
theorem must_false (w : World) : Calls Tryz.prog 131 #[.bool false] w fun e w' => e = .panicked wrong ∧ w = w' := by
  go_enter Tryz.func131, Tryz.ntmps131
  go_wp2_with fail
  exact ⟨rfl, rfl, rfl⟩
theorem must_any (b : Bool) (w : World) : Calls Tryz.prog 131 #[.bool b] w fun e w' => (b = true ∧ e = .returned (.tuple #[]) ∨ b = false ∧ e = .panicked wrong) ∧ w = w' := by
  cases b
  · exact (must_false w).mono fun e w' ⟨h1, h2⟩ => ⟨.inr ⟨rfl, h1⟩, h2⟩
  · exact (must_true w).mono fun e w' ⟨h1, h2⟩ => ⟨.inl ⟨rfl, h1⟩, h2⟩
/-- what a look has met -/
structure LookAt (w : World) (P : Nat) (m d : Bool) : Prop where
  c0 : w.cell? ⟨P, 0, none⟩ = some (.bool m)
  c1 : w.cell? ⟨P, 1, none⟩ = some (.bool d)
  f0 : w.frozen? ⟨P, 0, none⟩ = false
  f1 : w.frozen? ⟨P, 1, none⟩ = false
  lt : P < w.heap.size
theorem LookAt.keep {w w' : World} {P : Nat} {m d : Bool} (h : LookAt w P m d) {B : Nat} (hb : Below B w w') (hB : P < B) : LookAt w' P m d :=
  ⟨by rw [hb.cell (p := ⟨P, 0, none⟩) hB]; exact h.c0, by rw [hb.cell (p := ⟨P, 1, none⟩) hB]; exact h.c1, by rw [hb.frozen (p := ⟨P, 0, none⟩) hB]; exact h.f0, by rw [hb.frozen (p := ⟨P, 1, none⟩) hB]; exact h.f1, Nat.lt_of_lt_of_le h.lt hb.size⟩
/-- nothing that lay there turns but block P -/
structure Only (P : Nat) (w w' : World) : Prop where
  low : Below P w w'
  rest : ∀ k, k < w.heap.size → k ≠ P → w'.heap[k]? = w.heap[k]?
theorem Only.of_below {P : Nat} {w w' : World} (hb : Below w.heap.size w w') (hP : P < w.heap.size) : Only P w w' := ⟨hb.mono (by omega), fun k hk _ => hb.block k hk⟩
theorem Only.refl {P : Nat} {w : World} : Only P w w := ⟨Below.refl _ _, fun _ _ _ => rfl⟩
theorem Only.trans {P : Nat} {a b c : World} (h : Only P a b) (k : Only P b c) : Only P a c :=
  ⟨h.low.trans k.low, fun j hj hne => (k.rest j (Nat.lt_of_lt_of_le hj h.low.size) hne).trans (h.rest j hj hne)⟩
theorem Only.set (w : World) (P : Nat) (v : Value) : Only P w (w.setCell ⟨P, 0, none⟩ v) :=
  ⟨(Below.refl P w).setCell (p := ⟨P, 0, none⟩) (Nat.le_refl _) _, fun k _ hne => Below.heap_setCell w ⟨P, 0, none⟩ v k hne⟩
theorem Only.cell {P : Nat} {w w' : World} (h : Only P w w') {b o : Nat} (hb : b < w.heap.size) (hne : b ≠ P) : w'.cell? ⟨b, o, none⟩ = w.cell? ⟨b, o, none⟩ := World.cell?_of_block (w := w) (h.rest b hb hne)
theorem Only.frozen {P : Nat} {w w' : World} (h : Only P w w') {b o : Nat} (hb : b < w.heap.size) (hne : b ≠ P) : w'.frozen? ⟨b, o, none⟩ = w.frozen? ⟨b, o, none⟩ := World.frozen?_of_block (w := w) (h.rest b hb hne)
/-- how a look at a literal ends -/
def LitEnd (P : Nat) (x : Pl.Lit) (i m d : Bool) (w : World) (e : Ending) (w' : World) : Prop :=
  (Pl.litOk i x = true ∧ e = .returned (.int .i64 (Pl.litDeep x : Nat)) ∧ LookAt w' P (m || Pl.litMany x) d ∨ Pl.litOk i x = false ∧ e = .panicked wrong) ∧ Only P w w'
namespace Pl
theorem deep_flat {x : Lit} (h : x.kind ≠ 10) : litDeep x = 0 := by cases x; simp only [Lit.kind] at h; simp only [litDeep]; rw [if_neg h]
theorem many_none {x : Lit} (h : x.items = []) (hk : x.kind ≠ 11) : litMany x = false := by cases x; simp only [Lit.kind] at hk; simp only [Lit.items] at h; subst h; simp [litMany, litsMany, hk]
theorem many_bytes {x : Lit} (h : x.items = []) (hk : x.kind = 11) : litMany x = decide (255 < x.text.size) := by cases x; simp only [Lit.kind] at hk; simp only [Lit.items] at h; subst h; simp [litMany, litsMany, hk, Lit.text]; try rfl
end Pl
set_option maxRecDepth 100000 in
set_option maxHeartbeats 4000000 in
theorem tlit_small {B : Nat} {v : Value} (x : Pl.Lit) (i m d : Bool) (P : Nat) (w : World) (hv : LitsAt B w x.items v) (hxw : Pl.LitW x) (hL : LookAt w P m d) (hk : x.kind = 4) :
    Calls Tryz.prog 230 #[.pointer (some ⟨P, 0, none⟩), litV x v, .bool i] w (LitEnd P x i m d w) := by
  have HOK := Lib.hid (Pl.ok_small (b := i) hk)
  have HI := Lib.hid (Pl.isEmpty_eq x.items)
  have HT := Lib.hid (Pl.noText_eq x.text)
  have HD := Lib.hid (Pl.deep_flat (x := x) (by omega))
  have HM := Lib.hid (fun h => Pl.many_none (x := x) h (by omega))
  have HL := Lib.hid hL
  have hlt := hL.lt
  obtain ⟨A, cap, V, rfl, _, hrow, _, _⟩ := hv.out
  have h1 := hrow.le
  have h2 := hrow.len
  have hn0 := hxw.n0
  have hn1 := hxw.n1
  have hbt := hxw.b
  unfold litV
  clear hL
  rw [hk]
  all_goals
    go_enter Tryz.func230, Tryz.ntmps230
    go_wp2_with (go_at_call 131; refine (must_any _ _).mono ?_; rintro e w' ⟨⟨hmust, rfl⟩ | ⟨hmust, rfl⟩, rfl⟩ <;> (try (cases hmust; done)))
    all_goals first
      | (refine ⟨rfl, .inr ⟨?_, rfl⟩, Only.of_below (((Below.refl w.heap.size w).alloc (Nat.le_refl _) _).alloc (by simp) _) hlt⟩
         rw [HOK.out]
         try rw [HI.out]
         try rw [HT.out]
         rw [Bool.eq_iff_iff]
         simp_all
         try (intros; omega))
      | (go_ret
         have hok : Pl.litOk i x = true := by
           rw [HOK.out]
           try rw [HI.out]
           try rw [HT.out]
           rw [Bool.eq_iff_iff]
           simp_all
           try (intros; omega)
         have hit : x.items = [] := by
           have h3 := hok
           rw [HOK.out] at h3
           simp only [Bool.and_eq_true, List.isEmpty_iff] at h3
           exact h3.2
         refine ⟨.inl ⟨hok, ret_int (by rw [HD.out]; rfl), ?_⟩, Only.of_below (((Below.refl w.heap.size w).alloc (Nat.le_refl _) _).alloc (by simp) _) hlt⟩
         rw [HM.out hit, Bool.or_false]
         exact HL.out.keep (((Below.refl w.heap.size w).alloc (Nat.le_refl _) _).alloc (by simp) _) HL.out.lt)
set_option maxRecDepth 100000 in
set_option maxHeartbeats 4000000 in
theorem tlit_sing_t {B : Nat} {v : Value} (x : Pl.Lit) (m d : Bool) (P : Nat) (w : World) (hv : LitsAt B w x.items v) (hxw : Pl.LitW x) (hL : LookAt w P m d) (hk : x.kind = 1 ∨ x.kind = 2 ∨ x.kind = 3) :
    Calls Tryz.prog 230 #[.pointer (some ⟨P, 0, none⟩), litV x v, .bool true] w (LitEnd P x true m d w) := by
  have HOK := Lib.hid (Pl.ok_sing (b := true) hk)
  have HI := Lib.hid (Pl.isEmpty_eq x.items)
  have HT := Lib.hid (Pl.noText_eq x.text)
  have HD := Lib.hid (Pl.deep_flat (x := x) (by omega))
  have HM := Lib.hid (fun h => Pl.many_none (x := x) h (by omega))
  have HL := Lib.hid hL
  have hlt := hL.lt
  obtain ⟨A, cap, V, rfl, _, hrow, _, _⟩ := hv.out
  have h1 := hrow.le
  have h2 := hrow.len
  have hn0 := hxw.n0
  have hn1 := hxw.n1
  have hbt := hxw.b
  unfold litV
  clear hL
  rcases hk with hk | hk | hk
  all_goals rw [hk]
  all_goals
    go_enter Tryz.func230, Tryz.ntmps230
    go_wp2_with (go_at_call 131; refine (must_any _ _).mono ?_; rintro e w' ⟨⟨hmust, rfl⟩ | ⟨hmust, rfl⟩, rfl⟩ <;> (try (cases hmust; done)))
    all_goals first
      | (refine ⟨rfl, .inr ⟨?_, rfl⟩, Only.of_below (((Below.refl w.heap.size w).alloc (Nat.le_refl _) _).alloc (by simp) _) hlt⟩
         rw [HOK.out]
         try rw [HI.out]
         try rw [HT.out]
         rw [Bool.eq_iff_iff]
         simp_all
         try (intros; omega))
      | (go_ret
         have hok : Pl.litOk true x = true := by
           rw [HOK.out]
           try rw [HI.out]
           try rw [HT.out]
           rw [Bool.eq_iff_iff]
           simp_all
           try (intros; omega)
         have hit : x.items = [] := by
           have h3 := hok
           rw [HOK.out] at h3
           simp only [Bool.and_eq_true, List.isEmpty_iff] at h3
           exact h3.2
         refine ⟨.inl ⟨hok, ret_int (by rw [HD.out]; rfl), ?_⟩, Only.of_below (((Below.refl w.heap.size w).alloc (Nat.le_refl _) _).alloc (by simp) _) hlt⟩
         rw [HM.out hit, Bool.or_false]
         exact HL.out.keep (((Below.refl w.heap.size w).alloc (Nat.le_refl _) _).alloc (by simp) _) HL.out.lt)
set_option maxRecDepth 100000 in
set_option maxHeartbeats 4000000 in
theorem tlit_sing_f {B : Nat} {v : Value} (x : Pl.Lit) (m d : Bool) (P : Nat) (w : World) (hv : LitsAt B w x.items v) (hxw : Pl.LitW x) (hL : LookAt w P m d) (hk : x.kind = 1 ∨ x.kind = 2 ∨ x.kind = 3) :
    Calls Tryz.prog 230 #[.pointer (some ⟨P, 0, none⟩), litV x v, .bool false] w (LitEnd P x false m d w) := by
  have HOK := Lib.hid (Pl.ok_sing (b := false) hk)
  have HI := Lib.hid (Pl.isEmpty_eq x.items)
  have HT := Lib.hid (Pl.noText_eq x.text)
  have HD := Lib.hid (Pl.deep_flat (x := x) (by omega))
  have HM := Lib.hid (fun h => Pl.many_none (x := x) h (by omega))
  have HL := Lib.hid hL
  have hlt := hL.lt
  obtain ⟨A, cap, V, rfl, _, hrow, _, _⟩ := hv.out
  have h1 := hrow.le
  have h2 := hrow.len
  have hn0 := hxw.n0
  have hn1 := hxw.n1
  have hbt := hxw.b
  unfold litV
  clear hL
  rcases hk with hk | hk | hk
  all_goals rw [hk]
  all_goals
    go_enter Tryz.func230, Tryz.ntmps230
    go_wp2_with (go_at_call 131; refine (must_any _ _).mono ?_; rintro e w' ⟨⟨hmust, rfl⟩ | ⟨hmust, rfl⟩, rfl⟩ <;> (try (cases hmust; done)))
    all_goals first
      | (refine ⟨rfl, .inr ⟨?_, rfl⟩, Only.of_below (((Below.refl w.heap.size w).alloc (Nat.le_refl _) _).alloc (by simp) _) hlt⟩
         rw [HOK.out]
         try rw [HI.out]
         try rw [HT.out]
         rw [Bool.eq_iff_iff]
         simp_all
         try (intros; omega))
      | (go_ret
         have hok : Pl.litOk false x = true := by
           rw [HOK.out]
           try rw [HI.out]
           try rw [HT.out]
           rw [Bool.eq_iff_iff]
           simp_all
           try (intros; omega)
         have hit : x.items = [] := by
           have h3 := hok
           rw [HOK.out] at h3
           simp only [Bool.and_eq_true, List.isEmpty_iff] at h3
           exact h3.2
         refine ⟨.inl ⟨hok, ret_int (by rw [HD.out]; rfl), ?_⟩, Only.of_below (((Below.refl w.heap.size w).alloc (Nat.le_refl _) _).alloc (by simp) _) hlt⟩
         rw [HM.out hit, Bool.or_false]
         exact HL.out.keep (((Below.refl w.heap.size w).alloc (Nat.le_refl _) _).alloc (by simp) _) HL.out.lt)
set_option maxRecDepth 100000 in
set_option maxHeartbeats 4000000 in
theorem tlit_char {B : Nat} {v : Value} (x : Pl.Lit) (i m d : Bool) (P : Nat) (w : World) (hv : LitsAt B w x.items v) (hxw : Pl.LitW x) (hL : LookAt w P m d) (hk : x.kind = 7) :
    Calls Tryz.prog 230 #[.pointer (some ⟨P, 0, none⟩), litV x v, .bool i] w (LitEnd P x i m d w) := by
  have HOK := Lib.hid (Pl.ok_char (b := i) hk)
  have HI := Lib.hid (Pl.isEmpty_eq x.items)
  have HT := Lib.hid (Pl.noText_eq x.text)
  have HD := Lib.hid (Pl.deep_flat (x := x) (by omega))
  have HM := Lib.hid (fun h => Pl.many_none (x := x) h (by omega))
  have HL := Lib.hid hL
  have hlt := hL.lt
  obtain ⟨A, cap, V, rfl, _, hrow, _, _⟩ := hv.out
  have h1 := hrow.le
  have h2 := hrow.len
  have hn0 := hxw.n0
  have hn1 := hxw.n1
  have hbt := hxw.b
  unfold litV
  clear hL
  rw [hk]
  all_goals
    go_enter Tryz.func230, Tryz.ntmps230
    go_wp2_with (go_at_call 131; refine (must_any _ _).mono ?_; rintro e w' ⟨⟨hmust, rfl⟩ | ⟨hmust, rfl⟩, rfl⟩ <;> (try (cases hmust; done)))
    all_goals first
      | (refine ⟨rfl, .inr ⟨?_, rfl⟩, Only.of_below (((Below.refl w.heap.size w).alloc (Nat.le_refl _) _).alloc (by simp) _) hlt⟩
         rw [HOK.out]
         try rw [HI.out]
         try rw [HT.out]
         rw [Bool.eq_iff_iff]
         simp_all
         try (intros; omega))
      | (go_ret
         have hok : Pl.litOk i x = true := by
           rw [HOK.out]
           try rw [HI.out]
           try rw [HT.out]
           rw [Bool.eq_iff_iff]
           simp_all
           try (intros; omega)
         have hit : x.items = [] := by
           have h3 := hok
           rw [HOK.out] at h3
           simp only [Bool.and_eq_true, List.isEmpty_iff] at h3
           exact h3.2
         refine ⟨.inl ⟨hok, ret_int (by rw [HD.out]; rfl), ?_⟩, Only.of_below (((Below.refl w.heap.size w).alloc (Nat.le_refl _) _).alloc (by simp) _) hlt⟩
         rw [HM.out hit, Bool.or_false]
         exact HL.out.keep (((Below.refl w.heap.size w).alloc (Nat.le_refl _) _).alloc (by simp) _) HL.out.lt)
set_option maxRecDepth 100000 in
set_option maxHeartbeats 4000000 in
theorem tlit_text {B : Nat} {v : Value} (x : Pl.Lit) (i m d : Bool) (P : Nat) (w : World) (hv : LitsAt B w x.items v) (hxw : Pl.LitW x) (hL : LookAt w P m d) (hk : x.kind = 8 ∨ x.kind = 9) :
    Calls Tryz.prog 230 #[.pointer (some ⟨P, 0, none⟩), litV x v, .bool i] w (LitEnd P x i m d w) := by
  have HOK := Lib.hid (Pl.ok_text (b := i) (x := x) (by omega))
  have HI := Lib.hid (Pl.isEmpty_eq x.items)
  have HT := Lib.hid (Pl.noText_eq x.text)
  have HD := Lib.hid (Pl.deep_flat (x := x) (by omega))
  have HM := Lib.hid (fun h => Pl.many_none (x := x) h (by omega))
  have HL := Lib.hid hL
  have hlt := hL.lt
  obtain ⟨A, cap, V, rfl, _, hrow, _, _⟩ := hv.out
  have h1 := hrow.le
  have h2 := hrow.len
  have hn0 := hxw.n0
  have hn1 := hxw.n1
  have hbt := hxw.b
  unfold litV
  clear hL
  rcases hk with hk | hk
  all_goals rw [hk]
  all_goals
    go_enter Tryz.func230, Tryz.ntmps230
    go_wp2_with (go_at_call 131; refine (must_any _ _).mono ?_; rintro e w' ⟨⟨hmust, rfl⟩ | ⟨hmust, rfl⟩, rfl⟩ <;> (try (cases hmust; done)))
    all_goals first
      | (refine ⟨rfl, .inr ⟨?_, rfl⟩, Only.of_below (((Below.refl w.heap.size w).alloc (Nat.le_refl _) _).alloc (by simp) _) hlt⟩
         rw [HOK.out]
         try rw [HI.out]
         try rw [HT.out]
         rw [Bool.eq_iff_iff]
         simp_all
         try (intros; omega))
      | (go_ret
         have hok : Pl.litOk i x = true := by
           rw [HOK.out]
           try rw [HI.out]
           try rw [HT.out]
           rw [Bool.eq_iff_iff]
           simp_all
           try (intros; omega)
         have hit : x.items = [] := by
           have h3 := hok
           rw [HOK.out] at h3
           simp only [Bool.and_eq_true, List.isEmpty_iff] at h3
           exact h3.2
         refine ⟨.inl ⟨hok, ret_int (by rw [HD.out]; rfl), ?_⟩, Only.of_below (((Below.refl w.heap.size w).alloc (Nat.le_refl _) _).alloc (by simp) _) hlt⟩
         rw [HM.out hit, Bool.or_false]
         exact HL.out.keep (((Below.refl w.heap.size w).alloc (Nat.le_refl _) _).alloc (by simp) _) HL.out.lt)
end Go.Proofs.YtoklnpoacckbfaaGreatDoor
namespace Go.Proofs.YtoklnpoacckbfaaGreatDoor
open Go.RowKit
theorem LookAt.set {w : World} {P : Nat} {m d : Bool} (h : LookAt w P m d) (b : Bool) : LookAt (w.setCell ⟨P, 0, none⟩ (.bool b)) P b d := by
  obtain ⟨h0, h1, h2, h3, h4⟩ := h
  exact ⟨World.cell?_setCell_same' _ _ _ (by rw [h0]; rfl), by rw [World.cell?_setCell_other _ _ _ _ (by simp)]; exact h1, by rw [World.frozen?_setCell]; exact h2, by rw [World.frozen?_setCell]; exact h3, by simpa using h4⟩
theorem LookAt.cast {w : World} {P : Nat} {m m' d : Bool} (h : LookAt w P m d) (e : m = m') : LookAt w P m' d := by rw [← e]; exact h
set_option maxRecDepth 100000 in
set_option maxHeartbeats 4000000 in
theorem tlit_float {B : Nat} {v : Value} (x : Pl.Lit) (i m d : Bool) (P : Nat) (w : World) (hv : LitsAt B w x.items v) (hxw : Pl.LitW x) (hL : LookAt w P m d) (hk : x.kind = 6) :
    Calls Tryz.prog 230 #[.pointer (some ⟨P, 0, none⟩), litV x v, .bool i] w (LitEnd P x i m d w) := by
  have HOK := Lib.hid (Pl.ok_float (b := i) hk)
  have hlt := hL.lt
  obtain ⟨A, cap, V, rfl, _, hrow, _, _⟩ := hv.out
  have h1 := hrow.le
  have h2 := hrow.len
  have hbt := hxw.b
  have HI := Lib.hid (Pl.isEmpty_eq x.items)
  have HT := Lib.hid (Pl.noText_eq x.text)
  have HD := Lib.hid (Pl.deep_flat (x := x) (by omega))
  have HM := Lib.hid (fun h => Pl.many_none (x := x) h (by omega))
  have HL := Lib.hid hL
  obtain ⟨ex, hexx⟩ : ∃ ex : Nat, x.bits / 4503599627370496 % 2048 = ex := ⟨_, rfl⟩
  have hfl : IntKind.u64.wrap ((x.bits : Int) * 2) / 9007199254740992 = (ex : Int) := by
    rw [IntKind.wrap_u64]; omega
  rw [hexx] at HOK
  clear hexx
  unfold litV
  clear hL
  rw [hk]
  go_enter Tryz.func230, Tryz.ntmps230
  go_wp2_with (go_at_call 131; refine (must_any _ _).mono ?_; rintro e w' ⟨⟨hmust, rfl⟩ | ⟨hmust, rfl⟩, rfl⟩ <;> (try (cases hmust; done)))
  all_goals first
    | (refine ⟨rfl, .inr ⟨?_, rfl⟩, Only.of_below (((Below.refl w.heap.size w).alloc (Nat.le_refl _) _).alloc (by simp) _) hlt⟩
       rw [HOK.out]
       try rw [HI.out]
       try rw [HT.out]
       rw [Bool.eq_iff_iff]
       simp_all
       try (intros; omega))
    | (go_ret
       have hok : Pl.litOk i x = true := by
         rw [HOK.out]
         try rw [HI.out]
         try rw [HT.out]
         rw [Bool.eq_iff_iff]
         simp_all
         try (intros; omega)
       have hit : x.items = [] := by
         have h3 := hok
         rw [HOK.out] at h3
         simp only [Bool.and_eq_true, List.isEmpty_iff] at h3
         exact h3.2
       refine ⟨.inl ⟨hok, ret_int (by rw [HD.out]; rfl), ?_⟩, Only.of_below (((Below.refl w.heap.size w).alloc (Nat.le_refl _) _).alloc (by simp) _) hlt⟩
       rw [HM.out hit, Bool.or_false]
       exact HL.out.keep (((Below.refl w.heap.size w).alloc (Nat.le_refl _) _).alloc (by simp) _) HL.out.lt)
set_option maxRecDepth 100000 in
set_option maxHeartbeats 4000000 in
theorem tlit_none {B : Nat} {v : Value} (x : Pl.Lit) (i m d : Bool) (P : Nat) (w : World) (hv : LitsAt B w x.items v) (hL : LookAt w P m d) (hk : x.kind = 0 ∨ 12 ≤ x.kind) :
    Calls Tryz.prog 230 #[.pointer (some ⟨P, 0, none⟩), litV x v, .bool i] w (LitEnd P x i m d w) := by
  have HOK := Lib.hid (Pl.ok_none (b := i) hk)
  have hlt := hL.lt
  have e1 : ((x.kind : Int) == 1) = false := by simp; omega
  have e2 : ((x.kind : Int) == 2) = false := by simp; omega
  have e3 : ((x.kind : Int) == 3) = false := by simp; omega
  have e4 : ((x.kind : Int) == 4) = false := by simp; omega
  have e5 : ((x.kind : Int) == 5) = false := by simp; omega
  have e6 : ((x.kind : Int) == 6) = false := by simp; omega
  have e7 : ((x.kind : Int) == 7) = false := by simp; omega
  have e8 : ((x.kind : Int) == 8) = false := by simp; omega
  have e9 : ((x.kind : Int) == 9) = false := by simp; omega
  have e10 : ((x.kind : Int) == 10) = false := by simp; omega
  have e11 : ((x.kind : Int) == 11) = false := by simp; omega
  obtain ⟨A, cap, V, rfl, _, hrow, _, _⟩ := hv.out
  clear hk
  unfold litV
  go_enter Tryz.func230, Tryz.ntmps230
  go_wp2_with fail
  refine (must_false _).mono ?_
  rintro e w' ⟨rfl, rfl⟩
  go_wp2_with fail
  exact ⟨rfl, .inr ⟨HOK.out, rfl⟩, Only.of_below (((Below.refl w.heap.size w).alloc (Nat.le_refl _) _).alloc (by simp) _) hlt⟩
set_option maxRecDepth 100000 in
set_option maxHeartbeats 4000000 in
theorem tlit_bytes {B : Nat} {v : Value} (x : Pl.Lit) (i m d : Bool) (P : Nat) (w : World) (hv : LitsAt B w x.items v) (hxw : Pl.LitW x) (hL : LookAt w P m d) (hk : x.kind = 11) :
    Calls Tryz.prog 230 #[.pointer (some ⟨P, 0, none⟩), litV x v, .bool i] w (LitEnd P x i m d w) := by
  have HOK := Lib.hid (Pl.ok_text (b := i) (x := x) (by omega))
  have HI := Lib.hid (Pl.isEmpty_eq x.items)
  have HD := Lib.hid (Pl.deep_flat (x := x) (by omega))
  have HM := Lib.hid (fun h => Pl.many_bytes (x := x) h hk)
  have hlt := hL.lt
  obtain ⟨A, cap, V, rfl, _, hrow, _, _⟩ := hv.out
  have h1 := hrow.le
  have h2 := hrow.len
  have hts := hxw.t
  have HL := Lib.hid hL
  obtain ⟨l0, l1, l2, l3, _⟩ := hL
  have hne : ¬ P = w.heap.size := by omega
  unfold litV
  rw [hk, show ((11 : Nat) : Int) = 11 from rfl]
  clear hk
  cases m
  all_goals
    go_enter Tryz.func230, Tryz.ntmps230
    go_wp2_with (go_at_call 131; refine (must_any _ _).mono ?_; rintro e w' ⟨⟨hmust, rfl⟩ | ⟨hmust, rfl⟩, rfl⟩ <;> (try (cases hmust; done)))
  all_goals first
    | (refine ⟨rfl, .inr ⟨?_, rfl⟩, (Only.set w P _).trans (Only.of_below (((Below.refl _ _).alloc (Nat.le_refl _) _).alloc (by simp) _) (by simp; omega))⟩
       rw [HOK.out, HI.out]
       rw [Bool.eq_iff_iff]
       simp_all)
    | (go_ret
       have hok : Pl.litOk i x = true := by
         rw [HOK.out, HI.out]
         rw [Bool.eq_iff_iff]
         simp_all
       have hit : x.items = [] := by
         have h3 := hok
         rw [HOK.out] at h3
         simp only [Bool.and_eq_true, List.isEmpty_iff] at h3
         exact h3.2
       refine ⟨.inl ⟨hok, ret_int (by rw [HD.out]; rfl), ?_⟩, (Only.set w P _).trans (Only.of_below (((Below.refl _ _).alloc (Nat.le_refl _) _).alloc (by simp) _) (by simp; omega))⟩
       rw [HM.out hit]
       refine LookAt.keep ?_ (((Below.refl w.heap.size _).alloc (by simp) _).alloc (by simp) _) HL.out.lt
       exact LookAt.cast (LookAt.set HL.out _) (by rw [Bool.eq_iff_iff]; simp <;> omega))
end Go.Proofs.YtoklnpoacckbfaaGreatDoor
