/- Words times a word, and a word more, in place: the contract of step. The digits of a large number, plainly: one row for each number. Blocks that hold a large number. Blocks of two cells: locals that hold a number or a large number. Bytes turned round, sought: the contracts of slices.Reverse, slices.Index, slices.Contains. Sums of numbers with signs: the contract of number.add. Large numbers as words, and back: the contracts of two, told. -/
import Derived.Test.YtlodbibagmblkaaGreatDoorPaad
import Derived.Deep.RegionHeld3
namespace Go.Proofs.YtlodbibagmblkaaGreatDoor
open Go.RowKit Go.Lib
/-- words as values -/
def wv (xs : List Nat) : List Value := xs.map fun x => Value.int .u32 (x : Nat)
theorem wv_len (xs : List Nat) : (wv xs).length = xs.length := by simp [wv]
theorem wv_app (a b : List Nat) : wv (a ++ b) = wv a ++ wv b := by simp [wv]
theorem wv_set (xs : List Nat) (k x : Nat) : wv (xs.set k x) = (wv xs).set k (.int .u32 (x : Nat)) := by simp [wv, List.map_set]
theorem wv_get {xs : List Nat} {k : Nat} (h : k < xs.length) : (wv xs)[k]? = some (.int .u32 (xs.getD k 0 : Nat)) := by
  simp [wv, List.getD_eq_getElem?_getD, List.getElem?_eq_getElem h]
/-- words that the call owns -/
def Own4 (w : World) (base : Nat) (v : Value) (xs : List Nat) : Prop := Owns w base 103 1 v xs.length (wv xs)
theorem Own4.rd {w : World} {base : Nat} {v : Value} {xs : List Nat} (h : Own4 w base v xs) : Rd w v xs := by
  rcases h.2 with ⟨h1, h2⟩ | ⟨g, cap, cur, fz, h1, hb, hg, _, hnc, _⟩
  · exact .inl ⟨h1, List.eq_nil_of_length_eq_zero h2⟩
  · refine .inr ⟨g, cap, h1, hnc, (Array.getElem?_eq_some_iff.1 hg).1, fun j x hj => ?_⟩
    have hh := h.1
    subst h1
    exact Owns.cellAt h (by simp [wv, hj])
theorem own4_nil (w : World) (base : Nat) : Own4 w base (.slice none 0 0) [] := Owns.nil w base 103 1
namespace Pl
theorem step_round {xs zs : List Nat} {k c b V0 : Nat} (hk : k < zs.length) (h : num (zs.take k) + 4294967296 ^ k * c = num (xs.take k) * b + V0) :
    num ((zs.set k ((xs.getD k 0 * b + c) % 4294967296)).take (k + 1)) + 4294967296 ^ (k + 1) * ((xs.getD k 0 * b + c) / 4294967296) = num (xs.take (k + 1)) * b + V0 := by
  rw [num_take_succ, num_take_succ, Nat.pow_succ]
  have e1 : (zs.set k ((xs.getD k 0 * b + c) % 4294967296)).take k = zs.take k := by
    rw [List.take_set_of_le (by omega)]
  have e2 : (zs.set k ((xs.getD k 0 * b + c) % 4294967296)).getD k 0 = (xs.getD k 0 * b + c) % 4294967296 := by
    rw [List.getD_eq_getElem?_getD, List.getElem?_set_self hk]; rfl
  rw [e1, e2]
  have h2 := carry_split (4294967296 ^ k) (xs.getD k 0 * b + c)
  rw [Nat.mul_add] at h2
  rw [Nat.add_mul]
  have e3 : 4294967296 ^ k * xs.getD k 0 * b = 4294967296 ^ k * (xs.getD k 0 * b) := Nat.mul_assoc _ _ _
  rw [e3]
  omega
theorem tr_ge {xs : List Nat} (h : Tr xs) (h0 : xs ≠ []) : 4294967296 ^ (xs.length - 1) ≤ num xs := by
  rcases h with h | ⟨l, c, rfl, hc⟩
  · exact absurd h h0
  · rw [num_snoc, List.length_append, List.length_singleton, Nat.add_sub_cancel]
    have : 4294967296 ^ l.length * 1 ≤ 4294967296 ^ l.length * c := Nat.mul_le_mul_left _ (by omega)
    omega
theorem tr_of_ge {xs : List Nat} (hw : Ws xs) (h : 4294967296 ^ (xs.length - 1) ≤ num xs) : Tr xs := by
  by_cases h0 : xs = []
  · exact .inl h0
  · obtain ⟨l, c, rfl⟩ : ∃ l c, xs = l ++ [c] := ⟨_, _, (List.dropLast_concat_getLast h0).symm⟩
    refine .inr ⟨l, c, rfl, fun e => ?_⟩
    rw [num_snoc, e, Nat.mul_zero, List.length_append, List.length_singleton, Nat.add_sub_cancel] at h
    have := num_ws (xs := l) (fun x hx => hw x (by simp [hx]))
    omega
end Pl
theorem wpList_app32 {ops : Array Oper} {rest : List Oper} {o : Oper} {a : Act} {Q : Exit → Act → World → Prop} {w : World} (hgd : o.guard = none) (s x : Operand)
    (ho : o.op = .call { callee := .builtin .append, args := #[s, x], argTypes := #[90, 90] }) (base : Nat) (v : Value) (n : Nat) (xs : List Value) (hs : a.eval s = v) (hown : Owns w base 103 1 v n xs)
    (news : List Value) (hx : a.eval x = .slice (some ⟨w.heap.size, 0, none⟩) news.length news.length) (h1 : ∀ u ∈ news, u.oneCell' = true) (hlen : n + news.length ≤ 1000000) (hbase : base ≤ w.heap.size)
    (h : ∀ v' w', Owns w' base 103 1 v' (n + news.length) (xs ++ news) → Grow w v w' v' → wpList Tryz.prog ops Q rest (a.put o.dst v') w') : wpList Tryz.prog ops Q (o :: rest) a (w.alloc (.cells news.toArray 103)) := by
  obtain ⟨i0, hi, hz0, hz1, hz2⟩ := info_parts info74
  refine wpList_append_owns hgd s x 90 ho base 103 i0 (.int .u32 0) 1 4 Tryz.underlying90 hi hz0 hz1 hz2 rfl v n xs hs (hown.alloc _) ⟨w.heap.size, 0, none⟩ news.length news.length news hx (by simp) ?_ h1 (by unfold maxLen; omega) (by omega) (by simp; omega) ?_
  · intro j u hj
    rw [add_plain, Nat.zero_add, World.cell?_alloc_new]
    simpa using hj
  · intro v' w' ho' hg'
    exact h v' w' ho' ((Grow.alloc w v _).trans hg')
/-- Words that the call owns, times a word and a word more. -/
def StepOk (w : World) (base V : Nat) (e : Ending) (w' : World) : Prop := ∃ v zs, e = .returned v ∧ Own4 w' base v zs ∧ Pl.Ws zs ∧ Pl.Tr zs ∧ Pl.num zs = V ∧ Below base w w' ∧ zs.length ≤ 2001
set_option maxRecDepth 4000 in
set_option maxHeartbeats 2000000 in
theorem nstep_any (v : Value) (xs : List Nat) (b m base : Nat) (w : World) (ho : Own4 w base v xs) (ws : Pl.Ws xs) (tr : Pl.Tr xs) (hl : xs.length ≤ 2000) (hb0 : 1 ≤ b) (hb : b ≤ 36) (hm : m < 4294967296) (hbase : base ≤ w.heap.size) :
    Calls Tryz.prog 131 #[v, .int .u32 b, .int .u32 m] w (StepOk w base (Pl.num xs * b + m)) := by
  obtain ⟨n, hn⟩ : ∃ n, xs.length = n := ⟨_, rfl⟩
  have HO := Lib.hid ho
  have HN := Lib.hid hn
  have HWS0 := Lib.hid ws
  have HTR := Lib.hid tr
  obtain ⟨va, vc, hv⟩ := ho.form
  rw [hn] at hv hl
  subst hv
  clear ho hn ws tr
  go_enter Tryz.func131, Tryz.ntmps131
  go_wp2_with fail
  go_loopw [7, 15] (fun c i wr => ∃ (k cc : Nat) (zs : List Nat), k ≤ n ∧ cc < 4294967296 ∧ c = .int .u64 cc ∧ i = .int .i64 k ∧ Own4 wr base (.slice va n vc) zs ∧ zs.length = n ∧ Pl.Ws zs ∧ Hid (zs.drop k = xs.drop k) ∧ Hid (Pl.num (zs.take k) + 4294967296 ^ k * cc = Pl.num (xs.take k) * b + m) ∧ Below base w wr ∧ w.heap.size ≤ wr.heap.size) (fun _ i _ => n - (RowKit.intOf i).toNat)
  case atStart => exact ⟨0, m, xs, Nat.zero_le _, hm, rfl, rfl, HO.out, HN.out, HWS0.out, Lib.hid rfl, Lib.hid (by simp [Pl.num]), Below.refl _ _, Nat.le_refl _⟩
  case round =>
    obtain ⟨k, cc, zs, hk, hcc, rfl, rfl, hown, hzl, hws, hdr, hnum, hbw, hsz⟩ := hrel
    have HOWN := Lib.hid hown
    have HZL := Lib.hid hzl
    have HWS := Lib.hid hws
    have HB := Lib.hid hbw
    by_cases hlt : k < n
    · have hkz : k < zs.length := by rw [hzl]; exact hlt
      have hgt : zs.getD k 0 = xs.getD k 0 := by
        have h1 := congrArg (fun l => l.getD 0 0) hdr.out
        simpa [List.getD_eq_getElem?_getD] using h1
      obtain ⟨g, cap, hv, hbg, hgs, hcap⟩ := Owns.some_of hown (by rw [hzl]; omega)
      injection hv with hva hvn hvc
      subst hva hvc
      have hcell : wr.cell? ⟨g, k, none⟩ = some (.int .u32 (xs.getD k 0 : Nat)) := by
        have hh : Owns wr base 103 1 (.slice (some ⟨g, 0, none⟩) zs.length vc) zs.length (wv zs) := by have := hown; unfold Own4 at this; rw [hzl] at this ⊢; exact this
        rw [← hgt]
        exact hh.cellAt (wv_get hkz)
      have hfree : wr.frozen? ⟨g, k, none⟩ = false := by
        have hh : Owns wr base 103 1 (.slice (some ⟨g, 0, none⟩) zs.length vc) zs.length (wv zs) := by have := hown; unfold Own4 at this; rw [hzl] at this ⊢; exact this
        exact hh.free (by omega)
      have hxl := Pl.getD_ws HWS0.out k
      have HRND := Lib.hid (Pl.step_round (b := b) (c := cc) hkz hnum.out)
      obtain ⟨x, hx⟩ : ∃ x, xs.getD k 0 = x := ⟨_, rfl⟩
      rw [hx] at hcell hxl HRND
      have hxb : x * b ≤ 4294967295 * 36 := Nat.mul_le_mul (by omega) hb
      obtain ⟨s, hs⟩ : ∃ s, x * b + cc = s := ⟨_, rfl⟩
      have hsI : (x : Int) * (b : Int) + (cc : Int) = (s : Int) := by rw [← hs]; simp
      have hxbI : (0 : Int) ≤ (x : Int) * (b : Int) ∧ (x : Int) * (b : Int) ≤ 154618822620 := by
        have : (x : Int) * (b : Int) = ((x * b : Nat) : Int) := by simp
        rw [this]; omega
      rw [hs] at HRND
      have hsl : s < 200000000000 := by omega
      obtain ⟨d, hd⟩ : ∃ d, s % 4294967296 = d := ⟨_, rfl⟩
      obtain ⟨c', hc'⟩ : ∃ c', s / 4294967296 = c' := ⟨_, rfl⟩
      rw [hd, hc'] at HRND
      have hdI : (s : Int) % 4294967296 = (d : Int) := by omega
      have hcI : (s : Int) / 4294967296 = (c' : Int) := by omega
      have hdl : d < 4294967296 := by omega
      have hcl : c' < 4294967296 := by omega
      have HNEW : Hid (Own4 (wr.setCell ⟨g, k, none⟩ (.int .u32 (d : Nat))) base (.slice (some ⟨g, 0, none⟩) n vc) (zs.set k d)) := Lib.hid (by
        have hh := hown
        unfold Own4 at hh ⊢
        rw [List.length_set, wv_set]
        rw [hzl] at hh ⊢
        exact hh.stored _)
      have HB3 := Lib.hid (hbw.setCell (p := ⟨g, k, none⟩) hbg (.int .u32 (d : Nat)))
      have HDR : Hid ((zs.set k d).drop (k + 1) = xs.drop (k + 1)) := Lib.hid (by
        rw [List.drop_set_of_lt (by omega)]
        have h1 := congrArg (List.drop 1) hdr.out
        rwa [List.drop_drop, List.drop_drop] at h1)
      clear hown hzl hws hbw hd hc' hx hgt hkz hxb
      go_wp2_with fail
      go_roundw
      case rel => exact ⟨k + 1, c', zs.set k d, by omega, hcl, rfl, by go_num, HNEW.out, by rw [List.length_set]; exact HZL.out, HWS.out.set k hdl, HDR, HRND, HB3.out, by simp [World.setCell]; exact hsz⟩
      case measure => simp [RowKit.intOf]; omega
    · obtain rfl : k = n := by omega
      have h1 := hnum.out
      rw [List.take_of_length_le (by rw [hzl]; exact Nat.le_refl _), List.take_of_length_le (by rw [HN.out]; exact Nat.le_refl _)] at h1
      by_cases hc : cc = 0
      · subst hc
        rw [Nat.mul_zero, Nat.add_zero] at h1
        have HT : Hid (Pl.Tr zs) := Lib.hid (by
          by_cases h0 : zs = []
          · exact .inl h0
          · have hx0 : xs ≠ [] := by
              intro e
              have := HN.out
              rw [e] at this
              exact h0 (List.eq_nil_of_length_eq_zero (by rw [hzl, ← this]; rfl))
            have h2 := Pl.tr_ge HTR.out hx0
            refine Pl.tr_of_ge hws ?_
            rw [hzl, h1, ← HN.out]
            have : Pl.num xs * 1 ≤ Pl.num xs * b := Nat.mul_le_mul_left _ hb0
            omega)
        have HV := Lib.hid h1
        clear h1 hown hws hbw hzl
        go_wp2_with fail
        go_ret
        exact ⟨_, zs, rfl, HOWN.out, HWS.out, HT.out, HV.out, HB.out, by rw [HZL.out]; omega⟩
      · have hc0 : decide ((0 : Int) < (cc : Int)) = true := decide_eq_true (by omega)
        have hccI : (cc : Int) % 4294967296 = (cc : Int) := by omega
        have hbz : base ≤ wr.heap.size := by omega
        have HV : Hid (Pl.num (zs ++ [cc]) = Pl.num xs * b + m) := Lib.hid (by rw [Pl.num_snoc, hzl]; exact h1)
        have HOW : Hid (Owns wr base 103 1 (.slice va k vc) k (wv zs)) := Lib.hid (by have := hown; unfold Own4 at this; rw [hzl] at this; exact this)
        have HLT := Lib.hid hown.lt
        clear h1 hown hws hbw hzl
        go_wp2_with (at_builtin; refine wpList_app32 rfl (.tmp 37) (.tmp 40) rfl base _ _ _ rfl HOW.out [.int .u32 (cc : Nat)] rfl (by intro u hu; simp at hu; subst hu; rfl) (by simp only [List.length_cons, List.length_nil]; omega) hbz ?_)
        intro v2 w2 ho2 hg2
        have HO2 := Lib.hid ho2
        have HB2 := Lib.hid (hg2.below HB.out hbz (fun j hj => (HLT.out j hj).1))
        obtain ⟨a2, c2, rfl⟩ := ho2.form
        clear ho2 hg2
        go_wp2_with fail
        go_ret
        refine ⟨_, zs ++ [cc], rfl, ?_, ?_, .inr ⟨zs, cc, rfl, hc⟩, HV.out, HB2.out, by rw [List.length_append, HZL.out, List.length_singleton]; omega⟩
        · have := HO2.out
          unfold Own4
          rw [List.length_append, HZL.out, wv_app]
          exact this
        · intro x hx
          rcases List.mem_append.1 hx with hx | hx
          · exact HWS.out x hx
          · rw [List.mem_singleton.1 hx]; exact hcc
end Go.Proofs.YtlodbibagmblkaaGreatDoor
namespace Go.Proofs.YtlodbibagmblkaaGreatDoor
open Go.RowKit Go.Lib
namespace Pl
/-- No nought at the end. -/
def Canon (l : List UInt8) : Prop := l.getLast? ≠ some 0
theorem le_append : ∀ (a b : List UInt8), le (a ++ b) = le a + 256 ^ a.length * le b
  | [], b => by simp [le]
  | x :: a, b => by rw [List.cons_append, le, le_append a b, le, List.length_cons, Nat.pow_succ, Nat.mul_add, ← Nat.mul_assoc, Nat.mul_comm 256 (256 ^ a.length)]; omega
theorem le_strip (l : List UInt8) : le (strip l) = le l := by
  have key : ∀ l : List UInt8, le (l.dropWhile (· == 0)).reverse = le l.reverse := by
    intro l
    induction l with
    | nil => rfl
    | cons a l ih =>
      by_cases h : a = 0
      · subst h; simp [ih, le_append, le]
      · simp [h]
  have := key l.reverse
  rw [List.reverse_reverse] at this
  exact this
theorem canon_strip (l : List UInt8) : Canon (strip l) := by
  have key : ∀ l : List UInt8, Canon (l.dropWhile (· == 0)).reverse := by
    intro l
    induction l with
    | nil => simp [Canon]
    | cons a l ih =>
      by_cases h : a = 0
      · subst h; simpa using ih
      · simp [h, Canon]
  exact key l.reverse
theorem le_four {x : Nat} (h : x < 4294967296) : le (four x) = x := by
  simp [four, le]; omega
theorem le_flat : ∀ xs : List Nat, (∀ x ∈ xs, x < 4294967296) → le (flat xs) = num xs
  | [], _ => rfl
  | x :: xs, h => by
    have e : flat (x :: xs) = four x ++ flat xs := by simp [flat]
    rw [e, le_append, le_four (h x (by simp)), le_flat xs (fun y hy => h y (by simp [hy])), num]
    simp [four]
theorem le_bytesOf {xs : List Nat} (h : ∀ x ∈ xs, x < 4294967296) : le (bytesOf xs) = num xs := by
  unfold bytesOf
  rw [le_strip, le_flat _ (fun x hx => h x (trimW_mem hx)), num_trimW]
theorem canon_bytesOf (xs : List Nat) : Canon (bytesOf xs) := canon_strip _
theorem canon_ge {l : List UInt8} (h : Canon l) (h0 : l ≠ []) : 256 ^ (l.length - 1) ≤ le l := by
  have e := List.dropLast_concat_getLast h0
  have hl : l.getLast h0 ≠ 0 := fun h2 => h (by rw [List.getLast?_eq_some_getLast h0, h2])
  rw [← e, le_snoc, List.length_append, List.length_singleton, Nat.add_sub_cancel]
  have h1 : 1 ≤ (l.getLast h0).toNat := by
    rcases Nat.eq_zero_or_pos (l.getLast h0).toNat with h3 | h3
    · exact (hl (UInt8.toNat_inj.1 h3)).elim
    · exact h3
  exact Nat.le_trans (Nat.le_mul_of_pos_right _ h1) (Nat.le_add_left _ _)
theorem canon_tail {a : UInt8} {l : List UInt8} (h : Canon (a :: l)) : Canon l := by
  unfold Canon at h ⊢
  cases l with
  | nil => simp
  | cons b l => rwa [List.getLast?_cons_cons] at h
theorem le_inj : ∀ {l m : List UInt8}, Canon l → Canon m → le l = le m → l = m
  | [], [], _, _, _ => rfl
  | [], b :: m, _, h2, h => by
    have := canon_ge h2 (by simp)
    have h3 : 0 < 256 ^ ((b :: m).length - 1) := Nat.pow_pos (by decide)
    rw [← h, le] at this; omega
  | a :: l, [], h1, _, h => by
    have := canon_ge h1 (by simp)
    have h3 : 0 < 256 ^ ((a :: l).length - 1) := Nat.pow_pos (by decide)
    rw [h, le] at this; omega
  | a :: l, b :: m, h1, h2, h => by
    rw [le, le] at h
    have ha := a.toNat_lt
    have hb := b.toNat_lt
    have e1 : a.toNat = b.toNat := by omega
    have e2 : le l = le m := by omega
    rw [UInt8.toNat_inj.1 e1, le_inj (canon_tail h1) (canon_tail h2) e2]
theorem canon_len {l : List UInt8} {n : Nat} (h : Canon l) (hv : le l < 256 ^ n) : l.length ≤ n := by
  by_cases h0 : l = []
  · subst h0; simp
  · have h1 := canon_ge h h0
    have h2 : 256 ^ (l.length - 1) < 256 ^ n := Nat.lt_of_le_of_lt h1 hv
    have := (Nat.pow_lt_pow_iff_right (by decide : 1 < 256)).1 h2
    omega
/-- The digits of a number. -/
def dgs (V : Nat) : List UInt8 := bytesOf (dn (V.log2 / 32 + 1) V)
theorem lt_words (V : Nat) : V < 4294967296 ^ (V.log2 / 32 + 1) := by
  have e : (4294967296 : Nat) ^ (V.log2 / 32 + 1) = 2 ^ (32 * (V.log2 / 32 + 1)) := by rw [Nat.pow_mul]
  rw [e]
  exact Nat.lt_of_lt_of_le Nat.lt_log2_self (Nat.pow_le_pow_right (by decide) (by omega))
theorem le_dgs (V : Nat) : le (dgs V) = V := by
  unfold dgs
  rw [le_bytesOf (fun x hx => dn_lt hx), num_dn _ _ (lt_words V)]
theorem canon_dgs (V : Nat) : Canon (dgs V) := canon_bytesOf _
theorem dgs_le {l : List UInt8} (h : Canon l) : dgs (le l) = l := le_inj (canon_dgs _) h (le_dgs _)
theorem bytesOf_is {xs : List Nat} (h : ∀ x ∈ xs, x < 4294967296) : bytesOf xs = dgs (num xs) := le_inj (canon_bytesOf _) (canon_dgs _) (by rw [le_bytesOf h, le_dgs])
theorem dgs_zero : dgs 0 = [] := by
  have h := le_dgs 0
  by_cases h0 : dgs 0 = []
  · exact h0
  · have h1 := canon_ge (canon_dgs 0) h0
    have : 0 < 256 ^ ((dgs 0).length - 1) := Nat.pow_pos (by decide)
    omega
theorem dgs_empty (V : Nat) : (dgs V).isEmpty = decide (V = 0) := by
  by_cases h : V = 0
  · subst h; rw [dgs_zero]; rfl
  · rw [decide_eq_false h]
    have h1 := le_dgs V
    cases hd : dgs V with
    | nil => rw [hd, le] at h1; omega
    | cons a l => rfl
theorem dgs_len {V n : Nat} (h : V < 256 ^ n) : (dgs V).length ≤ n := canon_len (canon_dgs V) (by rw [le_dgs]; exact h)
theorem num_words (l : List UInt8) : ∀ n, l.length ≤ 4 * n → num (words n l) = le l := by
  have key : ∀ n, ∀ l : List UInt8, l.length ≤ 4 * n → num (words n l) = le l := by
    intro n
    induction n with
    | zero => intro l h; have : l = [] := List.length_eq_zero_iff.1 (by omega)
              subst this; rfl
    | succ n ih =>
      intro l h
      have e : words (n + 1) l = word l 0 :: words n (l.drop 4) := by
        unfold words
        rw [List.range_succ_eq_map, List.map_cons, List.map_map]
        congr 1
        apply List.map_congr_left
        intro j _
        simp only [Function.comp, word, List.drop_drop]
        rw [show 4 + 4 * j = 4 * (j.succ) by omega]
      rw [e, num, ih _ (by rw [List.length_drop]; omega)]
      conv => rhs; rw [← List.take_append_drop 4 l]
      rw [le_append]
      unfold word
      simp only [Nat.mul_zero, List.drop_zero]
      by_cases h4 : 4 ≤ l.length
      · rw [List.length_take, Nat.min_eq_left h4]
      · rw [List.drop_eq_nil_of_le (by omega)]; simp [le]
  exact fun n => key n l
theorem shl_is (V k : Nat) : bytesOf (shl (dgs V) k) = dgs (V * 2 ^ k) := by
  have hn := num_words (dgs V) (((dgs V).length + 3) / 4) (by omega)
  rw [le_dgs] at hn
  refine le_inj (canon_bytesOf _) (canon_dgs _) ?_
  unfold shl
  rw [le_bytesOf (fun x hx => dn_lt (trimW_mem hx)), le_dgs, num_trimW, hn, num_dn]
  have h1 := le_lt (dgs V)
  rw [le_dgs] at h1
  generalize (dgs V).length = L at *
  have e1 : (256 : Nat) ^ L = 2 ^ (8 * L) := by rw [Nat.pow_mul]
  have e2 : (4294967296 : Nat) ^ (k / 32 + (L + 3) / 4 + 1) = 2 ^ (32 * (k / 32 + (L + 3) / 4 + 1)) := by rw [Nat.pow_mul]
  rw [e1] at h1
  rw [e2]
  have h2 : V * 2 ^ k < 2 ^ (8 * L) * 2 ^ k := Nat.mul_lt_mul_of_pos_right h1 (Nat.pow_pos (by decide))
  rw [← Nat.pow_add] at h2
  exact Nat.lt_of_lt_of_le h2 (Nat.pow_le_pow_right (by decide) (by omega))
theorem chk_dgs {neg : Bool} {V : Nat} (h : V < 256 ^ 4096) (hn : neg = true → V ≠ 0) : chk neg (dgs V) = 0 := by
  have hl := dgs_len h
  unfold chk
  rw [if_neg (by omega)]
  by_cases h0 : (dgs V).length = 0
  · rw [if_pos h0]
    have h1 : dgs V = [] := List.length_eq_zero_iff.1 h0
    have h2 := le_dgs V
    rw [h1, le] at h2
    cases neg
    · rfl
    · exact (hn rfl h2.symm).elim
  · rw [if_neg h0, if_neg]
    intro h1
    exact canon_dgs V (by rw [List.getLast?_eq_getElem?]; exact h1)
end Pl
/-- A number as a large one. -/
def lof (t : Int) : Value := lv (decide (t < 0)) (Pl.dgs t.natAbs)
theorem ofv_is {n : Int} (h1 : -9223372036854775808 ≤ n) (h2 : n ≤ 9223372036854775807) : ofv n = lof n := by
  obtain ⟨V, hV⟩ : ∃ V, n.natAbs = V := ⟨_, rfl⟩
  have e : Pl.bytesOf [V % 4294967296, V / 4294967296] = Pl.dgs V := by
    rw [Pl.bytesOf_is (by intro x hx; simp at hx; omega)]
    congr 1
    simp only [Pl.num]; omega
  unfold ofv lof
  rw [hV, e, Pl.dgs_empty]
  congr 1
  by_cases hn : n < 0
  · rw [decide_eq_true hn, decide_eq_false (by omega)]; rfl
  · rw [decide_eq_false hn]; rfl
end Go.Proofs.YtlodbibagmblkaaGreatDoor
namespace Go.Proofs.YtlodbibagmblkaaGreatDoor
open Go.RowKit Go.Lib
theorem lof_form (n : Int) : ∃ g S, lof n = .agg #[.bool g, .string S] := ⟨_, _, rfl⟩
theorem large_kept {W W' : World} {C : Nat} {g : Bool} {S : ByteArray} (h : W.heap[C]? = some (.cells #[.bool g, .string S] 43)) (hb : Below W.heap.size W W') : W'.heap[C]? = some (.cells #[.bool g, .string S] 43) := by
  rw [hb.block _ (Array.getElem?_eq_some_iff.1 h).1]; exact h
theorem large_cells {W : World} {C : Nat} {g : Bool} {S : ByteArray} (h : W.heap[C]? = some (.cells #[.bool g, .string S] 43)) : W.cell? ⟨C, 0, none⟩ = some (.bool g) ∧ W.cell? ⟨C, 1, none⟩ = some (.string S) ∧ C < W.heap.size :=
  ⟨by simp [World.cell?, h], by simp [World.cell?, h], (Array.getElem?_eq_some_iff.1 h).1⟩
end Go.Proofs.YtlodbibagmblkaaGreatDoor
namespace Go.Proofs.YtlodbibagmblkaaGreatDoor
open Go.RowKit Go.Lib
/-- a block of two cells -/
def P2 (W : World) (k : Nat) (T : TypeId) (a b : Value) : Prop := W.heap[k]? = some (.cells #[a, b] T)
theorem P2.new (w : World) (T : TypeId) (a b : Value) : P2 (w.alloc (.cells #[a, b] T)) w.heap.size T a b := heap_alloc_at _ _
theorem P2.lt {W : World} {k : Nat} {T : TypeId} {a b : Value} (h : P2 W k T a b) : k < W.heap.size := (Array.getElem?_eq_some_iff.1 h).1
theorem P2.below {W W' : World} {k : Nat} {T : TypeId} {a b : Value} (h : P2 W k T a b) (hb : Below W.heap.size W W') : P2 W' k T a b := by
  unfold P2; rw [hb.block _ h.lt]; exact h
theorem P2.under {W W' : World} {k B : Nat} {T : TypeId} {a b : Value} (h : P2 W k T a b) (hb : Below B W W') (hk : k < B) : P2 W' k T a b := by
  unfold P2; rw [hb.block _ hk]; exact h
theorem P2.alloc {W : World} {k : Nat} {T : TypeId} {a b : Value} (h : P2 W k T a b) (o : Obj) : P2 (W.alloc o) k T a b := h.below ((Below.refl _ _).alloc (Nat.le_refl _) _)
theorem P2.drew {W : World} {k : Nat} {T : TypeId} {a b : Value} (h : P2 W k T a b) : P2 W.drew k T a b := h
theorem P2.cells {W : World} {k : Nat} {T : TypeId} {a b : Value} (h : P2 W k T a b) : W.cell? ⟨k, 0, none⟩ = some a ∧ W.cell? ⟨k, 1, none⟩ = some b ∧ W.frozen? ⟨k, 0, none⟩ = false ∧ W.frozen? ⟨k, 1, none⟩ = false := by
  unfold P2 at h
  refine ⟨?_, ?_, ?_, ?_⟩
  · simp [World.cell?, h]
  · simp [World.cell?, h]
  · simp [World.frozen?, h]
  · simp [World.frozen?, h]
theorem P2.set {W : World} {k : Nat} {T : TypeId} {a b : Value} (h : P2 W k T a b) (x y : Value) : P2 ((W.setCell ⟨k, 0, none⟩ x).setCell ⟨k, 1, none⟩ y) k T x y := by
  unfold P2 at *
  simp only [World.setCell, Array.getElem?_modify, if_pos, h]
  rfl
theorem P2.set0 {W : World} {k : Nat} {T : TypeId} {a b : Value} (h : P2 W k T a b) (x : Value) : P2 (W.setCell ⟨k, 0, none⟩ x) k T x b := by
  unfold P2 at *
  simp only [World.setCell, Array.getElem?_modify, if_pos, h]
  rfl
theorem P2.set1 {W : World} {k : Nat} {T : TypeId} {a b : Value} (h : P2 W k T a b) (x : Value) : P2 (W.setCell ⟨k, 1, none⟩ x) k T a x := by
  unfold P2 at *
  simp only [World.setCell, Array.getElem?_modify, if_pos, h]
  rfl
theorem P2.other {W : World} {k j i : Nat} {T : TypeId} {a b x : Value} (h : P2 W k T a b) (hne : j ≠ k) : P2 (W.setCell ⟨j, i, none⟩ x) k T a b := by
  unfold P2 at *
  simp only [World.setCell, Array.getElem?_modify, if_neg hne]
  exact h
theorem P2.both {W : World} {k j : Nat} {T : TypeId} {a b x y : Value} (h : P2 W k T a b) (hne : j ≠ k) : P2 ((W.setCell ⟨j, 0, none⟩ x).setCell ⟨j, 1, none⟩ y) k T a b := (h.other hne).other hne
theorem below_set2 {w W : World} {k B : Nat} (hb : Below B w W) (hk : B ≤ k) (x y : Value) : Below B w ((W.setCell ⟨k, 0, none⟩ x).setCell ⟨k, 1, none⟩ y) :=
  (hb.setCell (p := ⟨k, 0, none⟩) hk _).setCell (p := ⟨k, 1, none⟩) hk _
/-- words lie where no such block is -/
theorem Rd.clear {W : World} {k i : Nat} {T : TypeId} {a b x v : Value} {xs : List Nat} (h : Rd W v xs) (hk : P2 W k T a b) (ha : ∀ n, a ≠ .int .u32 n) : Rd (W.setCell ⟨k, i, none⟩ x) v xs := by
  rcases h with h | ⟨g, cap, h1, h2, h3, h4⟩
  · exact .inl h
  · refine .inr ⟨g, cap, h1, h2, by simpa [World.setCell] using h3, fun j y hj => ?_⟩
    have hne : (⟨k, i, none⟩ : Addr) ≠ ⟨g, j, none⟩ := by
      intro e
      injection e with e1 _
      subst e1
      have h0 : 0 < xs.length := by have := (List.getElem?_eq_some_iff.1 hj).1; omega
      have := h4 0 _ (List.getElem?_eq_getElem h0)
      rw [hk.cells.1] at this
      injection this with this
      exact ha _ this
    rw [World.cell?_setCell_other _ _ _ _ hne]
    exact h4 j y hj
theorem Rd.clear2 {W : World} {k : Nat} {T : TypeId} {a b x y v : Value} {xs : List Nat} (h : Rd W v xs) (hk : P2 W k T a b) (ha : ∀ n, a ≠ .int .u32 n) (hx : ∀ n, x ≠ .int .u32 n) : Rd ((W.setCell ⟨k, 0, none⟩ x).setCell ⟨k, 1, none⟩ y) v xs :=
  (h.clear hk ha).clear (hk.set0 x) hx
/-- a signed number -/
def sg (neg : Bool) (V : Nat) : Int := if neg then -(V : Int) else V
theorem sg_of (n : Int) : sg (decide (n < 0)) n.natAbs = n := by
  unfold sg
  by_cases h : n < 0
  · rw [decide_eq_true h, if_pos rfl]; omega
  · rw [decide_eq_false h]; simp; omega
/-- A number comes out. -/
def NumOk (w : World) (n : Int) (e : Ending) (w' : World) : Prop := ∃ v neg V, e = .returned (.agg #[v, .bool neg]) ∧ Rd w' v (Pl.wd V) ∧ sg neg V = n ∧ Below w.heap.size w w'
end Go.Proofs.YtlodbibagmblkaaGreatDoor
namespace Go.Proofs.YtlodbibagmblkaaGreatDoor
open Go.RowKit Go.Lib
namespace Pl
/-- a list with its first and last k turned round -/
def revk (l : List UInt8) (k : Nat) : List UInt8 := (List.range l.length).map fun i => if i < k ∨ l.length - k ≤ i then l.getD (l.length - 1 - i) 0 else l.getD i 0
theorem revk_len (l : List UInt8) (k : Nat) : (revk l k).length = l.length := by simp [revk]
theorem revk_zero (l : List UInt8) : revk l 0 = l := by
  apply List.ext_getElem
  · simp [revk]
  · intro i h1 h2
    simp only [revk, List.getElem_map, List.getElem_range]
    rw [if_neg (by omega), List.getD_eq_getElem?_getD, List.getElem?_eq_getElem h2]; rfl
theorem revk_end {l : List UInt8} {k : Nat} (h : l.length ≤ 2 * k + 1) (hk : k ≤ l.length) : revk l k = l.reverse := by
  apply List.ext_getElem
  · simp [revk]
  · intro i h1 h2
    rw [revk_len] at h1
    simp only [revk, List.getElem_map, List.getElem_range, List.getElem_reverse]
    by_cases hc : i < k ∨ l.length - k ≤ i
    · rw [if_pos hc, List.getD_eq_getElem?_getD, List.getElem?_eq_getElem (by omega)]; rfl
    · rw [if_neg hc, List.getD_eq_getElem?_getD, List.getElem?_eq_getElem h1]
      have : i = l.length - 1 - i := by omega
      show l[i] = _
      congr 1
theorem revk_get {l : List UInt8} {k i : Nat} (h1 : k ≤ i) (h2 : i < l.length - k) (h3 : i < l.length) : (revk l k)[i]? = some (l.getD i 0) := by
  rw [List.getElem?_eq_getElem (by rw [revk_len]; exact h3)]
  simp only [revk, List.getElem_map, List.getElem_range]
  rw [if_neg (by omega)]
theorem revk_succ {l : List UInt8} {k : Nat} (h : 2 * k + 1 < l.length) : revk l (k + 1) = ((revk l k).set k (l.getD (l.length - 1 - k) 0)).set (l.length - 1 - k) (l.getD k 0) := by
  apply List.ext_getElem
  · simp [revk]
  · intro i h1 h2
    rw [revk_len] at h1
    simp only [List.getElem_set, revk, List.getElem_map, List.getElem_range]
    by_cases e1 : l.length - 1 - k = i
    · rw [if_pos e1, if_pos (by omega)]
      congr 1; omega
    · rw [if_neg e1]
      by_cases e2 : k = i
      · rw [if_pos e2, if_pos (by omega)]
        congr 1; omega
      · rw [if_neg e2]
        by_cases hc : i < k ∨ l.length - k ≤ i
        · rw [if_pos hc, if_pos (by omega)]
        · rw [if_neg hc, if_neg (by omega)]
end Pl
theorem bc_set (l : List UInt8) (k : Nat) (c : UInt8) : bc (l.set k c) = (bc l).set k (.int .u8 c.toNat) := by simp [bc, List.map_set]
theorem bc_get {l : List UInt8} {k : Nat} {c : UInt8} (h : l[k]? = some c) : (bc l)[k]? = some (.int .u8 c.toNat) := by simp [bc, h]
def Own1 (w : World) (base : Nat) (v : Value) (l : List UInt8) : Prop := Owns w base 5 1 v l.length (bc l)
set_option maxRecDepth 4000 in
set_option maxHeartbeats 2000000 in
theorem reverse_any (v : Value) (l : List UInt8) (base : Nat) (w : World) (ho : Own1 w base v l) (hl : l.length ≤ 1000000) :
    Calls Tryz.prog 87 #[v] w fun e w' => e = .returned (.tuple #[]) ∧ Own1 w' base v l.reverse ∧ Below base w w' ∧ w.heap.size ≤ w'.heap.size := by
  obtain ⟨n, hn⟩ : ∃ n, l.length = n := ⟨_, rfl⟩
  have HO := Lib.hid ho
  have HN := Lib.hid hn
  obtain ⟨va, vc, hv⟩ := ho.form
  rw [hn] at hv hl
  subst hv
  clear ho hn
  go_enter Tryz.func87, Tryz.ntmps87
  go_wp2_with fail
  go_loopw [2, 3] (fun i j wr => ∃ k : Nat, 2 * k ≤ n + 1 ∧ k ≤ n ∧ i = .int .i64 k ∧ j = .int .i64 ((n : Int) - 1 - k) ∧ Own1 wr base (.slice va n vc) (Pl.revk l k) ∧ Below base w wr ∧ w.heap.size ≤ wr.heap.size) (fun i _ _ => n + 1 - (RowKit.intOf i).toNat)
  case atStart => exact ⟨0, by omega, by omega, rfl, by simp, by rw [Pl.revk_zero]; exact HO.out, Below.refl _ _, Nat.le_refl _⟩
  case round =>
    obtain ⟨k, hk, hk2, rfl, rfl, hown, hb, hsz⟩ := hrel
    have HOW := Lib.hid hown
    have HB := Lib.hid hb
    by_cases hlt : 2 * k + 1 < n
    · have hd : decide ((k : Int) < (n : Int) - 1 - (k : Int)) = true := decide_eq_true (by omega)
      have hown' : Owns wr base 5 1 (.slice va n vc) n (bc (Pl.revk l k)) := by
        have := hown
        unfold Own1 at this
        rw [Pl.revk_len, HN.out] at this
        exact this
      obtain ⟨g, cap, hv, hbg, hgs, hcap⟩ := Owns.some_of hown' (by omega)
      injection hv with hva hvn hvc
      subst hva hvc
      obtain ⟨m, hm⟩ : ∃ m, n - 1 - k = m := ⟨_, rfl⟩
      have hmI : (n : Int) - 1 - (k : Int) = (m : Int) := by omega
      rw [hmI] at hd ⊢
      have c1 := hown'.cellAt (bc_get (Pl.revk_get (l := l) (k := k) (i := k) (Nat.le_refl _) (by rw [HN.out]; omega) (by rw [HN.out]; omega)))
      have c2 := hown'.cellAt (bc_get (Pl.revk_get (l := l) (k := k) (i := m) (by omega) (by rw [HN.out]; omega) (by rw [HN.out]; omega)))
      have f1 := hown'.free (j := k) (by omega)
      have f2 := hown'.free (j := m) (by omega)
      have hne : (⟨g, k, none⟩ : Addr) ≠ ⟨g, m, none⟩ := by intro e; injection e with _ e; omega
      have HNEW : Hid (Own1 ((wr.setCell ⟨g, k, none⟩ (.int .u8 (l.getD m 0).toNat)).setCell ⟨g, m, none⟩ (.int .u8 (l.getD k 0).toNat)) base (.slice (some ⟨g, 0, none⟩) n vc) (Pl.revk l (k + 1))) := Lib.hid (by
        have h1 := (hown'.stored (j := k) (.int .u8 (l.getD m 0).toNat)).stored (j := m) (.int .u8 (l.getD k 0).toNat)
        unfold Own1
        rw [Pl.revk_succ (by rw [HN.out]; exact hlt), bc_set, bc_set, List.length_set, List.length_set, Pl.revk_len, HN.out, hm]
        exact h1)
      have HB2 : Hid (Below base w ((wr.setCell ⟨g, k, none⟩ (.int .u8 (l.getD m 0).toNat)).setCell ⟨g, m, none⟩ (.int .u8 (l.getD k 0).toNat))) := Lib.hid ((hb.setCell (p := ⟨g, k, none⟩) hbg _).setCell (p := ⟨g, m, none⟩) hbg _)
      clear hown hown' hb
      go_wp2_with fail
      go_region
      go_wp2_with fail
      go_roundw
      case rel => exact ⟨k + 1, by omega, by omega, by go_num, by congr 1; omega, HNEW.out, HB2.out.drew, by simpa [World.setCell] using hsz⟩
      case measure => simp [RowKit.intOf]; omega
    · have hd : decide ((k : Int) < (n : Int) - 1 - (k : Int)) = false := decide_eq_false (by omega)
      have HR := Lib.hid (Pl.revk_end (l := l) (k := k) (by rw [HN.out]; omega) (by rw [HN.out]; exact hk2))
      clear hown hb
      go_wp2_with fail
      go_end0
      exact ⟨rfl, by rw [← HR.out]; exact HOW.out, HB.out, hsz⟩
/-- A slice that reads as bytes. -/
def Rd1 (w : World) (v : Value) (l : List UInt8) : Prop := ∃ g cap, v = .slice (some ⟨g, 0, none⟩) l.length cap ∧ g < w.heap.size ∧ ∀ (j : Nat) (x : UInt8), l[j]? = some x → w.cell? ⟨g, j, none⟩ = some (.int .u8 x.toNat)
theorem Rd1.below {w w' : World} {v : Value} {l : List UInt8} (h : Rd1 w v l) {B : Nat} (hb : Below B w w') (hB : ∀ k, v.ownBlock = some k → k < B) : Rd1 w' v l := by
  obtain ⟨g, cap, rfl, h1, h2⟩ := h
  exact ⟨g, cap, rfl, Nat.lt_of_lt_of_le h1 hb.size, fun j x hj => by rw [hb.cell (p := ⟨g, j, none⟩) (hB g rfl)]; exact h2 j x hj⟩
theorem Rd1.lt {w : World} {v : Value} {l : List UInt8} (h : Rd1 w v l) : ∀ k, v.ownBlock = some k → k < w.heap.size := by
  obtain ⟨g, cap, rfl, h1, h2⟩ := h
  intro k hk
  simp [Value.ownBlock] at hk
  subst hk
  exact h1
/-- where a byte stands; -1: nowhere -/
def Pl.IdxIs (l : List UInt8) (c : UInt8) (r : Int) : Prop := (∃ k : Nat, l[k]? = some c ∧ r = k) ∨ (c ∉ l ∧ r = -1)
set_option maxHeartbeats 1000000 in
theorem index_any (v : Value) (l : List UInt8) (c : UInt8) (w : World) (h : Rd1 w v l) (hl : l.length ≤ 1000000) :
    Calls Tryz.prog 132 #[v, .int .u8 c.toNat] w fun e w' => ∃ r, e = .returned (.int .i64 r) ∧ Pl.IdxIs l c r ∧ w = w' := by
  obtain ⟨g, cap, rfl, hg, hc⟩ := h
  obtain ⟨n, hn⟩ : ∃ n, l.length = n := ⟨_, rfl⟩
  have HC := Lib.hid hc
  have HN := Lib.hid hn
  rw [hn] at hl ⊢
  clear hc hn
  go_enter Tryz.func132, Tryz.ntmps132
  go_wp2_with fail
  go_loop [8] (fun i => ∃ k : Nat, k ≤ n ∧ i = .int .i64 k ∧ Hid (c ∉ l.take k)) (fun i => n - (RowKit.intOf i).toNat)
  case atStart => exact ⟨0, Nat.zero_le _, rfl, Lib.hid (by simp)⟩
  case round =>
    obtain ⟨k, hk, rfl, hno⟩ := hrel
    by_cases hlt : k < n
    · have hkl : k < l.length := by rw [HN.out]; exact hlt
      obtain ⟨d, hd⟩ : ∃ d, l[k] = d := ⟨_, rfl⟩
      have hcell := HC.out k d (by rw [List.getElem?_eq_getElem hkl, hd])
      by_cases e : c = d
      · subst e
        have HR : Hid (Pl.IdxIs l c k) := Lib.hid (.inl ⟨k, by rw [List.getElem?_eq_getElem hkl, hd], rfl⟩)
        clear hd hkl
        go_wp2_with fail
        go_ret
        exact ⟨_, rfl, HR.out, rfl⟩
      · have hne : ((c.toNat : Int) == (d.toNat : Int)) = false := by
          rw [beq_eq_false_iff_ne]
          intro h
          exact e (UInt8.toNat_inj.1 (by omega))
        have HN2 : Hid (c ∉ l.take (k + 1)) := Lib.hid (by
          rw [List.take_succ_eq_append_getElem hkl, List.mem_append, List.mem_singleton, hd]
          intro h
          rcases h with h | h
          · exact hno.out h
          · exact e h)
        clear e hd hkl
        go_wp2_with fail
        go_round
        case rel => exact ⟨k + 1, by omega, by go_num, HN2⟩
        case measure => simp [RowKit.intOf]; omega
    · obtain rfl : k = n := by omega
      have HR : Hid (Pl.IdxIs l c (-1)) := Lib.hid (.inr ⟨by
        have := hno.out
        rwa [List.take_of_length_le (by rw [HN.out]; exact Nat.le_refl _)] at this, rfl⟩)
      go_wp2_with fail
      go_ret
      exact ⟨_, rfl, HR.out, rfl⟩
set_option maxHeartbeats 1000000 in
theorem contains_any (v : Value) (l : List UInt8) (c : UInt8) (w : World) (h : Rd1 w v l) (hl : l.length ≤ 1000000) :
    Calls Tryz.prog 130 #[v, .int .u8 c.toNat] w fun e w' => e = .returned (.bool (decide (c ∈ l))) ∧ w = w' := by
  have HI := Lib.hid (index_any v l c w h hl)
  obtain ⟨g, cap, rfl, hg, hc⟩ := h
  generalize l.length = n at *
  go_enter Tryz.func130, Tryz.ntmps130
  go_wp2_with fail
  refine HI.out.mono ?_
  rintro e w' ⟨r, rfl, hr, rfl⟩
  have hd : decide (0 ≤ r) = decide (c ∈ l) := by
    rcases hr with ⟨k, hk, rfl⟩ | ⟨hk, rfl⟩
    · rw [decide_eq_true (by omega), decide_eq_true (List.mem_of_getElem? hk)]
    · rw [decide_eq_false hk]; rfl
  have HD := Lib.hid hd
  clear hr hd
  go_wp2_with fail
  go_ret
  exact ⟨by rw [← HD.out]; rfl, rfl⟩
end Go.Proofs.YtlodbibagmblkaaGreatDoor
namespace Go.Proofs.YtlodbibagmblkaaGreatDoor
open Go.RowKit Go.Lib
theorem chain {w w1 w2 : World} {B : Nat} (h1 : Below B w w1) (h2 : Below w1.heap.size w1 w2) (hB : B ≤ w1.heap.size) : Below B w w2 := h1.trans (h2.mono hB)
set_option maxRecDepth 4000 in
set_option maxHeartbeats 2000000 in
theorem numadd_any (vx vy : Value) (na nb : Bool) (a b : Nat) (w : World) (hx : Rd w vx (Pl.wd a)) (hy : Rd w vy (Pl.wd b)) (la : (Pl.wd a).length ≤ 2500) (lb : (Pl.wd b).length ≤ 2500) :
    Calls Tryz.prog 67 #[.agg #[vx, .bool na], .agg #[vy, .bool nb]] w (NumOk w (sg na a + sg nb b)) := by
  have HADD : Hid (∀ W, Below w.heap.size w W → Calls Tryz.prog 85 #[vx, vy] W (NatOk W (a + b))) := Lib.hid (fun W hb => by
    have := nadd_any vx vy _ _ W (hx.below hb) (hy.below hb) (by omega) (by omega) (Pl.wd_ws a) (Pl.wd_ws b)
    rwa [Pl.wd_num, Pl.wd_num] at this)
  have HCMP : Hid (∀ W, Below w.heap.size w W → Calls Tryz.prog 134 #[vx, vy] W (fun e w' => e = .returned (.int .i64 (Pl.ordn a b)) ∧ Below W.heap.size W w')) := Lib.hid (fun W hb => by
    have := ncmp_any vx vy _ _ W (hx.below hb) (hy.below hb) (by omega) (by omega) (Pl.wd_ws a) (Pl.wd_ws b)
    rwa [Pl.wd_num, Pl.wd_num] at this)
  have HSUB : Hid (∀ W, Below w.heap.size w W → b ≤ a → Calls Tryz.prog 135 #[vx, vy] W (NatOk W (a - b))) := Lib.hid (fun W hb h => by
    have := nsub_any vx vy _ _ W (hx.below hb) (hy.below hb) (by omega) (Pl.wd_len_le h) (Pl.wd_ws a) (Pl.wd_ws b) (by rw [Pl.wd_num, Pl.wd_num]; exact h)
    rwa [Pl.wd_num, Pl.wd_num] at this)
  have HSUB2 : Hid (∀ W, Below w.heap.size w W → a ≤ b → Calls Tryz.prog 135 #[vy, vx] W (NatOk W (b - a))) := Lib.hid (fun W hb h => by
    have := nsub_any vy vx _ _ W (hy.below hb) (hx.below hb) (by omega) (Pl.wd_len_le h) (Pl.wd_ws b) (Pl.wd_ws a) (by rw [Pl.wd_num, Pl.wd_num]; exact h)
    rwa [Pl.wd_num, Pl.wd_num] at this)
  obtain ⟨xa, xc, rfl⟩ := hx.form
  obtain ⟨ya, yc, rfl⟩ := hy.form
  generalize (Pl.wd a).length = n at *
  generalize (Pl.wd b).length = m at *
  clear hx hy la lb
  obtain ⟨W3, hW3⟩ : ∃ W3, ((w.alloc (.cells #[.slice xa n xc, .bool na] 92)).alloc (.cells #[.slice ya m yc, .bool nb] 92)).alloc (.cells #[.slice none 0 0, .bool false] 92) = W3 := ⟨_, rfl⟩
  have P0 : Hid (P2 W3 w.heap.size 92 (.slice xa n xc) (.bool na)) := Lib.hid (by rw [← hW3]; exact ((P2.new _ _ _ _).alloc _).alloc _)
  have P1 : Hid (P2 W3 (w.heap.size + 1) 92 (.slice ya m yc) (.bool nb)) := Lib.hid (by
    rw [← hW3]
    have := (P2.new (w.alloc (.cells #[.slice xa n xc, .bool na] 92)) 92 (.slice ya m yc) (.bool nb)).alloc (.cells #[.slice none 0 0, .bool false] 92)
    simpa using this)
  have PR : Hid (P2 W3 (w.heap.size + 2) 92 (.slice none 0 0) (.bool false)) := Lib.hid (by
    rw [← hW3]
    have := P2.new ((w.alloc (.cells #[.slice xa n xc, .bool na] 92)).alloc (.cells #[.slice ya m yc, .bool nb] 92)) 92 (.slice none 0 0) (.bool false)
    simpa using this)
  have HB3 : Hid (Below w.heap.size w W3) := Lib.hid (by rw [← hW3]; exact (((Below.refl _ _).alloc (Nat.le_refl _) _).alloc (by simp) _).alloc (by simp; omega) _)
  have hs3 : w.heap.size + 3 ≤ W3.heap.size := by rw [← hW3]; simp
  have hW3' := Lib.hid hW3
  obtain ⟨p0, p1, p2, p3⟩ := P0.out.cells
  obtain ⟨q0, q1, q2, q3⟩ := P1.out.cells
  by_cases hs : na = nb
  · subst hs
    go_enter Tryz.func67, Tryz.ntmps67
    go_wp2_with fail
    go_region_held3 (fun W => W.cell? ⟨w.heap.size, 0, none⟩ = some (.slice xa n xc) ∧ W.cell? ⟨w.heap.size, 1, none⟩ = some (.bool na) ∧ W.cell? ⟨w.heap.size + 1, 0, none⟩ = some (.slice ya m yc)) (first | exact ⟨p0, p1, q0⟩ | exact ⟨pp0, pp1, qq0⟩ | exact ⟨(P04.both (by omega)).cells.1, (P04.both (by omega)).cells.2.1, (P14.both (by omega)).cells.1⟩ | (refine ⟨?_, ?_, ?_⟩ <;> assumption)) ((go_at_call 85; refine (HADD.out _ (by exact HB3.out.drew)).mono ?_; rintro e w4 ⟨v4, rfl, hrd4, hb4d⟩; have hb4 : Below W3.heap.size W3 w4 := (Below.refl _ W3).drew.trans hb4d; clear hb4d; have hB4 : Below w.heap.size w w4 := chain HB3.out hb4 (by omega); obtain ⟨xa4, xc4, rfl⟩ := hrd4.form; have P04 := P0.out.below hb4; have P14 := P1.out.below hb4; have PR4 := PR.out.below hb4; obtain ⟨pp0, pp1, _, _⟩ := P04.cells; obtain ⟨qq0, qq1, _, _⟩ := P14.cells; obtain ⟨r0, r1, f0, f1⟩ := PR4.cells))
    all_goals
      have hfin := PR4.set (.slice xa4 (Pl.wd (a + b)).length xc4) (.bool na)
      have HRD := Lib.hid (hrd4.clear2 (x := .slice xa4 (Pl.wd (a + b)).length xc4) (y := .bool na) PR4 (by simp) (by simp))
      have HBF := Lib.hid (below_set2 hB4 (show w.heap.size ≤ w.heap.size + 2 by omega) (.slice xa4 (Pl.wd (a + b)).length xc4) (.bool na))
      obtain ⟨k0, k1, _, _⟩ := hfin.cells
      clear hfin
      go_wp2_with fail
      refine bodyPost_ret (v := .agg #[.slice xa4 (Pl.wd (a + b)).length xc4, .bool na]) (by simp [results, Tryz.results67, go_sem, k0, k1]) rfl ⟨_, na, a + b, rfl, HRD.out, by unfold sg; split <;> omega, HBF.out⟩
  · have hne : (na == nb) = false := by rw [beq_eq_false_iff_ne]; exact hs
    go_enter Tryz.func67, Tryz.ntmps67
    go_wp2_with fail
    refine (HCMP.out _ (by exact HB3.out)).mono ?_
    rintro e w5 ⟨rfl, hb5⟩
    have HB4 := Lib.hid (chain HB3.out hb5 (by omega))
    have hs5 : w.heap.size + 3 ≤ w5.heap.size := Nat.le_trans hs3 hb5.size
    have P04 := Lib.hid (P0.out.below hb5)
    have P14 := Lib.hid (P1.out.below hb5)
    have PR4 := Lib.hid (PR.out.below hb5)
    clear p0 p1 p2 p3 q0 q1 q2 q3 hb5 hW3 hW3' HB3 P0 P1 PR hs3
    obtain ⟨p0, p1, p2, p3⟩ := P04.out.cells
    obtain ⟨q0, q1, q2, q3⟩ := P14.out.cells
    rcases Nat.lt_or_ge a b with hlt | hge
    · have ho : Pl.ordn a b = -1 := by unfold Pl.ordn; rw [if_pos hlt]
      have HSG : Hid (sg nb (b - a) = sg na a + sg nb b) := Lib.hid (by
        unfold sg
        cases na <;> cases nb <;> simp at hs ⊢ <;> omega)
      rw [ho]
      obtain ⟨w6, hw6⟩ : ∃ w6, (((w5.setCell ⟨w.heap.size, 0, none⟩ (.slice ya m yc)).setCell ⟨w.heap.size, 1, none⟩ (.bool nb)).setCell ⟨w.heap.size + 1, 0, none⟩ (.slice xa n xc)).setCell ⟨w.heap.size + 1, 1, none⟩ (.bool na) = w6 := ⟨_, rfl⟩
      have P05 : Hid (P2 w6 w.heap.size 92 (.slice ya m yc) (.bool nb)) := Lib.hid (by rw [← hw6]; exact (P04.out.set _ _).both (by omega))
      have P15 : Hid (P2 w6 (w.heap.size + 1) 92 (.slice xa n xc) (.bool na)) := Lib.hid (by rw [← hw6]; exact (P14.out.both (by omega)).set _ _)
      have PR6 : Hid (P2 w6 (w.heap.size + 2) 92 (.slice none 0 0) (.bool false)) := Lib.hid (by rw [← hw6]; exact (PR4.out.both (by omega)).both (by omega))
      have HB6 : Hid (Below w.heap.size w w6) := Lib.hid (by rw [← hw6]; exact below_set2 (below_set2 HB4.out (Nat.le_refl _) _ _) (by omega) _ _)
      have hs6 : w.heap.size + 3 ≤ w6.heap.size := by rw [← hw6]; simpa [World.setCell] using hs5
      go_wp2_with fail
      try rw [hw6]
      clear p0 p1 p2 p3 q0 q1 q2 q3 hw6
      obtain ⟨p0, p1, p2, p3⟩ := P05.out.cells
      obtain ⟨q0, q1, q2, q3⟩ := P15.out.cells
      clear hs5 HB4 P04 P14 PR4
      go_region_held3 (fun W => W.cell? ⟨w.heap.size, 0, none⟩ = some (.slice ya m yc) ∧ W.cell? ⟨w.heap.size, 1, none⟩ = some (.bool nb) ∧ W.cell? ⟨w.heap.size + 1, 0, none⟩ = some (.slice xa n xc)) (first | exact ⟨p0, p1, q0⟩ | exact ⟨pp0, pp1, qq0⟩ | exact ⟨(P04.both (by omega)).cells.1, (P04.both (by omega)).cells.2.1, (P14.both (by omega)).cells.1⟩ | (refine ⟨?_, ?_, ?_⟩ <;> assumption)) ((go_at_call 135; refine (HSUB2.out _ (by exact HB6.out.drew) (Nat.le_of_lt hlt)).mono ?_; rintro e w4 ⟨v4, rfl, hrd4, hb4d⟩; have hb4 : Below w6.heap.size w6 w4 := (Below.refl _ w6).drew.trans hb4d; clear hb4d; have hB4 : Below w.heap.size w w4 := chain HB6.out hb4 (by omega); obtain ⟨xa4, xc4, rfl⟩ := hrd4.form; have P04 := P05.out.below hb4; have P14 := P15.out.below hb4; have PR4 := PR6.out.below hb4; obtain ⟨pp0, pp1, _, _⟩ := P04.cells; obtain ⟨qq0, qq1, _, _⟩ := P14.cells; obtain ⟨r0, r1, f0, f1⟩ := PR4.cells))
      all_goals
        have hfin := PR4.set (.slice xa4 (Pl.wd (b - a)).length xc4) (.bool nb)
        have HRD := Lib.hid (hrd4.clear2 (x := .slice xa4 (Pl.wd (b - a)).length xc4) (y := .bool nb) PR4 (by simp) (by simp))
        have HBF := Lib.hid (below_set2 hB4 (show w.heap.size ≤ w.heap.size + 2 by omega) (.slice xa4 (Pl.wd (b - a)).length xc4) (.bool nb))
        obtain ⟨k0, k1, _, _⟩ := hfin.cells
        clear hfin
        go_wp2_with fail
        refine bodyPost_ret (v := .agg #[.slice xa4 (Pl.wd (b - a)).length xc4, .bool nb]) (by simp [results, Tryz.results67, go_sem, k0, k1]) rfl ⟨_, nb, b - a, rfl, HRD.out, HSG.out, HBF.out⟩
    · have ho : ¬ Pl.ordn a b < 0 := by unfold Pl.ordn; rw [if_neg (by omega)]; split <;> omega
      have HSG : Hid (sg na (a - b) = sg na a + sg nb b) := Lib.hid (by
        unfold sg
        cases na <;> cases nb <;> simp at hs ⊢ <;> omega)
      have hdo : decide (Pl.ordn a b < 0) = false := decide_eq_false ho
      have HB5 := HB4
      have PR5 := PR4
      go_wp2_with fail
      go_region_held3 (fun W => W.cell? ⟨w.heap.size, 0, none⟩ = some (.slice xa n xc) ∧ W.cell? ⟨w.heap.size, 1, none⟩ = some (.bool na) ∧ W.cell? ⟨w.heap.size + 1, 0, none⟩ = some (.slice ya m yc)) (first | exact ⟨p0, p1, q0⟩ | exact ⟨pp0, pp1, qq0⟩ | exact ⟨(P04.both (by omega)).cells.1, (P04.both (by omega)).cells.2.1, (P14.both (by omega)).cells.1⟩ | (refine ⟨?_, ?_, ?_⟩ <;> assumption)) ((go_at_call 135; refine (HSUB.out _ (by exact HB5.out.drew) hge).mono ?_; rintro e w4 ⟨v4, rfl, hrd4, hb4d⟩; have hb4 : Below w5.heap.size w5 w4 := (Below.refl _ w5).drew.trans hb4d; clear hb4d; have hB4 : Below w.heap.size w w4 := chain HB5.out hb4 (by omega); obtain ⟨xa4, xc4, rfl⟩ := hrd4.form; have P04 := P04.out.below hb4; have P14 := P14.out.below hb4; have PR4 := PR5.out.below hb4; obtain ⟨pp0, pp1, _, _⟩ := P04.cells; obtain ⟨qq0, qq1, _, _⟩ := P14.cells; obtain ⟨r0, r1, f0, f1⟩ := PR4.cells))
      all_goals
        have hfin := PR4.set (.slice xa4 (Pl.wd (a - b)).length xc4) (.bool na)
        have HRD := Lib.hid (hrd4.clear2 (x := .slice xa4 (Pl.wd (a - b)).length xc4) (y := .bool na) PR4 (by simp) (by simp))
        have HBF := Lib.hid (below_set2 hB4 (show w.heap.size ≤ w.heap.size + 2 by omega) (.slice xa4 (Pl.wd (a - b)).length xc4) (.bool na))
        obtain ⟨k0, k1, _, _⟩ := hfin.cells
        clear hfin
        go_wp2_with fail
        refine bodyPost_ret (v := .agg #[.slice xa4 (Pl.wd (a - b)).length xc4, .bool na]) (by simp [results, Tryz.results67, go_sem, k0, k1]) rfl ⟨_, na, a - b, rfl, HRD.out, HSG.out, HBF.out⟩
end Go.Proofs.YtlodbibagmblkaaGreatDoor
namespace Go.Proofs.YtlodbibagmblkaaGreatDoor
open Go.RowKit Go.Lib
namespace Pl
theorem words_wd (V : Nat) : words (((dgs V).length + 3) / 4) (dgs V) = wd V := by
  have hn := num_words (dgs V) (((dgs V).length + 3) / 4) (by omega)
  rw [le_dgs] at hn
  have hw : Ws (words (((dgs V).length + 3) / 4) (dgs V)) := fun x hx => by
    obtain ⟨j, _, rfl⟩ := List.mem_map.1 hx; exact word_lt _ j
  by_cases h0 : dgs V = []
  · rw [h0] at hn hw ⊢
    exact wd_eq hw (.inl rfl) hn
  · refine wd_eq hw (tr_of_ge hw ?_) hn
    rw [hn, words_len]
    have h1 := canon_ge (canon_dgs V) h0
    rw [le_dgs] at h1
    have hl : 0 < (dgs V).length := List.length_pos_iff.2 h0
    refine Nat.le_trans ?_ h1
    rw [show (4294967296 : Nat) = 256 ^ 4 from rfl, ← Nat.pow_mul]
    exact Nat.pow_le_pow_right (by decide) (by omega)
/-- fits it? -/
theorem lt_p {V a b : Nat} (h : V < 256 ^ a) (hab : a ≤ b) : V < 256 ^ b := Nat.lt_of_lt_of_le h (Nat.pow_le_pow_right (by decide) hab)
theorem le_p {V a b : Nat} (h : 256 ^ b ≤ V) (hab : a ≤ b) : 256 ^ a ≤ V := Nat.le_trans (Nat.pow_le_pow_right (by decide) hab) h
theorem le_q {V a b : Nat} (h : 4294967296 ^ b ≤ V) (hab : a ≤ b) : 4294967296 ^ a ≤ V := Nat.le_trans (Nat.pow_le_pow_right (by decide) hab) h
theorem p32 (k : Nat) : (256 : Nat) ^ (4 * k) = 4294967296 ^ k := by rw [Nat.pow_mul]
def Big (n : Int) : Prop := n.natAbs < 256 ^ 4096
theorem wd_len (V : Nat) (h : V < 256 ^ 4096) : (wd V).length ≤ 1024 := by
  rw [← words_wd, words_len]
  have := dgs_len h
  omega
theorem bytesOf_wd (V : Nat) : bytesOf (wd V) = dgs V := by rw [bytesOf_is (wd_ws V), wd_num]
end Pl
theorem lof_any2 (n : Int) (w : World) (h : Pl.Big n) : Calls Tryz.prog 69 #[lof n] w fun e w' => ∃ v, e = .returned (.agg #[v, .bool (decide (n < 0))]) ∧ Rd w' v (Pl.wd n.natAbs) ∧ Below w.heap.size w w' := by
  have := lof_any (decide (n < 0)) (Pl.dgs n.natAbs) w (Pl.dgs_len h)
  rw [show OfOk w (decide (n < 0)) (Pl.dgs n.natAbs) = fun e w' => ∃ v, e = .returned (.agg #[v, .bool (decide (n < 0))]) ∧ Rd w' v (Pl.words (((Pl.dgs n.natAbs).length + 3) / 4) (Pl.dgs n.natAbs)) ∧ Below w.heap.size w w' from rfl] at this
  rw [Pl.words_wd] at this
  exact this
theorem lcheck_any2 (n : Int) (w : World) (h : Pl.Big n) : Calls Tryz.prog 82 #[lof n] w fun e w' => e = .returned (.int .i64 0) ∧ Below w.heap.size w w' := by
  have := check_any (decide (n < 0)) (Pl.dgs n.natAbs) w (Nat.le_trans (Pl.dgs_len h) (by decide))
  rw [Pl.chk_dgs h (by intro h1 h2; simp at h1; omega)] at this
  exact this
set_option maxRecDepth 4000 in
set_option maxHeartbeats 4000000 in
theorem ltwo_any (A B : Int) (w : World) (hA : Pl.Big A) (hB : Pl.Big B) :
    Calls Tryz.prog 65 #[lof A, lof B] w fun e w' => ∃ va vb, e = .returned (.tuple #[.agg #[va, .bool (decide (A < 0))], .agg #[vb, .bool (decide (B < 0))], .int .i64 0]) ∧ Rd w' va (Pl.wd A.natAbs) ∧ Rd w' vb (Pl.wd B.natAbs) ∧ Below w.heap.size w w' := by
  have HCA := Lib.hid (fun W => lcheck_any2 A W hA)
  have HCB := Lib.hid (fun W => lcheck_any2 B W hB)
  have HOA := Lib.hid (fun W => lof_any2 A W hA)
  have HOB := Lib.hid (fun W => lof_any2 B W hB)
  clear hA hB
  obtain ⟨na, hna⟩ : ∃ na, decide (A < 0) = na := ⟨_, rfl⟩
  obtain ⟨nb, hnb⟩ : ∃ nb, decide (B < 0) = nb := ⟨_, rfl⟩
  have ha : lof A = .agg #[.bool na, .string (bs (Pl.dgs A.natAbs))] := by unfold lof lv; rw [hna]
  have hb : lof B = .agg #[.bool nb, .string (bs (Pl.dgs B.natAbs))] := by unfold lof lv; rw [hnb]
  rw [ha] at HCA HOA ⊢
  rw [hb] at HCB HOB ⊢
  rw [hna] at HOA ⊢
  rw [hnb] at HOB ⊢
  generalize bs (Pl.dgs A.natAbs) = sa at *
  generalize bs (Pl.dgs B.natAbs) = sb at *
  generalize A.natAbs = U at *
  generalize B.natAbs = V at *
  clear ha hb hna hnb
  obtain ⟨W3, hW3⟩ : ∃ W3, (((w.alloc (.cells #[.bool na, .string sa] 43)).alloc (.cells #[.bool nb, .string sb] 43)).alloc (.cells #[.slice none 0 0, .bool false] 92)).alloc (.cells #[.slice none 0 0, .bool false] 92) = W3 := ⟨_, rfl⟩
  have P0 : Hid (P2 W3 w.heap.size 43 (.bool na) (.string sa)) := Lib.hid (by rw [← hW3]; exact (((P2.new _ _ _ _).alloc _).alloc _).alloc _)
  have P1 : Hid (P2 W3 (w.heap.size + 1) 43 (.bool nb) (.string sb)) := Lib.hid (by
    rw [← hW3]
    have := ((P2.new (w.alloc (.cells #[.bool na, .string sa] 43)) 43 (.bool nb) (.string sb)).alloc (.cells #[.slice none 0 0, .bool false] 92)).alloc (.cells #[.slice none 0 0, .bool false] 92)
    simpa using this)
  have R0 : Hid (P2 W3 (w.heap.size + 2) 92 (.slice none 0 0) (.bool false)) := Lib.hid (by
    rw [← hW3]
    have := (P2.new ((w.alloc (.cells #[.bool na, .string sa] 43)).alloc (.cells #[.bool nb, .string sb] 43)) 92 (.slice none 0 0) (.bool false)).alloc (.cells #[.slice none 0 0, .bool false] 92)
    simpa using this)
  have R1 : Hid (P2 W3 (w.heap.size + 3) 92 (.slice none 0 0) (.bool false)) := Lib.hid (by
    rw [← hW3]
    have := P2.new (((w.alloc (.cells #[.bool na, .string sa] 43)).alloc (.cells #[.bool nb, .string sb] 43)).alloc (.cells #[.slice none 0 0, .bool false] 92)) 92 (.slice none 0 0) (.bool false)
    simpa using this)
  have HB3 : Hid (Below w.heap.size w W3) := Lib.hid (by rw [← hW3]; exact ((((Below.refl _ _).alloc (Nat.le_refl _) _).alloc (by simp) _).alloc (by simp; omega) _).alloc (by simp; omega) _)
  have hs3 : w.heap.size + 4 ≤ W3.heap.size := by rw [← hW3]; simp
  obtain ⟨p0, p1, _, _⟩ := P0.out.cells
  go_enter Tryz.func65, Tryz.ntmps65
  go_wp2_with fail
  refine (HCA.out _).mono ?_
  rintro e w4 ⟨rfl, hb4⟩
  have P04 := Lib.hid (P0.out.below hb4)
  have P14 := Lib.hid (P1.out.below hb4)
  have R04 := Lib.hid (R0.out.below hb4)
  have R14 := Lib.hid (R1.out.below hb4)
  have HB4 := Lib.hid (chain HB3.out hb4 (by omega))
  have hs4 : w.heap.size + 4 ≤ w4.heap.size := Nat.le_trans hs3 hb4.size
  clear p0 p1 hb4 P0 P1 R0 R1 HB3 hs3 hW3
  obtain ⟨q0, q1, _, _⟩ := P14.out.cells
  go_wp2_with fail
  refine (HCB.out _).mono ?_
  rintro e w5 ⟨rfl, hb5⟩
  have P0 := Lib.hid (P04.out.below hb5)
  have P1 := Lib.hid (P14.out.below hb5)
  have R0 := Lib.hid (R04.out.below hb5)
  have R1 := Lib.hid (R14.out.below hb5)
  have HB5 := Lib.hid (chain HB4.out hb5 (by omega))
  have hs5 : w.heap.size + 4 ≤ w5.heap.size := Nat.le_trans hs4 hb5.size
  clear q0 q1 hb5 P04 P14 R04 R14 HB4 hs4
  obtain ⟨p0, p1, _, _⟩ := P0.out.cells
  obtain ⟨q0, q1, _, _⟩ := P1.out.cells
  have HS : Hid (∀ W, Below w5.heap.size w5 W → W.cell? ⟨w.heap.size, 0, none⟩ = some (.bool na) ∧ W.cell? ⟨w.heap.size, 1, none⟩ = some (.string sa) ∧ W.cell? ⟨w.heap.size + 1, 0, none⟩ = some (.bool nb) ∧ W.cell? ⟨w.heap.size + 1, 1, none⟩ = some (.string sb)) := Lib.hid (fun W hb => ⟨(P0.out.below hb).cells.1, (P0.out.below hb).cells.2.1, (P1.out.below hb).cells.1, (P1.out.below hb).cells.2.1⟩)
  have HS2 : Hid (∀ W, Below w5.heap.size w5 W → ∀ k, k ≠ w.heap.size → k ≠ w.heap.size + 1 → ∀ x y, ((W.setCell ⟨k, 0, none⟩ x).setCell ⟨k, 1, none⟩ y).cell? ⟨w.heap.size, 0, none⟩ = some (.bool na) ∧ ((W.setCell ⟨k, 0, none⟩ x).setCell ⟨k, 1, none⟩ y).cell? ⟨w.heap.size, 1, none⟩ = some (.string sa) ∧ ((W.setCell ⟨k, 0, none⟩ x).setCell ⟨k, 1, none⟩ y).cell? ⟨w.heap.size + 1, 0, none⟩ = some (.bool nb) ∧ ((W.setCell ⟨k, 0, none⟩ x).setCell ⟨k, 1, none⟩ y).cell? ⟨w.heap.size + 1, 1, none⟩ = some (.string sb)) := Lib.hid (fun W hb k h1 h2 x y => ⟨((P0.out.below hb).both h1).cells.1, ((P0.out.below hb).both h1).cells.2.1, ((P1.out.below hb).both h2).cells.1, ((P1.out.below hb).both h2).cells.2.1⟩)
  have HS3 : Hid (∀ W, Below w5.heap.size w5 W → ∀ k, k ≠ w.heap.size → k ≠ w.heap.size + 1 → ∀ x y, ∀ j, j ≠ w.heap.size → j ≠ w.heap.size + 1 → ∀ x' y', ((((W.setCell ⟨k, 0, none⟩ x).setCell ⟨k, 1, none⟩ y).setCell ⟨j, 0, none⟩ x').setCell ⟨j, 1, none⟩ y').cell? ⟨w.heap.size, 0, none⟩ = some (.bool na) ∧ ((((W.setCell ⟨k, 0, none⟩ x).setCell ⟨k, 1, none⟩ y).setCell ⟨j, 0, none⟩ x').setCell ⟨j, 1, none⟩ y').cell? ⟨w.heap.size, 1, none⟩ = some (.string sa) ∧ ((((W.setCell ⟨k, 0, none⟩ x).setCell ⟨k, 1, none⟩ y).setCell ⟨j, 0, none⟩ x').setCell ⟨j, 1, none⟩ y').cell? ⟨w.heap.size + 1, 0, none⟩ = some (.bool nb) ∧ ((((W.setCell ⟨k, 0, none⟩ x).setCell ⟨k, 1, none⟩ y).setCell ⟨j, 0, none⟩ x').setCell ⟨j, 1, none⟩ y').cell? ⟨w.heap.size + 1, 1, none⟩ = some (.string sb)) := Lib.hid (fun W hb k h1 h2 x y j h3 h4 x' y' => ⟨(((P0.out.below hb).both h1).both h3).cells.1, (((P0.out.below hb).both h1).both h3).cells.2.1, (((P1.out.below hb).both h2).both h4).cells.1, (((P1.out.below hb).both h2).both h4).cells.2.1⟩)
  have BD := Lib.hid (show Below w5.heap.size w5 w5.drew from (Below.refl _ w5).drew)
  go_wp2_with fail
  go_region_held3 (fun W => W.cell? ⟨w.heap.size, 0, none⟩ = some (.bool na) ∧ W.cell? ⟨w.heap.size, 1, none⟩ = some (.string sa) ∧ W.cell? ⟨w.heap.size + 1, 0, none⟩ = some (.bool nb) ∧ W.cell? ⟨w.heap.size + 1, 1, none⟩ = some (.string sb)) (first | with_reducible exact ⟨p0, p1, q0, q1⟩ | with_reducible exact HS.out _ BD.out | with_reducible exact HS.out _ hKA | with_reducible exact HS.out _ hKB | (with_reducible refine HS2.out _ ?_ _ ?_ ?_ _ _; (first | exact hKA | exact hKB); omega; omega) | (with_reducible refine HS3.out _ ?_ _ ?_ ?_ _ _ _ ?_ ?_ _ _; (first | exact hKA | exact hKB); omega; omega; omega; omega)) (first
    | (go_at_call 69; (with_reducible refine (HOA.out _).mono ?_); rintro e wA ⟨va, rfl, hra, hba⟩; obtain ⟨a1, a2, rfl⟩ := hra.form; (first | (have hKA : Below w5.heap.size w5 wA := hKB.trans (hba.mono hKB.size); have hZ := Lib.hid (And.intro hra (And.intro (hrb.below hba) hKA)); obtain ⟨r0, r1, f0, f1⟩ := (R0.out.below hKA).cells; obtain ⟨t0, t1, g0, g1⟩ := (R1.out.below hKA).cells) | (have hKA : Below w5.heap.size w5 wA := (Below.refl _ w5).drew.trans hba)))
    | (go_at_call 69; (with_reducible refine (HOB.out _).mono ?_); rintro e wB ⟨vb, rfl, hrb, hbb⟩; obtain ⟨b1, b2, rfl⟩ := hrb.form; (first | (have hKB : Below w5.heap.size w5 wB := hKA.trans (hbb.mono hKA.size); have hZ := Lib.hid (And.intro (hra.below hbb) (And.intro hrb hKB)); obtain ⟨r0, r1, f0, f1⟩ := (R0.out.below hKB).cells; obtain ⟨t0, t1, g0, g1⟩ := (R1.out.below hKB).cells) | (have hKB : Below w5.heap.size w5 wB := (Below.refl _ w5).drew.trans hbb))))
  all_goals
    obtain ⟨hz1, hz2, hz3⟩ := hZ.out
    have Q0 := R0.out.below hz3
    have Q1 := R1.out.below hz3
    have F0 := Lib.hid ((Q0.set (.slice a1 (Pl.wd U).length a2) (.bool na)).both (k := w.heap.size + 2) (j := w.heap.size + 3) (x := .slice b1 (Pl.wd V).length b2) (y := .bool nb) (by omega))
    have F1 := Lib.hid ((Q1.both (k := w.heap.size + 3) (j := w.heap.size + 2) (x := .slice a1 (Pl.wd U).length a2) (y := .bool na) (by omega)).set (.slice b1 (Pl.wd V).length b2) (.bool nb))
    have hq1 := Q1.both (k := w.heap.size + 3) (j := w.heap.size + 2) (x := .slice a1 (Pl.wd U).length a2) (y := .bool na) (by omega)
    have Z1 := Lib.hid ((hz1.clear2 (x := .slice a1 (Pl.wd U).length a2) (y := .bool na) Q0 (by simp) (by simp)).clear2 (x := .slice b1 (Pl.wd V).length b2) (y := .bool nb) hq1 (by simp) (by simp))
    have Z2 := Lib.hid ((hz2.clear2 (x := .slice a1 (Pl.wd U).length a2) (y := .bool na) Q0 (by simp) (by simp)).clear2 (x := .slice b1 (Pl.wd V).length b2) (y := .bool nb) hq1 (by simp) (by simp))
    have ZB := Lib.hid (below_set2 (below_set2 (HB5.out.trans (hz3.mono (by omega))) (show w.heap.size ≤ w.heap.size + 2 by omega) (.slice a1 (Pl.wd U).length a2) (.bool na)) (show w.heap.size ≤ w.heap.size + 3 by omega) (.slice b1 (Pl.wd V).length b2) (.bool nb))
    obtain ⟨k0, k1, _, _⟩ := F0.out.cells
    obtain ⟨l0, l1, _, _⟩ := F1.out.cells
    clear Q0 Q1 hq1 hz1 hz2 hz3
    go_wp2_with fail
    refine bodyPost_ret (v := .tuple #[.agg #[.slice a1 (Pl.wd U).length a2, .bool na], .agg #[.slice b1 (Pl.wd V).length b2, .bool nb], .int .i64 0]) (by simp [results, Tryz.results65, go_sem, k0, k1, l0, l1]) rfl ⟨_, _, rfl, Z1.out, Z2.out, ZB.out⟩
end Go.Proofs.YtlodbibagmblkaaGreatDoor
