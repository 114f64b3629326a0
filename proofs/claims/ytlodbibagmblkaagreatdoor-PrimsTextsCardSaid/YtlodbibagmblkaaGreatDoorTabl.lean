/- A text as a large number, by the document: the contracts of the reference's value and Parse to base ten (printed by gen_rpa.py). -/
import Derived.Test.YtlodbibagmblkaaGreatDoorTabk
import Derived.Test.YtlodbibagmblkaaGreatDoorTaam
namespace Go.Proofs.YtlodbibagmblkaaGreatDoor
open Go.RowKit Go.Lib
namespace Pl
def vlr (c : UInt8) : Int := if 48 ≤ c.toNat ∧ c.toNat ≤ 57 then (c.toNat : Int) - 48 else if 65 ≤ c.toNat ∧ c.toNat ≤ 90 then (c.toNat : Int) - 55 else -1
theorem vl_in (c : UInt8) : c ∈ D10 ↔ 0 ≤ vlr c ∧ vlr c < 10 := by
  rw [d10_iff]
  unfold dg vlr
  split
  · omega
  · split <;> omega
theorem vl_dg {c : UInt8} (h : c ∈ D10) : vlr c = (dg c : Nat) := by
  have h1 := (d10_iff c).1 h
  unfold dg vlr at *
  split
  · omega
  · split <;> simp_all <;> omega
theorem byte_round {xs zs : List UInt8} {k c b V0 : Nat} (hk : k < zs.length) (hx : k < xs.length) (h : le (zs.take k) + 256 ^ k * c = le (xs.take k) * b + V0) :
    le ((zs.set k (UInt8.ofNat ((xs[k].toNat * b + c) % 256))).take (k + 1)) + 256 ^ (k + 1) * ((xs[k].toNat * b + c) / 256) = le (xs.take (k + 1)) * b + V0 := by
  rw [le_take_succ (by rw [List.length_set]; exact hk), le_take_succ hx, Nat.pow_succ]
  rw [List.take_set_of_le (Nat.le_refl k), List.getElem_set_self]
  have e2 : (UInt8.ofNat ((xs[k].toNat * b + c) % 256)).toNat = (xs[k].toNat * b + c) % 256 := by simp [UInt8.toNat_ofNat']
  rw [e2]
  generalize xs[k].toNat = x at *
  have e := Nat.div_add_mod (x * b + c) 256
  have e3 : 256 ^ k * ((x * b + c) % 256) + 256 ^ k * 256 * ((x * b + c) / 256) = 256 ^ k * (x * b + c) := by
    rw [Nat.mul_assoc, ← Nat.mul_add, Nat.add_comm, e]
  rw [Nat.add_assoc, e3, Nat.mul_add, Nat.add_mul]
  have e4 : 256 ^ k * x * b = 256 ^ k * (x * b) := Nat.mul_assoc _ _ _
  rw [e4]
  omega
theorem canon_round {xs zs : List UInt8} (h : Canon xs) (hl : zs.length = xs.length) (hle : le xs ≤ le zs) : Canon zs := by
  by_cases h0 : xs = []
  · have : zs = [] := List.eq_nil_of_length_eq_zero (by rw [hl, h0]; rfl)
    rw [this]; simp [Canon]
  · have h1 := canon_ge h h0
    have hz : zs ≠ [] := by intro e; rw [e] at hl; exact h0 (List.eq_nil_of_length_eq_zero hl.symm)
    obtain ⟨l, c, rfl⟩ : ∃ l c, zs = l ++ [c] := ⟨_, _, (List.dropLast_concat_getLast hz).symm⟩
    refine canon_snoc ?_
    rintro rfl
    rw [le_snoc] at hle
    have h2 := le_lt l
    rw [← hl, List.length_append, List.length_singleton, Nat.add_sub_cancel] at h1
    simp at hle
    omega
end Pl
theorem toldv_bg {n : Int} (h : Pl.Big n) : toldv n = .tuple #[lof n, .int .i64 0] := by unfold toldv; exact if_pos h
set_option maxHeartbeats 1000000 in
theorem rvalue_any (c : UInt8) (w : World) : Calls Tryz.prog 61 #[.int .u8 c.toNat] w fun e w' => e = .returned (.int .i64 (Pl.vlr c)) ∧ w = w' := by
  have hl := c.toNat_lt
  unfold Pl.vlr
  generalize c.toNat = x at *
  by_cases h1 : 48 ≤ x
  · have d1 : decide ((48 : Int) ≤ (x : Int)) = true := decide_eq_true (by omega)
    by_cases h2 : x ≤ 57
    · have d2 : decide ((x : Int) ≤ 57) = true := decide_eq_true (by omega)
      have hw : IntKind.u8.wrap ((x : Int) - 48) = (x : Int) - 48 := by rw [IntKind.wrap_u8]; omega
      rw [if_pos ⟨h1, h2⟩]
      go_enter Tryz.func61, Tryz.ntmps61
      go_wp2_with fail
      go_ret
      exact ⟨rfl, rfl⟩
    · have d2 : decide ((x : Int) ≤ 57) = false := decide_eq_false (by omega)
      rw [if_neg (by omega)]
      by_cases h3 : 65 ≤ x
      · have d3 : decide ((65 : Int) ≤ (x : Int)) = true := decide_eq_true (by omega)
        by_cases h4 : x ≤ 90
        · have d4 : decide ((x : Int) ≤ 90) = true := decide_eq_true (by omega)
          rw [if_pos ⟨h3, h4⟩]
          have hE : Hid ((x : Int) - 55 = (x : Int) - 65 + 10) := Lib.hid (by omega)
          have hw : IntKind.u8.wrap ((x : Int) - 65) = (x : Int) - 65 := by rw [IntKind.wrap_u8]; omega
          rw [hE.out]
          go_enter Tryz.func61, Tryz.ntmps61
          go_wp2_with fail
          go_ret
          exact ⟨rfl, rfl⟩
        · have d4 : decide ((x : Int) ≤ 90) = false := decide_eq_false (by omega)
          rw [if_neg (by omega)]
          go_enter Tryz.func61, Tryz.ntmps61
          go_wp2_with fail
          go_ret
          exact ⟨rfl, rfl⟩
      · have d3 : decide ((65 : Int) ≤ (x : Int)) = false := decide_eq_false (by omega)
        rw [if_neg (by omega)]
        go_enter Tryz.func61, Tryz.ntmps61
        go_wp2_with fail
        go_ret
        exact ⟨rfl, rfl⟩
  · have d1 : decide ((48 : Int) ≤ (x : Int)) = false := decide_eq_false (by omega)
    have d3 : decide ((65 : Int) ≤ (x : Int)) = false := decide_eq_false (by omega)
    rw [if_neg (by omega), if_neg (by omega)]
    go_enter Tryz.func61, Tryz.ntmps61
    go_wp2_with fail
    go_ret
    exact ⟨rfl, rfl⟩
set_option maxRecDepth 4000 in
set_option maxHeartbeats 4000000 in
theorem rparse_err (l : List UInt8) (w : World) (hl : l.length ≤ 300000) (h : l = [] ∨ l = [45] ∨ (∃ r, l = 45 :: 48 :: r) ∨ ∃ d r, l = 48 :: d :: r) :
    Calls Tryz.prog 21 #[.string (bs l), .int .i64 10] w (ParseV w l) := by
  have hno : Hid (∀ n, ¬ Pl.IntT 10 l n) := Lib.hid (by
    rcases h with rfl | rfl | ⟨r, rfl⟩ | ⟨d, r, rfl⟩
    · exact Pl.intT_nil
    · exact Pl.intT_minus
    · exact Pl.intT_minus0 r
    · exact Pl.intT_nought d r)
  have hfin : Hid (∀ W' : World, Below w.heap.size w W' → ParseV w l (.returned (.tuple #[.agg #[.bool false, .string ⟨#[]⟩], .int .i64 93])) W') := Lib.hid (fun W' hb => ⟨.inr ⟨hno.out, rfl⟩, hb⟩)
  obtain ⟨W1, hW1⟩ : ∃ W1, w.alloc (.cells #[.bool false, .string ⟨#[]⟩] 43) = W1 := ⟨_, rfl⟩
  have P0 : Hid (P2 W1 w.heap.size 43 (.bool false) (.string ⟨#[]⟩)) := Lib.hid (by rw [← hW1]; exact P2.new _ _ _ _)
  have HB1 : Hid (Below w.heap.size w W1) := Lib.hid (by rw [← hW1]; exact (Below.refl _ _).alloc (Nat.le_refl _) _)
  obtain ⟨p0, p1, p2, p3⟩ := P0.out.cells
  have hf := P0.out.set (.bool false) (.string ⟨#[]⟩)
  obtain ⟨k0, k1, _, _⟩ := hf.cells
  have HBF := Lib.hid (below_set2 HB1.out (Nat.le_refl _) (.bool false) (.string ⟨#[]⟩))
  clear hf
  rcases h with rfl | rfl | ⟨r, rfl⟩ | ⟨d, r, rfl⟩
  · go_enter Tryz.func21, Tryz.ntmps21
    go_wp2_with fail
    all_goals exact bodyPost_ret (v := .tuple #[.agg #[.bool false, .string ⟨#[]⟩], .int .i64 93]) (by simp [results, Tryz.results21, go_sem, k0, k1]) rfl (hfin.out _ HBF.out)
  · have e1 : (bs [45]).extract 1 1 = ⟨#[]⟩ := by apply ByteArray.ext; rw [ByteArray.data_extract]; rfl
    go_enter Tryz.func21, Tryz.ntmps21
    go_wp2_with fail
    all_goals exact bodyPost_ret (v := .tuple #[.agg #[.bool false, .string ⟨#[]⟩], .int .i64 93]) (by simp [results, Tryz.results21, go_sem, k0, k1]) rfl (hfin.out _ HBF.out)
  · have hE := bs_tail 45 (48 :: r)
    have hsz : (bs (45 :: 48 :: r)).size = (48 :: r).length + 1 := rfl
    have h0 : ∀ h : 0 < (bs (45 :: 48 :: r)).size, (bs (45 :: 48 :: r))[0]'h = 45 := fun _ => rfl
    have hTs : (bs (48 :: r)).size = (48 :: r).length := rfl
    have hT0 : ∀ h : 0 < (bs (48 :: r)).size, (bs (48 :: r))[0]'h = 48 := fun _ => rfl
    have hTe : (bs (48 :: r)).toList.isEmpty = false := by rw [ByteArray.toList_eq]; rfl
    obtain ⟨N, hN⟩ : ∃ N, (48 :: r).length = N := ⟨_, rfl⟩
    have hN1 : 1 ≤ N := by rw [← hN]; simp
    rw [hN] at hE hsz hTs
    generalize bs (45 :: 48 :: r) = S at *
    generalize bs (48 :: r) = T at *
    have hq : 0 < S.size := by omega
    have hc := h0 hq
    have hq2 : 0 < T.size := by omega
    have hc2 := hT0 hq2
    have hpos : decide ((0 : Int) < (S.size : Int)) = true := decide_eq_true (by omega)
    go_enter Tryz.func21, Tryz.ntmps21
    go_wp2_with fail
    all_goals exact bodyPost_ret (v := .tuple #[.agg #[.bool false, .string ⟨#[]⟩], .int .i64 93]) (by simp [results, Tryz.results21, go_sem, k0, k1]) rfl (hfin.out _ HBF.out)
  · have hsz : (bs (48 :: d :: r)).size = r.length + 2 := rfl
    have h0 : ∀ h : 0 < (bs (48 :: d :: r)).size, (bs (48 :: d :: r))[0]'h = 48 := fun _ => rfl
    have hSe : (bs (48 :: d :: r)).toList.isEmpty = false := by rw [ByteArray.toList_eq]; rfl
    have hS48 : ((bs (48 :: d :: r)).toList == [48]) = false := by rw [ByteArray.toList_eq]; show ((48 :: d :: r : List UInt8) == [48]) = false; rw [beq_eq_false_iff_ne]; intro e; cases e
    generalize bs (48 :: d :: r) = S at *
    have hq : 0 < S.size := by omega
    have hc := h0 hq
    have hpos : decide ((0 : Int) < (S.size : Int)) = true := decide_eq_true (by omega)
    go_enter Tryz.func21, Tryz.ntmps21
    go_wp2_with fail
    all_goals exact bodyPost_ret (v := .tuple #[.agg #[.bool false, .string ⟨#[]⟩], .int .i64 93]) (by simp [results, Tryz.results21, go_sem, k0, k1]) rfl (hfin.out _ HBF.out)
set_option maxRecDepth 4000 in
set_option maxHeartbeats 4000000 in
theorem rparse_go (g : Bool) (t : List UInt8) (w : World) (hl : t.length ≤ 300000) (h0 : t ≠ []) (hh : t.head? = some 48 → t.length = 1) (hg : g = true → t.head? ≠ some 48) (hm : g = false → t.head? ≠ some 45) :
    Calls Tryz.prog 21 #[.string (bs (if g then 45 :: t else t)), .int .i64 10] w (ParseV w (if g then 45 :: t else t)) := by
  obtain ⟨V, hV⟩ : ∃ V, Pl.valB 10 (t.map Pl.dg) = V := ⟨_, rfl⟩
  have hgood : Hid ((∀ c ∈ t, c ∈ Pl.D10) → ∀ W' : World, Below w.heap.size w W' → ParseV w (if g then 45 :: t else t) (.returned (toldv (sg g V))) W') := Lib.hid (fun hd W' hb => ⟨.inl ⟨_, by rw [← hV]; exact Pl.intT_go h0 hd hh hg, rfl⟩, hb⟩)
  have hbad : Hid (∀ c ∈ t, c ∉ Pl.D10 → ∀ W' : World, Below w.heap.size w W' → ParseV w (if g then 45 :: t else t) (.returned (.tuple #[.agg #[.bool false, .string ⟨#[]⟩], .int .i64 93])) W') := Lib.hid (fun c hc hn W' hb => ⟨.inr ⟨Pl.intT_bad hc hn hm, rfl⟩, hb⟩)
  obtain ⟨tf, ts, te, htv⟩ : ∃ f s e, toldv (sg g V) = .tuple #[.agg #[.bool f, .string s], .int .i64 e] := by
    unfold toldv; split
    · exact ⟨_, _, _, rfl⟩
    · exact ⟨_, _, _, rfl⟩
  have hlong : Hid (4294967296 ^ 1024 ≤ V → toldv (sg g V) = .tuple #[.agg #[.bool false, .string ⟨#[]⟩], .int .i64 92]) := Lib.hid (fun hb => by
    unfold toldv
    rw [if_neg]
    · rfl
    · intro h
      unfold Pl.Big at h
      rw [show (sg g V).natAbs = V by unfold sg; split <;> omega] at h
      have e : (256 : Nat) ^ 4096 = 4294967296 ^ 1024 := by have := Pl.p32 1024; rwa [show 4 * 1024 = 4096 from rfl] at this
      rw [e] at h
      exact absurd h (Nat.not_lt.2 hb))
  have HTD : Hid (∀ W v l, RdB W v l → l.length ≤ 4096 → Pl.le l = V → Calls Tryz.prog 62 #[v, .bool g] W (fun e w' => e = .returned (toldv (sg g V)) ∧ Below W.heap.size W w')) := Lib.hid (fun W v l h1 h2 h3 => by
    have hV4 : Pl.le l < 256 ^ 4096 := Pl.lt_p (b := 4096) (Pl.le_lt l) h2
    have hbg : Pl.Big (sg g V) := by
      unfold Pl.Big
      rw [show (sg g V).natAbs = V by unfold sg; split <;> omega, ← h3]
      exact hV4
    have := rmade_any v l g W h1 (by omega) hV4
    rw [h3, lof_sg (n := sg g V) rfl] at this
    rw [toldv_bg hbg]
    exact this)
  rw [htv] at HTD hgood hlong
  have HLT : Hid (∀ k, Pl.valB 10 ((t.map Pl.dg).take k) ≤ V) := Lib.hid (fun k => by rw [← hV]; exact Pl.valB_take_le (by decide) _ k)
  obtain ⟨W1, hW1⟩ : ∃ W1, w.alloc (.cells #[.bool false, .string ⟨#[]⟩] 43) = W1 := ⟨_, rfl⟩
  have P1 : Hid (P2 W1 w.heap.size 43 (.bool false) (.string ⟨#[]⟩)) := Lib.hid (by rw [← hW1]; exact P2.new _ _ _ _)
  have HB1 : Hid (Below w.heap.size w W1) := Lib.hid (by rw [← hW1]; exact (Below.refl _ _).alloc (Nat.le_refl _) _)
  have hs1 : w.heap.size + 1 ≤ W1.heap.size := by rw [← hW1]; simp
  obtain ⟨p0, p1, p2, p3⟩ := P1.out.cells
  obtain ⟨c, hc⟩ : ∃ c, t.head? = some c := by
    cases t with
    | nil => exact absurd rfl h0
    | cons c t => exact ⟨c, rfl⟩
  have HAT := Lib.hid (at_bs t)
  have hTs : (bs t).size = t.length := rfl
  have hTe : (bs t).toList.isEmpty = false := by
    rw [ByteArray.toList_eq]
    cases t with
    | nil => exact absurd rfl h0
    | cons c t => rfl
  have hT0 : ∀ h : 0 < (bs t).size, (bs t)[0]'h = c := fun h => by
    cases t with
    | nil => exact absurd rfl h0
    | cons d t => simp at hc; subst hc; rfl
  have hn1 : 1 ≤ t.length := List.length_pos_iff.2 h0
  have hT48 : t = [48] → t.length = 1 := fun e => by subst e; rfl
  have hE := bs_tail 45 t
  have hsz : (bs (45 :: t)).size = t.length + 1 := rfl
  have hS0 : ∀ h : 0 < (bs (45 :: t)).size, (bs (45 :: t))[0]'h = 45 := fun _ => rfl
  obtain ⟨n, hn⟩ : ∃ n, t.length = n := ⟨_, rfl⟩
  have HN := Lib.hid hn
  rw [hn] at hTs hn1 hE hsz hl
  have hn0 : ((n : Int) == 0) = false := by rw [beq_eq_false_iff_ne]; omega
  have e48 : g = false → c = 48 → t = [48] := fun _ e => by
    subst e
    have := hh hc
    cases t with
    | nil => exact absurd rfl h0
    | cons d t =>
      simp at hc; subst hc
      simp at this; subst this; rfl
  have hcg : g = true → c ≠ 48 := fun e e2 => hg e (by rw [hc, e2])
  have hcm : g = false → c ≠ 45 := fun e e2 => hm e (by rw [hc, e2])
  have HV := Lib.hid hV
  clear hV htv hh hg hm hc h0
  have hq2 : 0 < (bs t).size := by rw [hTs]; exact hn1
  have hc2 := hT0 hq2
  clear hT0
  cases g
  case' true =>
    simp only [if_true] at hgood hbad ⊢
    have hc48 : ((c.toNat : Int) == 48) = false := by
      rw [beq_eq_false_iff_ne]; intro e
      exact hcg rfl (UInt8.toNat_inj.1 (by rw [show (48 : UInt8).toNat = 48 from rfl]; omega))
    generalize bs (45 :: t) = S at *
    generalize bs t = T at *
    have hq : 0 < S.size := by omega
    have hcS := hS0 hq
    have hpos : decide ((0 : Int) < (S.size : Int)) = true := decide_eq_true (by omega)
    clear e48 hcg hcm hT48 hS0 hn
    go_enter Tryz.func21, Tryz.ntmps21
    go_wp2_with fail
  case' false =>
    simp only [Bool.false_eq_true, if_false] at hgood hbad ⊢
    have hc45 : ((c.toNat : Int) == 45) = false := by
      rw [beq_eq_false_iff_ne]; intro e
      exact hcm rfl (UInt8.toNat_inj.1 (by rw [show (45 : UInt8).toNat = 45 from rfl]; omega))
    have hpos : decide ((0 : Int) < ((bs t).size : Int)) = true := decide_eq_true (by omega)
    by_cases hc48 : c = 48
    case' pos =>
      have hT := hT48 (e48 rfl hc48)
      rw [hn] at hT
      have hT1 : decide ((1 : Int) < (n : Int)) = false := decide_eq_false (by omega)
      clear hT
      have hc48' : ((c.toNat : Int) == 48) = true := by rw [hc48]; rfl
      clear e48 hcg hcm hT48 hS0 hn hE hsz
      generalize bs t = T at *
      go_enter Tryz.func21, Tryz.ntmps21
      go_wp2_with fail
    case' neg =>
      have hc48' : ((c.toNat : Int) == 48) = false := by
        rw [beq_eq_false_iff_ne]; intro e
        exact hc48 (UInt8.toNat_inj.1 (by rw [show (48 : UInt8).toNat = 48 from rfl]; omega))
      clear e48 hcg hcm hT48 hS0 hn hE hsz
      generalize bs t = T at *
      go_enter Tryz.func21, Tryz.ntmps21
      go_wp2_with fail
  all_goals
    go_loop [7] (fun i => ∃ k : Nat, k ≤ n ∧ i = .int .i64 k ∧ Hid (∀ c ∈ t.take k, c ∈ Pl.D10)) (fun i => n - (RowKit.intOf i).toNat)
    case atStart => exact ⟨0, Nat.zero_le _, rfl, Lib.hid (by simp)⟩
    case round =>
      obtain ⟨k, hk, rfl, hall⟩ := hrel
      by_cases hlt : k < n
      · have hkl : k < t.length := by rw [HN.out]; exact hlt
        have q : k < T.size := by omega
        have ak : T[k]'q = t[k] := HAT.out.get hkl q (by omega)
        have hdm : t[k] ∈ t := List.getElem_mem hkl
        have HT := Lib.hid (show t.take (k + 1) = t.take k ++ [t[k]] from List.take_succ_eq_append_getElem hkl)
        obtain ⟨d, hd⟩ : ∃ d, t[k] = d := ⟨_, rfl⟩
        rw [hd] at ak hdm HT
        have HCN := Lib.hid (rvalue_any d W1)
        have HDM := Lib.hid hdm
        clear hd hkl hdm
        by_cases hin : d ∈ Pl.D10
        · have HIN := Lib.hid hin
          obtain ⟨hv0, hv1⟩ := (Pl.vl_in d).1 hin
          have e0 : decide (Pl.vlr d < 0) = false := decide_eq_false (by omega)
          have e1 : decide (10 ≤ Pl.vlr d) = false := decide_eq_false (by omega)
          generalize Pl.vlr d = vd at *
          clear hin hv0 hv1
          go_wp2_with fail
          refine HCN.out.mono ?_
          rintro e w' ⟨rfl, rfl⟩
          go_wp2_with fail
          go_round
          case rel =>
            have HNX : Hid (∀ c ∈ t.take (k + 1), c ∈ Pl.D10) := Lib.hid (fun c hc => by
              rw [HT.out] at hc
              rcases List.mem_append.1 hc with hc | hc
              · exact hall.out c hc
              · rw [List.mem_singleton.1 hc]; exact HIN.out)
            exact ⟨k + 1, by omega, by go_num, HNX⟩
          case measure => simp [RowKit.intOf]; omega
        · have HF := Lib.hid (hbad.out d HDM.out hin)
          have hno := mt (Pl.vl_in d).2 hin
          have hcase : (decide (Pl.vlr d < 0) = true) ∨ (decide (Pl.vlr d < 0) = false ∧ decide (10 ≤ Pl.vlr d) = true) := by
            by_cases h0 : Pl.vlr d < 0
            · exact .inl (decide_eq_true h0)
            · exact .inr ⟨decide_eq_false h0, decide_eq_true (by omega)⟩
          have hf := P1.out.set (.bool false) (.string ⟨#[]⟩)
          obtain ⟨k0, k1, _, _⟩ := hf.cells
          have HBF := Lib.hid (below_set2 HB1.out (Nat.le_refl _) (.bool false) (.string ⟨#[]⟩))
          generalize Pl.vlr d = vd at *
          clear hin hf hno
          rcases hcase with e0 | ⟨e0, e1⟩
          all_goals
            go_wp2_with fail
            refine HCN.out.mono ?_
            rintro e w' ⟨rfl, rfl⟩
            go_wp2_with fail
            refine bodyPost_ret (v := .tuple #[.agg #[.bool false, .string ⟨#[]⟩], .int .i64 93]) (by simp [results, Tryz.results21, go_sem, k0, k1]) rfl (HF.out _ HBF.out)
      · obtain rfl : k = n := by omega
        have HD : Hid (∀ c ∈ t, c ∈ Pl.D10) := Lib.hid (by
          have := hall.out
          rwa [List.take_of_length_le (by rw [HN.out]; exact Nat.le_refl _)] at this)
        clear hall hlt hk
        go_wp2_with fail
        go_loopw [9, 10, 11, 12, 13] (fun x i _ _ _ wr => ∃ (j : Nat) (xs : List UInt8), j ≤ k ∧ i = .int .i64 j ∧ Own1 wr W1.heap.size x xs ∧ Hid (Pl.Canon xs) ∧ Hid (Pl.le xs = Pl.valB 10 ((t.map Pl.dg).take j)) ∧ xs.length ≤ 4096 ∧ Below W1.heap.size W1 wr) (fun _ i _ _ _ _ => k - (RowKit.intOf i).toNat)
        case atStart => exact ⟨0, [], Nat.zero_le _, rfl, Owns.nil _ _ _ _, Lib.hid (by simp [Pl.Canon]), Lib.hid (by simp [Pl.le, Pl.valB]), by simp, Below.refl _ _⟩
        case round =>
          obtain ⟨j, xs, hj, rfl, hown, hcan, hnum, hxl, hb⟩ := hrel
          have HOW := Lib.hid hown
          have HB := Lib.hid hb
          obtain ⟨xa, xc, rfl⟩ := hown.form
          have P0r := Lib.hid (P1.out.under hb (by omega))
          have hbs := hb.size
          obtain ⟨N, hN⟩ : ∃ N, xs.length = N := ⟨_, rfl⟩
          have HXN := Lib.hid hN
          rw [hN] at hxl ⊢
          clear hown hb hN
          by_cases hlt : j < k
          · have hkl : j < t.length := by rw [HN.out]; exact hlt
            have q : j < T.size := by omega
            have ak : T[j]'q = t[j] := HAT.out.get hkl q (by omega)
            have hin : t[j] ∈ Pl.D10 := HD.out _ (List.getElem_mem hkl)
            have hsucc := take_dg_succ hkl
            obtain ⟨d, hd⟩ : ∃ d, t[j] = d := ⟨_, rfl⟩
            rw [hd] at ak hin hsucc
            have hq10 := (Pl.d10_iff d).1 hin
            have HCN := Lib.hid (rvalue_any d wr)
            rw [Pl.vl_dg hin] at HCN
            obtain ⟨q10, hq⟩ : ∃ q10, Pl.dg d = q10 := ⟨_, rfl⟩
            rw [hq] at hsucc hq10 HCN
            have HSU := Lib.hid (show Pl.le xs * 10 + q10 = Pl.valB 10 ((t.map Pl.dg).take (j + 1)) by rw [hsucc, hnum.out])
            obtain ⟨wp, hwp⟩ : ∃ x, x = wr := ⟨wr, rfl⟩
            subst hwp
            clear hd hkl hin hsucc hq
            go_wp2_with fail
            refine HCN.out.mono ?_
            rintro e w' ⟨rfl, rfl⟩
            go_wp2_with fail
            go_loopw [11, 12, 13] (fun c i _ wr => ∃ (m cc : Nat) (zs : List UInt8), m ≤ N ∧ cc < 10 ∧ c = .int .i64 cc ∧ i = .int .i64 m ∧ Own1 wr W1.heap.size (.slice xa N xc) zs ∧ zs.length = N ∧ Hid (zs.drop m = xs.drop m) ∧ Hid (Pl.le (zs.take m) + 256 ^ m * cc = Pl.le (xs.take m) * 10 + q10) ∧ Below W1.heap.size W1 wr ∧ wp.heap.size ≤ wr.heap.size) (fun _ i _ _ => N - (RowKit.intOf i).toNat)
            case atStart => exact ⟨0, q10, xs, Nat.zero_le _, hq10, rfl, rfl, by have := HOW.out; rwa [HXN.out] at this, HXN.out, Lib.hid rfl, Lib.hid (by simp [Pl.le]), HB.out, Nat.le_refl _⟩
            case round =>
              obtain ⟨m, cc, zs, hm, hcc, rfl, rfl, hown, hzl, hdr, hrd, hbw, hsz⟩ := hrel
              have HOWN := Lib.hid hown
              have HZL := Lib.hid hzl
              have HBW := Lib.hid hbw
              by_cases hmn : m < N
              · have hkz : m < zs.length := by rw [hzl]; exact hmn
                have hkx : m < xs.length := by rw [HXN.out]; exact hmn
                have hgt : zs[m]'hkz = xs[m]'hkx := by
                  have h1 := congrArg (fun l => l[0]?) hdr.out
                  simp only [List.getElem?_drop, Nat.add_zero] at h1
                  rw [List.getElem?_eq_getElem hkz, List.getElem?_eq_getElem hkx] at h1
                  exact Option.some.inj h1
                have hown' : Owns wr W1.heap.size 5 1 (.slice xa N xc) N (bc zs) := by have := hown; unfold Own1 at this; rwa [hzl] at this
                obtain ⟨g, cap, hv, hbg, hgs, hcap⟩ := Owns.some_of hown' (by omega)
                injection hv with hva hvn hvc
                subst hva hvc
                have hcell := hown'.cellAt (bc_get (List.getElem?_eq_getElem hkz))
                have hfree := hown'.free (j := m) (by omega)
                rw [hgt] at hcell
                have HRND := Lib.hid (Pl.byte_round (b := 10) (c := cc) hkz hkx hrd.out)
                obtain ⟨x, hx⟩ : ∃ x, (xs[m]'hkx).toNat = x := ⟨_, rfl⟩
                have hxl2 : x < 256 := by rw [← hx]; exact UInt8.toNat_lt _
                rw [hx] at hcell HRND
                obtain ⟨s, hs⟩ : ∃ s, x * 10 + cc = s := ⟨_, rfl⟩
                have hsI : (x : Int) * 10 + (cc : Int) = (s : Int) := by omega
                rw [hs] at HRND
                have hsl : s < 2560 := by omega
                obtain ⟨r, hr⟩ : ∃ r, s % 256 = r := ⟨_, rfl⟩
                obtain ⟨c', hc'⟩ : ∃ c', s / 256 = c' := ⟨_, rfl⟩
                rw [hr, hc'] at HRND
                have hrl : r < 256 := by omega
                have hcl : c' < 10 := by omega
                have hrI : (s : Int) % 256 = (r : Int) := by omega
                have hcI : (s : Int) / 256 = (c' : Int) := by omega
                have hrT : (s : Int).tmod 256 = (r : Int) := by rw [Int.tmod_eq_emod_of_nonneg (by omega)]; omega
                have hqT : (s : Int).tdiv 256 = (c' : Int) := by rw [Int.tdiv_eq_ediv_of_nonneg (by omega)]; omega
                have hrr : (r : Int) % 256 = (r : Int) := by omega
                have HNEW : Hid (Own1 (wr.setCell ⟨g, m, none⟩ (.int .u8 (r : Nat))) W1.heap.size (.slice (some ⟨g, 0, none⟩) N xc) (zs.set m (UInt8.ofNat r))) := Lib.hid (by
                  unfold Own1
                  rw [List.length_set, hzl, bc_set, show (UInt8.ofNat r).toNat = r by simp [UInt8.toNat_ofNat']; omega]
                  exact hown'.stored _)
                have HB3 := Lib.hid (hbw.setCell (p := ⟨g, m, none⟩) hbg (.int .u8 (r : Nat)))
                have HDR : Hid ((zs.set m (UInt8.ofNat r)).drop (m + 1) = xs.drop (m + 1)) := Lib.hid (by
                  rw [List.drop_set_of_lt (by omega)]
                  have h1 := congrArg (List.drop 1) hdr.out
                  rwa [List.drop_drop, List.drop_drop] at h1)
                clear hown hown' hzl hbw hr hc' hx hgt hkz hkx hs ak
                go_wp2_with fail
                go_roundw
                case rel => exact ⟨m + 1, c', zs.set m (UInt8.ofNat r), by omega, hcl, rfl, by go_num, HNEW.out, by rw [List.length_set]; exact HZL.out, HDR, HRND, HB3.out, by simp [World.setCell]; exact hsz⟩
                case measure => simp [RowKit.intOf]; omega
              · obtain rfl : m = N := by omega
                have h1 := hrd.out
                rw [List.take_of_length_le (by rw [hzl]; exact Nat.le_refl _), List.take_of_length_le (by rw [HXN.out]; exact Nat.le_refl _), HSU.out] at h1
                by_cases hc : cc = 0
                · subst hc
                  rw [Nat.mul_zero, Nat.add_zero] at h1
                  have HCZ : Hid (Pl.Canon zs) := Lib.hid (Pl.canon_round hcan.out (by rw [hzl, HXN.out]) (by rw [h1, ← HSU.out]; omega))
                  have HV := Lib.hid h1
                  have hdz : decide ((4096 : Int) < (m : Int)) = false := decide_eq_false (by omega)
                  clear h1 hown hbw hzl ak
                  go_wp2_with fail
                  go_roundw
                  case rel => exact ⟨j + 1, zs, by omega, by go_num, HOWN.out, HCZ, HV, by rw [HZL.out]; exact hxl, HBW.out⟩
                  case measure => simp [RowKit.intOf]; omega
                · have hc0 : decide ((0 : Int) < (cc : Int)) = true := decide_eq_true (by omega)
                  have hccI : (cc : Int) % 256 = (cc : Int) := by omega
                  have hbz : W1.heap.size ≤ wr.heap.size := by omega
                  have HV : Hid (Pl.le (zs ++ [UInt8.ofNat cc]) = Pl.valB 10 ((t.map Pl.dg).take (j + 1))) := Lib.hid (by rw [Pl.le_snoc_u8 _ _ (by omega), hzl]; exact h1)
                  have HCZ : Hid (Pl.Canon (zs ++ [UInt8.ofNat cc])) := Lib.hid (canon_snoc (by
                    intro e
                    have e2 := congrArg UInt8.toNat e
                    simp [UInt8.toNat_ofNat'] at e2
                    omega))
                  have HOW2 : Hid (Owns wr W1.heap.size 5 1 (.slice xa m xc) m (bc zs)) := Lib.hid (by have := hown; unfold Own1 at this; rwa [hzl] at this)
                  have HLTO := Lib.hid hown.lt
                  clear h1 hown hbw hzl ak
                  go_wp2_with (at_builtin; refine wpList_app rfl (.tmp 102) (.tmp 105) rfl W1.heap.size _ _ _ rfl HOW2.out [.int .u8 (cc : Nat)] rfl (by intro u hu; simp at hu; subst hu; rfl) (by simp only [List.length_cons, List.length_nil]; omega) hbz ?_)
                  intro v2 w2 ho2 hg2
                  have HO2 := Lib.hid ho2
                  have HB2 := Lib.hid (hg2.below HBW.out hbz (fun j hj => (HLTO.out j hj).1))
                  obtain ⟨a2, c2, rfl⟩ := ho2.form
                  clear ho2 hg2
                  have HNEW : Hid (Own1 w2 W1.heap.size (.slice a2 (m + [Value.int IntKind.u8 (cc : Nat)].length) c2) (zs ++ [UInt8.ofNat cc])) := Lib.hid (by
                    have h2 := HO2.out
                    unfold Own1
                    rw [bc_app, bc_one (show cc < 256 by omega), List.length_append, HZL.out]
                    exact h2)
                  by_cases hz : m < 4096
                  · have hdz : decide ((4096 : Int) < (m : Int) + 1) = false := decide_eq_false (by omega)
                    go_wp2_with fail
                    go_roundw
                    case rel => exact ⟨j + 1, zs ++ [UInt8.ofNat cc], by omega, by go_num, HNEW.out, HCZ, HV, by rw [List.length_append, HZL.out, List.length_singleton]; omega, HB2.out⟩
                    case measure => simp [RowKit.intOf]; omega
                  · have hdz : decide ((4096 : Int) < (m : Int) + 1) = true := decide_eq_true (by omega)
                    have HBIG : Hid (4294967296 ^ 1024 ≤ V) := Lib.hid (by
                      have e : (256 : Nat) ^ 4096 = 4294967296 ^ 1024 := by have := Pl.p32 1024; rwa [show 4 * 1024 = 4096 from rfl] at this
                      rw [← e]
                      have h2 := Pl.canon_ge HCZ.out (by simp)
                      rw [List.length_append, HZL.out, List.length_singleton, Nat.add_sub_cancel, HV.out] at h2
                      exact Pl.le_p (a := 4096) (Nat.le_trans h2 (HLT.out (j + 1))) (show 4096 ≤ m by omega))
                    have P05 := Lib.hid (P1.out.under HB2.out (by omega))
                    have hf := P05.out.set (.bool false) (.string ⟨#[]⟩)
                    obtain ⟨k0, k1, _, _⟩ := hf.cells
                    have HBF := Lib.hid (below_set2 (HB1.out.trans (HB2.out.mono (by omega))) (Nat.le_refl _) (.bool false) (.string ⟨#[]⟩))
                    obtain ⟨_, _, f0, f1⟩ := P05.out.cells
                    have HFIN := Lib.hid (fun W' hb' => hlong.out HBIG.out ▸ hgood.out HD.out W' hb')
                    clear hf hz HBIG hlong p0 p1 p2 p3
                    go_wp2_with fail
                    refine bodyPost_ret (v := .tuple #[.agg #[.bool false, .string ⟨#[]⟩], .int .i64 92]) (by simp [results, Tryz.results21, go_sem, k0, k1]) rfl (HFIN.out _ HBF.out)
          · obtain rfl : j = k := by omega
            have hlev : Pl.le xs = V := by
              rw [hnum.out, List.take_of_length_le (by rw [List.length_map, HN.out]; exact Nat.le_refl _)]
              exact HV.out
            have hrd : RdB wr (.slice xa N xc) xs := by have := RdB.of_owns HOW.out; rwa [HXN.out] at this
            have HTO := Lib.hid (HTD.out wr _ xs hrd (by rw [HXN.out]; exact hxl) hlev)
            have HFIN := Lib.hid (hgood.out HD.out)
            clear hrd hlev hlt
            go_wp2_with fail
            refine HTO.out.mono ?_
            rintro e w6 ⟨rfl, hb6⟩
            have P06 := Lib.hid (P0r.out.below hb6)
            obtain ⟨_, _, f0, f1⟩ := P06.out.cells
            have hf := P06.out.set (.bool tf) (.string ts)
            obtain ⟨k0, k1, _, _⟩ := hf.cells
            have HBF := Lib.hid (below_set2 (chain (HB1.out.trans (HB.out.mono (by omega))) hb6 (by omega)) (Nat.le_refl _) (.bool tf) (.string ts))
            clear hf hb6 p0 p1 p2 p3
            go_wp2_with fail
            refine bodyPost_ret (v := .tuple #[.agg #[.bool tf, .string ts], .int .i64 te]) (by simp [results, Tryz.results21, go_sem, k0, k1]) rfl (HFIN.out _ HBF.out)
theorem rparse_any (l : List UInt8) (w : World) (hl : l.length ≤ 300000) : Calls Tryz.prog 21 #[.string (bs l), .int .i64 10] w (ParseV w l) := by
  cases l with
  | nil => exact rparse_err [] w hl (.inl rfl)
  | cons c r =>
    by_cases hc : c = 45
    · subst hc
      cases r with
      | nil => exact rparse_err [45] w hl (.inr (.inl rfl))
      | cons d r =>
        by_cases hd : d = 48
        · subst hd
          exact rparse_err _ w hl (.inr (.inr (.inl ⟨r, rfl⟩)))
        · have h := rparse_go true (d :: r) w (by simp at hl ⊢; omega) (by simp) (by simp [hd]) (by simp [hd]) (by simp)
          exact h
    · by_cases hc8 : c = 48
      · subst hc8
        cases r with
        | nil => exact rparse_go false [48] w (by simp) (by simp) (by simp) (by simp) (by simp)
        | cons d r => exact rparse_err _ w hl (.inr (.inr (.inr ⟨d, r, rfl⟩)))
      · exact rparse_go false (c :: r) w hl (by simp) (by simp [hc8]) (by simp) (by simp [hc])
end Go.Proofs.YtlodbibagmblkaaGreatDoor
