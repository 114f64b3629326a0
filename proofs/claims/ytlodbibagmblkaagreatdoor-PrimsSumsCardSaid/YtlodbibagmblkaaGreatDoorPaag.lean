/- A text as a large number: the contract of Parse to base ten. The contract of bits.Len32 at this program's numbers (the kit's shelf, laid). How many bits a row of words has: the contract of long. Words shifted to the right: the contract of right. A large number without a sign shifted to the right: the contract of Shift below nought. How many bits a large number has, and a small one as an integer: the contracts of Bits and Small. -/
import Derived.Test.YtlodbibagmblkaaGreatDoorPaaf
import Derived.Test.YtlodbibagmblkaaGreatDoorPaab
import Derived.Test.YtlodbibagmblkaaGreatDoorPaae
import Derived.Deep.RegionHeld3
namespace Go.Proofs.YtlodbibagmblkaaGreatDoor
open Go.RowKit Go.Lib
theorem conv10 : ∃ (F : World → World) (vF : World → Value), (∀ W, (convert 9 85 (.string (({ data := #[48, 49, 50, 51, 52, 53, 54, 55, 56, 57, 65, 66, 67, 68, 69, 70, 71, 72, 73, 74, 75, 76, 77, 78, 79, 80, 81, 82, 83, 84, 85, 86, 87, 88, 89, 90] } : ByteArray).extract 0 10))).run Tryz.prog W = .ok (vF W) (F W)) ∧ ∀ W, Rd1 (F W) (vF W) Pl.D10 ∧ Below W.heap.size W (F W) ∧ W.heap.size + 1 ≤ (F W).heap.size := by
  have e : ({ data := #[48, 49, 50, 51, 52, 53, 54, 55, 56, 57, 65, 66, 67, 68, 69, 70, 71, 72, 73, 74, 75, 76, 77, 78, 79, 80, 81, 82, 83, 84, 85, 86, 87, 88, 89, 90] } : ByteArray).extract 0 10 = bs Pl.D10 := by
    apply ByteArray.ext
    rw [ByteArray.data_extract]
    rfl
  rw [e]
  have key : ∀ W : World, Rd1 (bytesWorld W 5 (bs Pl.D10)) (.slice (some ⟨W.heap.size, 0, none⟩) (bs Pl.D10).size (grownCap W (bs Pl.D10).size 0 5)) Pl.D10 ∧ W.heap.size + 1 ≤ (bytesWorld W 5 (bs Pl.D10)).heap.size := by
    intro W
    have h := Owns.ofString W W.heap.size 5 (bs Pl.D10) (by decide) (Nat.le_refl _)
    have hs := h.some_of (by decide)
    obtain ⟨g, cap, hv, _, hg, _⟩ := hs
    injection hv with hv1 hv2 hv3
    injection hv1 with hv1
    injection hv1 with hv1
    rw [← hv1] at hg
    exact ⟨⟨W.heap.size, _, rfl, hg, fun j x hj => h.cellAt (bc_get hj)⟩, hg⟩
  exact ⟨fun W => bytesWorld W 5 (bs Pl.D10), fun W => .slice (some ⟨W.heap.size, 0, none⟩) (bs Pl.D10).size (grownCap W (bs Pl.D10).size 0 5), fun W => Lib.run_convert_string_bytes (P := Tryz.prog) W 9 85 5 (bs Pl.D10) Tryz.underlying9 Tryz.underlying85 Tryz.underlying5, fun W => ⟨(key W).1, bytesWorld_below W 5 (bs Pl.D10), (key W).2⟩⟩
theorem bs_tail (c : UInt8) (t : List UInt8) : (bs (c :: t)).extract 1 (t.length + 1) = bs t := by
  apply ByteArray.ext
  rw [ByteArray.data_extract]
  apply Array.toList_inj.1
  simp
/-- What Parse answers. -/
def ParseV (w : World) (l : List UInt8) (e : Ending) (w' : World) : Prop := ((∃ n, Pl.IntT 10 l n ∧ e = .returned (toldv n)) ∨ ((∀ n, ¬ Pl.IntT 10 l n) ∧ e = .returned (.tuple #[lv false [], .int .i64 93]))) ∧ Below w.heap.size w w'
set_option maxRecDepth 4000 in
set_option maxHeartbeats 4000000 in
theorem parse_err (l : List UInt8) (w : World) (hl : l.length ≤ 300000) (h : l = [] ∨ l = [45] ∨ (∃ r, l = 45 :: 48 :: r) ∨ ∃ d r, l = 48 :: d :: r) :
    Calls Tryz.prog 59 #[.string (bs l), .int .i64 10] w (ParseV w l) := by
  have hno : Hid (∀ n, ¬ Pl.IntT 10 l n) := Lib.hid (by
    rcases h with rfl | rfl | ⟨r, rfl⟩ | ⟨d, r, rfl⟩
    · exact Pl.intT_nil
    · exact Pl.intT_minus
    · exact Pl.intT_minus0 r
    · exact Pl.intT_nought d r)
  have hfin : Hid (∀ W' : World, Below w.heap.size w W' → ParseV w l (.returned (.tuple #[.agg #[.bool false, .string ⟨#[]⟩], .int .i64 93])) W') := Lib.hid (fun W' hb => ⟨.inr ⟨hno.out, rfl⟩, hb⟩)
  obtain ⟨W1, hW1⟩ : ∃ W1, w.alloc (.cells #[.bool false, .string ⟨#[]⟩] 43) = W1 := ⟨_, rfl⟩
  have P0 : Hid (P2 W1 w.heap.size 43 (.bool false) (.string ⟨#[]⟩)) := Lib.hid (by rw [← hW1]; exact P2.new _ _ _ _)
  have HB1 : Hid (Below w.heap.size w W1) := Lib.hid (by rw [← hW1]; exact (Below.refl _ _).alloc (Nat.le_refl _) _)
  obtain ⟨p0, p1, p2, p3⟩ := P0.out.cells
  have hf := P0.out.set (.bool false) (.string ⟨#[]⟩)
  obtain ⟨k0, k1, _, _⟩ := hf.cells
  have HBF := Lib.hid (below_set2 HB1.out (Nat.le_refl _) (.bool false) (.string ⟨#[]⟩))
  clear hf
  rcases h with rfl | rfl | ⟨r, rfl⟩ | ⟨d, r, rfl⟩
  · go_enter Tryz.func59, Tryz.ntmps59
    go_wp2_with fail
    all_goals exact bodyPost_ret (v := .tuple #[.agg #[.bool false, .string ⟨#[]⟩], .int .i64 93]) (by simp [results, Tryz.results59, go_sem, k0, k1]) rfl (hfin.out _ HBF.out)
  · have e1 : (bs [45]).extract 1 1 = ⟨#[]⟩ := by apply ByteArray.ext; rw [ByteArray.data_extract]; rfl
    go_enter Tryz.func59, Tryz.ntmps59
    go_wp2_with fail
    all_goals exact bodyPost_ret (v := .tuple #[.agg #[.bool false, .string ⟨#[]⟩], .int .i64 93]) (by simp [results, Tryz.results59, go_sem, k0, k1]) rfl (hfin.out _ HBF.out)
  · have hE := bs_tail 45 (48 :: r)
    have hsz : (bs (45 :: 48 :: r)).size = (48 :: r).length + 1 := rfl
    have h0 : ∀ h : 0 < (bs (45 :: 48 :: r)).size, (bs (45 :: 48 :: r))[0]'h = 45 := fun _ => rfl
    have hTs : (bs (48 :: r)).size = (48 :: r).length := rfl
    have hT0 : ∀ h : 0 < (bs (48 :: r)).size, (bs (48 :: r))[0]'h = 48 := fun _ => rfl
    have hTe : (bs (48 :: r)).toList.isEmpty = false := by rw [ByteArray.toList_eq]; rfl
    obtain ⟨N, hN⟩ : ∃ N, (48 :: r).length = N := ⟨_, rfl⟩
    have hN1 : 1 ≤ N := by rw [← hN]; simp
    rw [hN] at hE hsz hTs
    generalize bs (45 :: 48 :: r) = S at *
    generalize bs (48 :: r) = T at *
    have hq : 0 < S.size := by omega
    have hc := h0 hq
    have hq2 : 0 < T.size := by omega
    have hc2 := hT0 hq2
    have hpos : decide ((0 : Int) < (S.size : Int)) = true := decide_eq_true (by omega)
    go_enter Tryz.func59, Tryz.ntmps59
    go_wp2_with fail
    all_goals exact bodyPost_ret (v := .tuple #[.agg #[.bool false, .string ⟨#[]⟩], .int .i64 93]) (by simp [results, Tryz.results59, go_sem, k0, k1]) rfl (hfin.out _ HBF.out)
  · have hsz : (bs (48 :: d :: r)).size = r.length + 2 := rfl
    have h0 : ∀ h : 0 < (bs (48 :: d :: r)).size, (bs (48 :: d :: r))[0]'h = 48 := fun _ => rfl
    have hSe : (bs (48 :: d :: r)).toList.isEmpty = false := by rw [ByteArray.toList_eq]; rfl
    have hS48 : ((bs (48 :: d :: r)).toList == [48]) = false := by rw [ByteArray.toList_eq]; show ((48 :: d :: r : List UInt8) == [48]) = false; rw [beq_eq_false_iff_ne]; intro e; cases e
    generalize bs (48 :: d :: r) = S at *
    have hq : 0 < S.size := by omega
    have hc := h0 hq
    have hpos : decide ((0 : Int) < (S.size : Int)) = true := decide_eq_true (by omega)
    go_enter Tryz.func59, Tryz.ntmps59
    go_wp2_with fail
    all_goals exact bodyPost_ret (v := .tuple #[.agg #[.bool false, .string ⟨#[]⟩], .int .i64 93]) (by simp [results, Tryz.results59, go_sem, k0, k1]) rfl (hfin.out _ HBF.out)
theorem take_dg_succ {t : List UInt8} {k : Nat} (h : k < t.length) : Pl.valB 10 ((t.map Pl.dg).take (k + 1)) = Pl.valB 10 ((t.map Pl.dg).take k) * 10 + Pl.dg t[k] := by
  rw [Pl.valB_take_succ 10 _ (by rw [List.length_map]; exact h), List.getElem_map]
set_option maxRecDepth 4000 in
set_option maxHeartbeats 4000000 in
theorem parse_go (g : Bool) (t : List UInt8) (w : World) (hl : t.length ≤ 300000) (h0 : t ≠ []) (hh : t.head? = some 48 → t.length = 1) (hg : g = true → t.head? ≠ some 48) (hm : g = false → t.head? ≠ some 45) :
    Calls Tryz.prog 59 #[.string (bs (if g then 45 :: t else t)), .int .i64 10] w (ParseV w (if g then 45 :: t else t)) := by
  obtain ⟨V, hV⟩ : ∃ V, Pl.valB 10 (t.map Pl.dg) = V := ⟨_, rfl⟩
  have hgood : Hid ((∀ c ∈ t, c ∈ Pl.D10) → ∀ W' : World, Below w.heap.size w W' → ParseV w (if g then 45 :: t else t) (.returned (toldv (sg g V))) W') := Lib.hid (fun hd W' hb => ⟨.inl ⟨_, by rw [← hV]; exact Pl.intT_go h0 hd hh hg, rfl⟩, hb⟩)
  have hbad : Hid (∀ c ∈ t, c ∉ Pl.D10 → ∀ W' : World, Below w.heap.size w W' → ParseV w (if g then 45 :: t else t) (.returned (.tuple #[.agg #[.bool false, .string ⟨#[]⟩], .int .i64 93])) W') := Lib.hid (fun c hc hn W' hb => ⟨.inr ⟨Pl.intT_bad hc hn hm, rfl⟩, hb⟩)
  obtain ⟨tf, ts, te, htv⟩ : ∃ f s e, toldv (sg g V) = .tuple #[.agg #[.bool f, .string s], .int .i64 e] := by
    unfold toldv; split
    · exact ⟨_, _, _, rfl⟩
    · exact ⟨_, _, _, rfl⟩
  have hlong : Hid (4294967296 ^ 1024 ≤ V → toldv (sg g V) = .tuple #[.agg #[.bool false, .string ⟨#[]⟩], .int .i64 92]) := Lib.hid (fun hb => by
    unfold toldv
    rw [if_neg]
    · rfl
    · intro h
      unfold Pl.Big at h
      rw [show (sg g V).natAbs = V by unfold sg; split <;> omega] at h
      have e : (256 : Nat) ^ 4096 = 4294967296 ^ 1024 := by have := Pl.p32 1024; rwa [show 4 * 1024 = 4096 from rfl] at this
      rw [e] at h
      exact absurd h (Nat.not_lt.2 hb))
  have HTD : Hid (∀ W v, Rd W v (Pl.wd V) → (Pl.wd V).length ≤ 10000 → Calls Tryz.prog 66 #[.agg #[v, .bool g]] W (fun e w' => e = .returned (toldv (sg g V)) ∧ Below W.heap.size W w')) := Lib.hid (fun W v h1 h2 => ltold2_any v g V _ W rfl h1 h2)
  rw [htv] at HTD hgood hlong
  have HLT : Hid (∀ k, Pl.valB 10 ((t.map Pl.dg).take k) ≤ V) := Lib.hid (fun k => by rw [← hV]; exact Pl.valB_take_le (by decide) _ k)
  obtain ⟨F, vF, hconv, hF⟩ := conv10
  obtain ⟨W1, hW1⟩ : ∃ W1, w.alloc (.cells #[.bool false, .string ⟨#[]⟩] 43) = W1 := ⟨_, rfl⟩
  have P1 : Hid (P2 W1 w.heap.size 43 (.bool false) (.string ⟨#[]⟩)) := Lib.hid (by rw [← hW1]; exact P2.new _ _ _ _)
  have HB1 : Hid (Below w.heap.size w W1) := Lib.hid (by rw [← hW1]; exact (Below.refl _ _).alloc (Nat.le_refl _) _)
  have hcv := hconv W1
  obtain ⟨hR, hB2, hs2⟩ := hF W1
  generalize F W1 = W2 at *
  generalize vF W1 = vb at *
  have hs1 : w.heap.size + 1 ≤ W1.heap.size := by rw [← hW1]; simp
  have P02 := Lib.hid (P1.out.below hB2)
  have HB2 := Lib.hid (chain HB1.out hB2 (by omega))
  have HR2 := Lib.hid hR
  obtain ⟨gb, cb, rfl, hgb, hcb⟩ := hR
  obtain ⟨p0, p1, p2, p3⟩ := P02.out.cells
  clear hconv hF hB2 hgb hcb P1 HB1 F vF
  obtain ⟨c, hc⟩ : ∃ c, t.head? = some c := by
    cases t with
    | nil => exact absurd rfl h0
    | cons c t => exact ⟨c, rfl⟩
  have HAT := Lib.hid (at_bs t)
  have hTs : (bs t).size = t.length := rfl
  have hTe : (bs t).toList.isEmpty = false := by
    rw [ByteArray.toList_eq]
    cases t with
    | nil => exact absurd rfl h0
    | cons c t => rfl
  have hT0 : ∀ h : 0 < (bs t).size, (bs t)[0]'h = c := fun h => by
    cases t with
    | nil => exact absurd rfl h0
    | cons d t => simp at hc; subst hc; rfl
  have hn1 : 1 ≤ t.length := List.length_pos_iff.2 h0
  have hT48 : t = [48] → ((bs t).toList == [48]) = true := fun e => by subst e; rw [ByteArray.toList_eq]; rfl
  have hE := bs_tail 45 t
  have hsz : (bs (45 :: t)).size = t.length + 1 := rfl
  have hS0 : ∀ h : 0 < (bs (45 :: t)).size, (bs (45 :: t))[0]'h = 45 := fun _ => rfl
  obtain ⟨n, hn⟩ : ∃ n, t.length = n := ⟨_, rfl⟩
  have HN := Lib.hid hn
  rw [hn] at hTs hn1 hE hsz hl
  have e48 : g = false → c = 48 → t = [48] := fun _ e => by
    subst e
    have := hh hc
    cases t with
    | nil => exact absurd rfl h0
    | cons d t =>
      simp at hc; subst hc
      simp at this; subst this; rfl
  have hcg : g = true → c ≠ 48 := fun e e2 => hg e (by rw [hc, e2])
  have hcm : g = false → c ≠ 45 := fun e e2 => hm e (by rw [hc, e2])
  have HV := Lib.hid hV
  clear hV htv hh hg hm hc h0
  have hq2 : 0 < (bs t).size := by rw [hTs]; exact hn1
  have hc2 := hT0 hq2
  clear hT0
  cases g
  case' true =>
    simp only [if_true] at hgood hbad ⊢
    have hc48 : ((c.toNat : Int) == 48) = false := by
      rw [beq_eq_false_iff_ne]; intro e
      exact hcg rfl (UInt8.toNat_inj.1 (by rw [show (48 : UInt8).toNat = 48 from rfl]; omega))
    generalize bs (45 :: t) = S at *
    generalize bs t = T at *
    have hq : 0 < S.size := by omega
    have hcS := hS0 hq
    have hpos : decide ((0 : Int) < (S.size : Int)) = true := decide_eq_true (by omega)
    clear e48 hcg hcm hT48 hS0 hn
    go_enter Tryz.func59, Tryz.ntmps59
    go_wp2_with fail
  case' false =>
    simp only [Bool.false_eq_true, if_false] at hgood hbad ⊢
    have hc45 : ((c.toNat : Int) == 45) = false := by
      rw [beq_eq_false_iff_ne]; intro e
      exact hcm rfl (UInt8.toNat_inj.1 (by rw [show (45 : UInt8).toNat = 45 from rfl]; omega))
    have hpos : decide ((0 : Int) < ((bs t).size : Int)) = true := decide_eq_true (by omega)
    by_cases hc48 : c = 48
    case' pos =>
      have hT := hT48 (e48 rfl hc48)
      have hc48' : ((c.toNat : Int) == 48) = true := by rw [hc48]; rfl
      clear e48 hcg hcm hT48 hS0 hn hE hsz
      generalize bs t = T at *
      go_enter Tryz.func59, Tryz.ntmps59
      go_wp2_with fail
    case' neg =>
      have hc48' : ((c.toNat : Int) == 48) = false := by
        rw [beq_eq_false_iff_ne]; intro e
        exact hc48 (UInt8.toNat_inj.1 (by rw [show (48 : UInt8).toNat = 48 from rfl]; omega))
      clear e48 hcg hcm hT48 hS0 hn hE hsz
      generalize bs t = T at *
      go_enter Tryz.func59, Tryz.ntmps59
      go_wp2_with fail
  all_goals
    go_loop [49] (fun i => ∃ k : Nat, k ≤ n ∧ i = .int .i64 k ∧ Hid (∀ c ∈ t.take k, c ∈ Pl.D10)) (fun i => n - (RowKit.intOf i).toNat)
    case atStart => exact ⟨0, Nat.zero_le _, rfl, Lib.hid (by simp)⟩
    case round =>
      obtain ⟨k, hk, rfl, hall⟩ := hrel
      by_cases hlt : k < n
      · have hkl : k < t.length := by rw [HN.out]; exact hlt
        have q : k < T.size := by omega
        have ak : T[k]'q = t[k] := HAT.out.get hkl q (by omega)
        have hdm : t[k] ∈ t := List.getElem_mem hkl
        have HT := Lib.hid (show t.take (k + 1) = t.take k ++ [t[k]] from List.take_succ_eq_append_getElem hkl)
        obtain ⟨d, hd⟩ : ∃ d, t[k] = d := ⟨_, rfl⟩
        rw [hd] at ak hdm HT
        have HCN := Lib.hid (contains_any _ Pl.D10 d W2 HR2.out (by decide))
        have HDM := Lib.hid hdm
        clear hd hkl hdm
        by_cases hin : d ∈ Pl.D10
        · have HIN := Lib.hid hin
          rw [decide_eq_true hin] at HCN
          clear hin
          go_wp2_with fail
          refine HCN.out.mono ?_
          rintro e w' ⟨rfl, rfl⟩
          go_wp2_with fail
          go_round
          case rel =>
            refine ⟨k + 1, by omega, by go_num, Lib.hid (fun c hc => ?_)⟩
            rw [HT.out] at hc
            rcases List.mem_append.1 hc with hc | hc
            · exact hall.out c hc
            · rw [List.mem_singleton.1 hc]; exact HIN.out
          case measure => simp [RowKit.intOf]; omega
        · have HF := Lib.hid (hbad.out d HDM.out hin)
          rw [decide_eq_false hin] at HCN
          have hf := P02.out.set (.bool false) (.string ⟨#[]⟩)
          obtain ⟨k0, k1, _, _⟩ := hf.cells
          have HBF := Lib.hid (below_set2 HB2.out (Nat.le_refl _) (.bool false) (.string ⟨#[]⟩))
          clear hin hf
          go_wp2_with fail
          refine HCN.out.mono ?_
          rintro e w' ⟨rfl, rfl⟩
          go_wp2_with fail
          refine bodyPost_ret (v := .tuple #[.agg #[.bool false, .string ⟨#[]⟩], .int .i64 93]) (by simp [results, Tryz.results59, go_sem, k0, k1]) rfl (HF.out _ HBF.out)
      · obtain rfl : k = n := by omega
        have HD : Hid (∀ c ∈ t, c ∈ Pl.D10) := Lib.hid (by
          have := hall.out
          rwa [List.take_of_length_le (by rw [HN.out]; exact Nat.le_refl _)] at this)
        clear hall hlt hk
        go_wp2_with fail
        go_loopw [9, 62] (fun x i wr => ∃ (j : Nat) (xs : List Nat), j ≤ k ∧ i = .int .i64 j ∧ Own4 wr W2.heap.size x xs ∧ Pl.Ws xs ∧ Pl.Tr xs ∧ Hid (Pl.num xs = Pl.valB 10 ((t.map Pl.dg).take j)) ∧ xs.length ≤ 1024 ∧ Below W2.heap.size W2 wr) (fun _ i _ => k - (RowKit.intOf i).toNat)
        case atStart => exact ⟨0, [], Nat.zero_le _, rfl, own4_nil _ _, fun x hx => by simp at hx, .inl rfl, Lib.hid (by simp [Pl.num, Pl.valB]), by simp, Below.refl _ _⟩
        case round =>
          obtain ⟨j, xs, hj, rfl, hown, hws, htr, hnum, hxl, hb⟩ := hrel
          have HOW := Lib.hid hown
          have HWS := Lib.hid hws
          have HTR := Lib.hid htr
          have HB := Lib.hid hb
          obtain ⟨xa, xc, rfl⟩ := hown.form
          have P0r := Lib.hid (P02.out.under hb (by omega))
          have hbs := hb.size
          clear hown hws htr hb
          by_cases hlt : j < k
          · have hkl : j < t.length := by rw [HN.out]; exact hlt
            have q : j < T.size := by omega
            have ak : T[j]'q = t[j] := HAT.out.get hkl q (by omega)
            have hin : t[j] ∈ Pl.D10 := HD.out _ (List.getElem_mem hkl)
            have hsucc := take_dg_succ hkl
            obtain ⟨d, hd⟩ : ∃ d, t[j] = d := ⟨_, rfl⟩
            rw [hd] at ak hin hsucc
            have hq10 := (Pl.d10_iff d).1 hin
            have HIX := Lib.hid (index_any _ Pl.D10 d wr (HR2.out.below HB.out HR2.out.lt) (by decide))
            obtain ⟨q10, hq⟩ : ∃ q10, Pl.dg d = q10 := ⟨_, rfl⟩
            have HID : Hid (∀ r, Pl.IdxIs Pl.D10 d r → r = (q10 : Nat)) := Lib.hid (fun r h => by rw [← hq]; exact Pl.d10_idx h hin)
            rw [hq] at hsucc hq10
            have HST := Lib.hid (nstep_any _ xs 10 q10 W2.heap.size wr HOW.out HWS.out HTR.out (by omega) (by decide) (by decide) (by omega) hbs)
            have HSU := Lib.hid (show Pl.num xs * 10 + q10 = Pl.valB 10 ((t.map Pl.dg).take (j + 1)) by rw [hsucc, hnum.out])
            clear hd hkl hin hsucc hq
            go_wp2_with fail
            refine HIX.out.mono ?_
            rintro e w' ⟨r, rfl, hr, rfl⟩
            obtain rfl := HID.out r hr
            have hqi : ((q10 : Nat) : Int) % 4294967296 = ((q10 : Nat) : Int) := by omega
            clear hr
            go_wp2_with fail
            refine HST.out.mono ?_
            rintro e w5 ⟨v5, zs, rfl, ho5, ws5, tr5, hv5, hb5, hl5⟩
            rw [HSU.out] at hv5
            obtain ⟨za, zc, rfl⟩ := ho5.form
            have HO5 := Lib.hid ho5
            have HW5 := Lib.hid ws5
            have HT5 := Lib.hid tr5
            have HV5 := Lib.hid hv5
            have HB5 := Lib.hid (HB.out.trans hb5)
            have P05 := Lib.hid (P0r.out.under hb5 (by omega))
            by_cases hz : zs.length ≤ 1024
            · have hdz : decide ((1024 : Int) < (zs.length : Int)) = false := decide_eq_false (by omega)
              clear ho5 ws5 tr5 hv5 hb5
              go_wp2_with fail
              go_roundw
              case rel => exact ⟨j + 1, zs, by omega, by go_num, HO5.out, HW5.out, HT5.out, HV5.out, hz, HB5.out⟩
              case measure => simp [RowKit.intOf]; omega
            · have hdz : decide ((1024 : Int) < (zs.length : Int)) = true := decide_eq_true (by omega)
              have HBIG : Hid (4294967296 ^ 1024 ≤ V) := Lib.hid (by
                have h1 := Pl.tr_ge tr5 (by intro e; rw [e] at hz; simp at hz)
                have h2 := HLT.out (j + 1)
                rw [← hv5] at h2
                exact Pl.le_q (a := 1024) (Nat.le_trans h1 h2) (show 1024 ≤ zs.length - 1 by omega))
              have hf := P05.out.set (.bool false) (.string ⟨#[]⟩)
              obtain ⟨k0, k1, _, _⟩ := hf.cells
              have HBF := Lib.hid (below_set2 (HB2.out.trans (HB5.out.mono (by omega))) (Nat.le_refl _) (.bool false) (.string ⟨#[]⟩))
              obtain ⟨_, _, f0, f1⟩ := P05.out.cells
              have HFIN := Lib.hid (fun W' hb' => hlong.out HBIG.out ▸ hgood.out HD.out W' hb')
              clear ho5 ws5 tr5 hv5 hb5 hf hz HBIG hlong
              go_wp2_with fail
              refine bodyPost_ret (v := .tuple #[.agg #[.bool false, .string ⟨#[]⟩], .int .i64 92]) (by simp [results, Tryz.results59, go_sem, k0, k1]) rfl (HFIN.out _ HBF.out)
          · obtain rfl : j = k := by omega
            have hxw : xs = Pl.wd V := Pl.wd_eq HWS.out HTR.out (by
              rw [hnum.out, List.take_of_length_le (by rw [List.length_map, HN.out]; exact Nat.le_refl _)]
              exact HV.out)
            have hrd := HOW.out.rd
            have hrd2 : Rd wr (.slice xa xs.length xc) (Pl.wd V) := by rw [← hxw]; exact hrd
            have HTO := Lib.hid (HTD.out wr _ hrd2 (by rw [← hxw]; omega))
            have HFIN := Lib.hid (hgood.out HD.out)
            clear hrd hrd2 hxw hlt
            go_wp2_with fail
            refine HTO.out.mono ?_
            rintro e w6 ⟨rfl, hb6⟩
            have P06 := Lib.hid (P0r.out.below hb6)
            obtain ⟨_, _, f0, f1⟩ := P06.out.cells
            have hf := P06.out.set (.bool tf) (.string ts)
            obtain ⟨k0, k1, _, _⟩ := hf.cells
            have HBF := Lib.hid (below_set2 (chain (HB2.out.trans (HB.out.mono (by omega))) hb6 (by omega)) (Nat.le_refl _) (.bool tf) (.string ts))
            clear hf hb6
            go_wp2_with fail
            refine bodyPost_ret (v := .tuple #[.agg #[.bool tf, .string ts], .int .i64 te]) (by simp [results, Tryz.results59, go_sem, k0, k1]) rfl (HFIN.out _ HBF.out)
theorem lparse_any (l : List UInt8) (w : World) (hl : l.length ≤ 300000) : Calls Tryz.prog 59 #[.string (bs l), .int .i64 10] w (ParseV w l) := by
  cases l with
  | nil => exact parse_err [] w hl (.inl rfl)
  | cons c r =>
    by_cases hc : c = 45
    · subst hc
      cases r with
      | nil => exact parse_err [45] w hl (.inr (.inl rfl))
      | cons d r =>
        by_cases hd : d = 48
        · subst hd
          exact parse_err _ w hl (.inr (.inr (.inl ⟨r, rfl⟩)))
        · have h := parse_go true (d :: r) w (by simp at hl ⊢; omega) (by simp) (by simp [hd]) (by simp [hd]) (by simp)
          exact h
    · by_cases hc8 : c = 48
      · subst hc8
        cases r with
        | nil => exact parse_go false [48] w (by simp) (by simp) (by simp) (by simp) (by simp)
        | cons d r => exact parse_err _ w hl (.inr (.inr (.inr ⟨d, r, rfl⟩)))
      · exact parse_go false (c :: r) w hl (by simp) (by simp [hc8]) (by simp) (by simp [hc])
end Go.Proofs.YtlodbibagmblkaaGreatDoor
namespace Go.Proofs
open Go.Shelf
def Tryz.lays128_ren : Go.Shelf.Ren := ⟨fun | 128 => 171 | n => n, fun | 3 => 3 | 4 => 4 | 5 => 5 | 9 => 9 | 46 => 34 | 51 => 103 | n => n, fun | n => n⟩
theorem Tryz.lays128 : Go.Proofs.Lays.n128 Tryz.prog Tryz.lays128_ren := {
  mixed := by kernel_rfl
  f128 := Tryz.func171.trans (congrArg some (by kernel_rfl))
  t3 := Tryz.underlying3
  a3 := Tryz.isAgg3
  z3 := Tryz.sizeOf3
  v3 := Tryz.zeroValue3
  t4 := Tryz.underlying4
  a4 := Tryz.isAgg4
  z4 := Tryz.sizeOf4
  v4 := Tryz.zeroValue4
  t5 := Tryz.underlying5
  a5 := Tryz.isAgg5
  z5 := Tryz.sizeOf5
  v5 := Tryz.zeroValue5
  t9 := Tryz.underlying9
  a9 := Tryz.isAgg9
  z9 := Tryz.sizeOf9
  v9 := Tryz.zeroValue9
  t46 := Tryz.underlying34
  a46 := Tryz.isAgg34
  z46 := Tryz.sizeOf34
  v46 := Tryz.zeroValue34
  t51 := Tryz.underlying103
  a51 := Tryz.isAgg103
  z51 := Tryz.sizeOf103
  v51 := Tryz.zeroValue103 }
theorem Tryz.bits_Len32 (x : Int) (w : World) (h0 : 0 ≤ x) (h1 : x ≤ 4294967295) :
    Calls Tryz.prog 171 #[.int .u32 x] w fun e w' => e = .returned (.int .i64 (Lib.bitLen x.toNat)) ∧ w' = w := Any.bits_Len32 Tryz.lays128 x w h0 h1
end Go.Proofs
namespace Go.Proofs.YtlodbibagmblkaaGreatDoor
open Go.RowKit Go.Lib
namespace Pl
/-- How many bits a number has. -/
def nb (n : Nat) : Nat := if n = 0 then 0 else n.log2 + 1
theorem trimW_form (xs : List Nat) : trimW xs = [] ∨ ∃ ys c, trimW xs = ys ++ [c] ∧ c ≠ 0 := by
  unfold trimW
  cases h : xs.reverse.dropWhile (· == 0) with
  | nil => left; rfl
  | cons c l =>
    right
    refine ⟨l.reverse, c, by simp, ?_⟩
    have := List.head?_dropWhile_not (p := (· == 0)) xs.reverse
    rw [h] at this
    simpa using this
theorem nb_words {ys : List Nat} {c : Nat} (hc : c ≠ 0) (hy : ∀ x ∈ ys, x < 4294967296) : nb (num (ys ++ [c])) = 32 * ys.length + (c.log2 + 1) := by
  have h1 := num_lt ys hy
  have e : num (ys ++ [c]) = num ys + 4294967296 ^ ys.length * c := num_snoc ys c
  have hB : (4294967296 : Nat) ^ ys.length = 2 ^ (32 * ys.length) := by rw [Nat.pow_mul]
  rw [hB] at e h1
  have p1 := Nat.log2_self_le hc
  have p2 : c < 2 ^ (c.log2 + 1) := Nat.lt_log2_self
  have hl : (num (ys ++ [c])).log2 = 32 * ys.length + c.log2 := by
    refine Fl.log2_between ?_ ?_
    · rw [e, Nat.pow_add]
      have := Nat.mul_le_mul_left (2 ^ (32 * ys.length)) p1
      omega
    · rw [e, Nat.add_assoc, Nat.pow_add]
      have := Nat.mul_le_mul_left (2 ^ (32 * ys.length)) (show c + 1 ≤ 2 ^ (c.log2 + 1) by omega)
      rw [Nat.mul_add, Nat.mul_one] at this
      omega
  have h0 : num (ys ++ [c]) ≠ 0 := by
    rw [e]
    have := Nat.mul_le_mul_left (2 ^ (32 * ys.length)) (show 1 ≤ c by omega)
    have := Nat.two_pow_pos (32 * ys.length)
    omega
  unfold nb
  rw [if_neg h0, hl]
  omega
end Pl
set_option maxHeartbeats 1000000 in
theorem long_any (v : Value) (xs : List Nat) (w : World) (h : Rd w v xs) (hl : xs.length ≤ 100000) (hx : ∀ x ∈ xs, x < 4294967296) :
    Calls Tryz.prog 142 #[v] w fun e w' => e = .returned (.int .i64 (Pl.nb (Pl.num xs) : Nat)) ∧ w = w' := by
  have HT := Lib.hid (trim_any v xs w h hl)
  have HX := Lib.hid hx
  have HL := Lib.hid (trimW_len xs)
  obtain ⟨va, vn, vc, rfl⟩ := rd_form h
  clear h hx
  rcases Pl.trimW_form xs with h0 | ⟨ys, c, h0, hc⟩
  · have HV := Lib.hid (show Pl.nb (Pl.num xs) = 0 by rw [← Pl.num_trimW, h0]; rfl)
    go_enter Tryz.func142, Tryz.ntmps142
    go_wp2_with fail
    refine HT.out.mono ?_
    rintro e w' ⟨v', rfl, hr, rfl⟩
    rw [h0] at hr
    obtain ⟨a, cp, rfl⟩ : ∃ a cp, v' = .slice a 0 cp := by
      rcases hr with ⟨rfl, _⟩ | ⟨b, cap, rfl, _⟩
      · exact ⟨_, _, rfl⟩
      · exact ⟨_, _, rfl⟩
    clear hr
    go_wp2_with fail
    go_ret
    exact ⟨by rw [HV.out]; rfl, rfl⟩
  · have hcl : c < 4294967296 := HX.out c (trimW_mem (by rw [h0]; simp))
    have hyl : ys.length + 1 ≤ 100000 := by
      have := HL.out
      rw [h0] at this
      simp at this
      omega
    have HV := Lib.hid (show (Pl.nb (Pl.num xs) : Int) = 32 * (ys.length : Int) + (Lib.bitLen c : Nat) by
      rw [← Pl.num_trimW, h0, Pl.nb_words hc (fun x hx => HX.out x (trimW_mem (by rw [h0]; simp [hx]))), log2_len hc (by omega)]
      push_cast; rfl)
    have hbl : Lib.bitLen c ≤ 32 := bitLen_le c 32 (by omega) (by omega)
    go_enter Tryz.func142, Tryz.ntmps142
    go_wp2_with fail
    refine HT.out.mono ?_
    rintro e w' ⟨v', rfl, hr, rfl⟩
    rw [h0] at hr
    rcases hr with ⟨_, hn⟩ | ⟨b, cap, rfl, h2, h3, h4⟩
    · simp at hn
    have hcell : w.cell? ⟨b, ys.length, none⟩ = some (.int .u32 c) := h4 ys.length c (by simp)
    rw [List.length_append, List.length_singleton] at h2 ⊢
    generalize ys.length = k at *
    clear h4 HT HX HL h0
    have HQ := Lib.hid (fun w => Tryz.bits_Len32 (c : Int) w (by omega) (by omega))
    go_wp2_with fail
    refine (HQ.out _).mono ?_
    rintro e w' ⟨rfl, rfl⟩
    rw [Int.toNat_natCast]
    generalize Lib.bitLen c = L at *
    go_wp2_with fail
    go_ret
    exact ⟨ret_int (by rw [HV.out]), rfl⟩
end Go.Proofs.YtlodbibagmblkaaGreatDoor
namespace Go.Proofs.YtlodbibagmblkaaGreatDoor
open Go.RowKit Go.Lib
namespace Pl
/-- The words of a number shifted to the right. -/
def shr (xs : List Nat) (k : Nat) : List Nat := trimW (dn (xs.length - k / 32) (num xs / 2 ^ k))
theorem num_drop (xs : List Nat) (hx : ∀ x ∈ xs, x < 4294967296) (j : Nat) : num xs / 4294967296 ^ j = num (xs.drop j) := by
  rcases Nat.lt_or_ge xs.length j with h | h
  · rw [List.drop_eq_nil_of_le (by omega)]
    have := num_lt xs hx
    have h2 : (4294967296 : Nat) ^ xs.length ≤ 4294967296 ^ j := Nat.pow_le_pow_right (by decide) (by omega)
    rw [Nat.div_eq_of_lt (by omega)]
    rfl
  · have e := num_append (xs.take j) (xs.drop j)
    rw [List.take_append_drop, List.length_take, Nat.min_eq_left h] at e
    have hl := num_lt (xs.take j) (fun x hx' => hx x (List.mem_of_mem_take hx'))
    rw [List.length_take, Nat.min_eq_left h] at hl
    rw [e, Nat.add_mul_div_left _ _ (Nat.pow_pos (by decide)), Nat.div_eq_of_lt hl, Nat.zero_add]
/-- Two words that stand one behind the other, as the loop reads them. -/
def pair (xs : List Nat) (j : Nat) : Nat := xs.getD j 0 + 4294967296 * xs.getD (j + 1) 0
theorem num_head (ys : List Nat) : num ys % 18446744073709551616 = (ys.getD 0 0 + 4294967296 * ys.getD 1 0) % 18446744073709551616 := by
  match ys with
  | [] => rfl
  | [a] => simp [num]
  | a :: b :: l => simp only [num, List.getD_cons_zero, List.getD_cons_succ]; omega
theorem shr_word (xs : List Nat) (hx : ∀ x ∈ xs, x < 4294967296) (W p i : Nat) (hp : p < 32) :
    num xs / 2 ^ (32 * W + p) / 4294967296 ^ i % 4294967296 = pair xs (W + i) / 2 ^ p % 4294967296 := by
  have e1 : num xs / 2 ^ (32 * W + p) / 4294967296 ^ i = num xs / 4294967296 ^ (W + i) / 2 ^ p := by
    rw [Nat.div_div_eq_div_mul, Nat.div_div_eq_div_mul]
    congr 1
    rw [Nat.pow_add, Nat.pow_add, show (4294967296 : Nat) = 2 ^ 32 from rfl, ← Nat.pow_mul, ← Nat.pow_mul]
    ac_rfl
  rw [e1, num_drop xs hx]
  have h1 := num_head (xs.drop (W + i))
  have e2 : (xs.drop (W + i)).getD 0 0 = xs.getD (W + i) 0 := by simp [List.getD_eq_getElem?_getD]
  have e3 : (xs.drop (W + i)).getD 1 0 = xs.getD (W + i + 1) 0 := by simp [List.getD_eq_getElem?_getD]
  rw [e2, e3] at h1
  change _ = pair xs (W + i) % _ at h1
  generalize num (xs.drop (W + i)) = A at *
  generalize pair xs (W + i) = B at *
  have hpw : 2 ^ p * 2 ^ (64 - p) = 18446744073709551616 := by rw [← Nat.pow_add, show p + (64 - p) = 64 by omega]
  have key : ∀ X : Nat, X / 2 ^ p % 4294967296 = X % 18446744073709551616 / 2 ^ p % 4294967296 := by
    intro X
    have h2 : X % (2 ^ p * 2 ^ (64 - p)) / 2 ^ p = X / 2 ^ p % 2 ^ (64 - p) := by rw [Nat.mod_mul_right_div_self]
    rw [hpw] at h2
    rw [h2, Nat.mod_mod_of_dvd]
    rw [show (4294967296 : Nat) = 2 ^ 32 from rfl]
    exact Nat.pow_dvd_pow 2 (by omega)
  rw [key A, key B, h1]
/-- The first words of a number, and noughts. -/
def mix (n V k : Nat) : List Nat := (List.range n).map fun j => if j < k then V / 4294967296 ^ j % 4294967296 else 0
theorem mix_full (n V : Nat) : mix n V n = dn n V := by
  unfold mix dn
  apply List.map_congr_left
  intro j hj
  rw [if_pos (List.mem_range.1 hj)]
end Pl
theorem bits_or64 {a b : Nat} (ha : a < 4294967296) (hb : b < 4294967296) : bits .or .u64 (a : Int) ((b : Int) * 4294967296) = ((a + 4294967296 * b : Nat) : Int) := by
  have e1 : (b : Int) * 4294967296 = ((4294967296 * b : Nat) : Int) := by omega
  have h64 : (2 : Nat) ^ IntKind.u64.bits = 18446744073709551616 := rfl
  have hw : ∀ n : Nat, n < 18446744073709551616 → IntKind.u64.wrap (n : Int) = n := fun n hn => by rw [IntKind.wrap_u64]; omega
  have hor : a ||| 4294967296 * b = a + 4294967296 * b := by
    have := Nat.two_pow_add_eq_or_of_lt (i := 32) (b := a) ha b
    rw [show (2 : Nat) ^ 32 = 4294967296 from rfl] at this
    rw [Nat.or_comm, ← this, Nat.add_comm]
  rw [e1]
  simp only [bits, BitVec.ofInt_natCast, BitVec.toNat_or, BitVec.toNat_ofNat, h64]
  rw [Nat.mod_eq_of_lt (show a < 18446744073709551616 by omega), Nat.mod_eq_of_lt (show 4294967296 * b < 18446744073709551616 by omega), hor, hw _ (by omega)]
theorem cast_shift (a p : Nat) : (a : Int) / 2 ^ p % 4294967296 = ((a / 2 ^ p % 4294967296 : Nat) : Int) := by
  rw [Int.natCast_emod, Int.natCast_ediv, Int.natCast_pow]; rfl
theorem mix_step {n V k x : Nat} (hx : V / 4294967296 ^ k % 4294967296 = x) : wcells (Pl.mix n V (k + 1)) = (wcells (Pl.mix n V k)).setIfInBounds k (.int .u32 (x : Nat)) := by
  unfold wcells
  apply Array.toList_inj.1
  apply List.ext_getElem
  · simp [Pl.mix]
  · intro i h1 h2
    simp only [Array.toList_setIfInBounds, List.getElem_set, List.getElem_map, Pl.mix, List.getElem_range]
    by_cases e : k = i
    · subst e
      rw [if_pos rfl, if_pos (by omega), hx]
    · rw [if_neg e]
      by_cases e2 : i < k
      · rw [if_pos (by omega), if_pos e2]
      · rw [if_neg (by omega), if_neg e2]
def RightOk (w : World) (ys : List Nat) (e : Ending) (w' : World) : Prop :=
  ∃ v b, e = .returned (.tuple #[v, .bool b]) ∧ Rd w' v ys ∧ Below w.heap.size w w'
theorem right_far (v : Value) (xs : List Nat) (sh : Nat) (w : World) (h : Rd w v xs) (hs : sh ≤ 40000) (hf : xs.length ≤ sh / 32) :
    Calls Tryz.prog 84 #[v, .int .u64 sh] w (RightOk w (Pl.shr xs sh)) := by
  have HE := Lib.hid (show Pl.shr xs sh = [] by unfold Pl.shr Pl.dn; rw [show xs.length - sh / 32 = 0 by omega]; rfl)
  obtain ⟨va, vc, rfl⟩ : ∃ a c, v = .slice a xs.length c := by
    rcases h with ⟨h1, h2⟩ | ⟨b, cap, h1, _⟩
    · exact ⟨none, 0, by rw [h1, h2]; rfl⟩
    · exact ⟨_, _, h1⟩
  clear h
  obtain ⟨N, hN⟩ : ∃ N, xs.length = N := ⟨_, rfl⟩
  rw [hN] at hf ⊢
  obtain ⟨wh, hwh⟩ : ∃ wh, sh / 32 = wh := ⟨_, rfl⟩
  obtain ⟨pt, hpt⟩ : ∃ pt, sh % 32 = pt := ⟨_, rfl⟩
  have d1 : (sh : Int) / 32 = (wh : Int) := by omega
  have d2 : (sh : Int) % 32 = (pt : Int) := by omega
  rw [hwh] at hf
  clear hwh hpt hN
  have hd : decide ((N : Int) ≤ (wh : Int)) = true := decide_eq_true (by omega)
  go_enter Tryz.func84, Tryz.ntmps84
  go_wp2_with fail
  go_ret2
  exact ⟨_, _, rfl, by rw [HE.out]; exact .inl ⟨rfl, rfl⟩, Below.refl _ _⟩
set_option maxRecDepth 4000 in
set_option maxHeartbeats 2000000 in
theorem right_near (v : Value) (xs : List Nat) (sh : Nat) (w : World) (h : Rd w v xs) (hl : xs.length ≤ 2000) (hx : ∀ x ∈ xs, x < 4294967296) (hs : sh ≤ 40000) (hf : sh / 32 < xs.length) :
    Calls Tryz.prog 84 #[v, .int .u64 sh] w (RightOk w (Pl.shr xs sh)) := by
  obtain ⟨i0, hi, hz0, hz1, hz2⟩ := info_parts info74
  have HX := Lib.hid hx
  rcases h with ⟨_, h2⟩ | ⟨b, cap, rfl, hcap, hbs, hcells⟩
  · rw [h2] at hf; simp at hf
  have HC := Lib.hid hcells
  clear hcells hx
  obtain ⟨N, hN⟩ : ∃ N, xs.length = N := ⟨_, rfl⟩
  rw [hN] at hl hf hcap ⊢
  have HN := Lib.hid hN
  clear hN
  obtain ⟨wh, hwh⟩ : ∃ wh, sh / 32 = wh := ⟨_, rfl⟩
  obtain ⟨pt, hpt⟩ : ∃ pt, sh % 32 = pt := ⟨_, rfl⟩
  have d1 : (sh : Int) / 32 = (wh : Int) := by omega
  have d2 : (sh : Int) % 32 = (pt : Int) := by omega
  have hpt2 : pt < 32 := by omega
  rw [hwh] at hf
  have HSH := Lib.hid (show sh = 32 * wh + pt by omega)
  have HWH := Lib.hid hwh
  clear hwh hpt
  have HRW : Hid (Rd w (.slice (some ⟨b, 0, none⟩) wh cap) (xs.take wh)) := Lib.hid (.inr ⟨b, cap, by rw [List.length_take, Nat.min_eq_left (by rw [HN.out]; omega)], by rw [List.length_take]; omega, hbs, fun j x hj => by
    rw [List.getElem?_take] at hj
    split at hj
    · exact HC.out j x hj
    · cases hj⟩)
  have HT := Lib.hid (trim_any _ _ w HRW.out (by rw [List.length_take]; omega))
  have HLO := Lib.hid (fun v' (h : Rd w v' (Pl.trimW (xs.take wh))) => long_any v' _ w h (Nat.le_trans (trimW_len _) (by rw [List.length_take]; omega)) (fun x hx => HX.out x (List.mem_of_mem_take (trimW_mem hx))))
  have hkl : wh < xs.length := by rw [HN.out]; exact hf
  obtain ⟨xw, hxw⟩ : ∃ x, xs[wh] = x := ⟨_, rfl⟩
  have hcw : w.cell? ⟨b, wh, none⟩ = some (.int .u32 (xw : Nat)) := HC.out wh xw (by rw [List.getElem?_eq_getElem hkl, hxw])
  have hxwl : xw < 4294967296 := by rw [← hxw]; exact HX.out _ (List.getElem_mem _)
  clear hxw hkl
  obtain ⟨nbl, hnbl⟩ : ∃ nbl, Pl.nb (Pl.num (Pl.trimW (xs.take wh))) = nbl := ⟨_, rfl⟩
  rw [hnbl] at HLO
  clear hnbl
  obtain ⟨n, hn⟩ : ∃ n, N - wh = n := ⟨_, rfl⟩
  have HNN := Lib.hid hn
  have hnI : (N : Int) - (wh : Int) = (n : Int) := by omega
  have hn2 : n ≤ 4000 := by omega
  have hd : decide ((N : Int) ≤ (wh : Int)) = false := decide_eq_false (by omega)
  have hwle : wh ≤ cap := by omega
  go_enter Tryz.func84, Tryz.ntmps84
  go_wp2_with fail
  refine HT.out.mono ?_
  rintro e w' ⟨v', rfl, hr, rfl⟩
  have HLV := Lib.hid (HLO.out v' hr)
  obtain ⟨ta, tb, tc, rfl⟩ := rd_form hr
  clear hr HT HLO
  go_wp2_with fail
  refine HLV.out.mono ?_
  rintro e w' ⟨rfl, rfl⟩
  clear HLV
  go_wp2_with (at_make; refine wpList_make_full _ rfl _ _ 90 rfl w.heap.size 103 i0 (.int .u32 0) 1 Tryz.underlying90 hi hz0 hz1 .i64 .i64 _ _ n rfl rfl (by omega) (by omega) (by rw [hz2]; omega) (by unfold maxLen; omega) (by simp) ?_)
  all_goals
    intro w1 ho1 hg1
    obtain ⟨g, hgd⟩ : ∃ g, w.heap.size = g := ⟨_, rfl⟩
    rw [hgd] at ho1 ⊢
    have hrow : w1.heap[g]? = some (.cells (wcells (Pl.mix n (Pl.num xs / 2 ^ sh) 0)) 103) := by
      have := row_full ho1
      rw [made_words] at this
      rw [this]
      have e : Pl.words n [] = Pl.mix n (Pl.num xs / 2 ^ sh) 0 := by
        unfold Pl.words Pl.mix
        apply List.map_congr_left
        intro j _
        simp [Pl.word, Pl.le]
      rw [e]
    have HB1 := Lib.hid (show Below g w w1 from (Below.refl _ _).grown hg1 (by omega) (fun k hk => by cases hk))
    have HROW := Lib.hid hrow
    have HGD := Lib.hid hgd
    clear ho1 hg1 hi hz0 hz1 hz2 hrow hgd hn
    go_wp2_with fail
    go_loopw [51] (fun i wr => ∃ k : Nat, k ≤ n ∧ i = .int .i64 k ∧ wr.heap[g]? = some (.cells (wcells (Pl.mix n (Pl.num xs / 2 ^ sh) k)) 103) ∧ Below g w wr ∧ g < wr.heap.size) (fun i _ => n - (RowKit.intOf i).toNat)
    case atStart => exact ⟨0, Nat.zero_le _, rfl, HROW.out, HB1.out, (Array.getElem?_eq_some_iff.1 HROW.out).1⟩
    case round =>
      obtain ⟨k, hk, rfl, hrow, hb, hsz2⟩ := hrel
      have HROW := Lib.hid hrow
      have HB := Lib.hid hb
      clear hrow hb
      have hbg : b < g := by have := HGD.out; omega
      by_cases hlt : k < n
      · have hwk : wh + k < xs.length := by have h1 := HNN.out; rw [HN.out]; omega
        have hcx : wr.cell? ⟨b, wh + k, none⟩ = some (.int .u32 (xs.getD (wh + k) 0 : Nat)) := by
          rw [HB.out.cell (p := ⟨b, wh + k, none⟩) hbg]
          exact HC.out _ _ (by simp [List.getD_eq_getElem?_getD, List.getElem?_eq_getElem hwk])
        have hxl : xs.getD (wh + k) 0 < 4294967296 := by
          rw [List.getD_eq_getElem?_getD, List.getElem?_eq_getElem hwk]
          exact HX.out _ (List.getElem_mem _)
        have HW := Lib.hid (Pl.shr_word xs HX.out wh pt k hpt2)
        rw [← HSH.out] at HW
        unfold Pl.pair at HW
        obtain ⟨x0, hx0⟩ : ∃ x0, xs.getD (wh + k) 0 = x0 := ⟨_, rfl⟩
        rw [hx0] at hcx hxl HW
        clear hx0
        have hkn : k < n := hlt
        obtain ⟨y, cb⟩ : ∃ y : Nat, wr.cell? ⟨g, k, none⟩ = some (.int .u32 (y : Nat)) := ⟨(if k < k then Pl.num xs / 2 ^ sh / 4294967296 ^ k % 4294967296 else 0), by simp [World.cell?, HROW.out, wcells, Pl.mix, hkn]⟩
        have fb : wr.frozen? ⟨g, k, none⟩ = false := by simp [World.frozen?, HROW.out]
        have hwkN : wh + k < N := by rw [← HN.out]; exact hwk
        by_cases hq : wh + k + 1 < N
        · have hq' : decide ((wh : Int) + (k : Int) + 1 < (N : Int)) = true := decide_eq_true (by omega)
          have hwk1 : wh + k + 1 < xs.length := by rw [HN.out]; exact hq
          have hcy : wr.cell? ⟨b, wh + k + 1, none⟩ = some (.int .u32 (xs.getD (wh + k + 1) 0 : Nat)) := by
            rw [HB.out.cell (p := ⟨b, wh + k + 1, none⟩) hbg]
            exact HC.out _ _ (by simp [List.getD_eq_getElem?_getD, List.getElem?_eq_getElem hwk1])
          have hyl : xs.getD (wh + k + 1) 0 < 4294967296 := by
            rw [List.getD_eq_getElem?_getD, List.getElem?_eq_getElem hwk1]
            exact HX.out _ (List.getElem_mem _)
          obtain ⟨x1, hx1⟩ : ∃ x1, xs.getD (wh + k + 1) 0 = x1 := ⟨_, rfl⟩
          rw [hx1] at hcy hyl HW
          clear hx1
          obtain ⟨q, hqd⟩ : ∃ q, (x0 + 4294967296 * x1) / 2 ^ pt % 4294967296 = q := ⟨_, rfl⟩
          rw [hqd] at HW
          have HNEW := Lib.hid (mix_step (n := n) HW.out)
          have hor : bits .or .u64 (x0 : Int) ((x1 : Int) * 4294967296) / 2 ^ pt % 4294967296 = (q : Int) := by
            rw [bits_or64 hxl hyl, cast_shift, hqd]
          clear HW hqd
          go_wp2_with fail
          all_goals
            have hrow2 : (wr.setCell ⟨g, k, none⟩ (.int .u32 (q : Nat))).heap[g]? = some (.cells (wcells (Pl.mix n (Pl.num xs / 2 ^ sh) (k + 1))) 103) := by
              rw [HNEW.out]
              simp only [World.setCell, Array.getElem?_modify, if_pos, HROW.out]
              rfl
            have hB2 : Below g w (wr.setCell ⟨g, k, none⟩ (.int .u32 (q : Nat))) := HB.out.setCell (p := ⟨g, k, none⟩) (Nat.le_refl g) _
            have hz2 : g < (wr.setCell ⟨g, k, none⟩ (.int .u32 (q : Nat))).heap.size := by simp [World.setCell]; exact hsz2
            go_roundw
            case rel => exact ⟨k + 1, by omega, by go_num, hrow2, hB2, hz2⟩
            case measure => simp [RowKit.intOf]; omega
        · have hq' : decide ((wh : Int) + (k : Int) + 1 < (N : Int)) = false := decide_eq_false (by omega)
          obtain ⟨q, hqd⟩ : ∃ q, x0 / 2 ^ pt % 4294967296 = q := ⟨_, rfl⟩
          have hx1 : xs.getD (wh + k + 1) 0 = 0 := by rw [List.getD_eq_getElem?_getD, List.getElem?_eq_none (by rw [HN.out]; omega)]; rfl
          rw [hx1, Nat.mul_zero, Nat.add_zero, hqd] at HW
          have HNEW := Lib.hid (mix_step (n := n) HW.out)
          have hor : (x0 : Int) / 2 ^ pt % 4294967296 = (q : Int) := by rw [cast_shift, hqd]
          clear HW hqd hx1
          go_wp2_with fail
          all_goals
            have hrow2 : (wr.setCell ⟨g, k, none⟩ (.int .u32 (q : Nat))).heap[g]? = some (.cells (wcells (Pl.mix n (Pl.num xs / 2 ^ sh) (k + 1))) 103) := by
              rw [HNEW.out]
              simp only [World.setCell, Array.getElem?_modify, if_pos, HROW.out]
              rfl
            have hB2 : Below g w (wr.setCell ⟨g, k, none⟩ (.int .u32 (q : Nat))) := HB.out.setCell (p := ⟨g, k, none⟩) (Nat.le_refl g) _
            have hz2 : g < (wr.setCell ⟨g, k, none⟩ (.int .u32 (q : Nat))).heap.size := by simp [World.setCell]; exact hsz2
            go_roundw
            case rel => exact ⟨k + 1, by omega, by go_num, hrow2, hB2, hz2⟩
            case measure => simp [RowKit.intOf]; omega
      · obtain rfl : k = n := by omega
        rw [Pl.mix_full] at HROW
        have hrd : Rd wr (.slice (some ⟨g, 0, none⟩) k k) (Pl.dn k (Pl.num xs / 2 ^ sh)) := by
          refine .inr ⟨g, k, by rw [Pl.dn_len], by rw [Pl.dn_len]; exact Nat.le_refl _, hsz2, fun j y hy => ?_⟩
          simp only [World.cell?, HROW.out, wcells]
          simp [hy]
        have HT := Lib.hid (trim_any _ _ wr hrd (by rw [Pl.dn_len]; omega))
        have HBW := Lib.hid (show Below w.heap.size w wr from by rw [HGD.out]; exact HB.out)
        have HSR := Lib.hid (show Pl.shr xs sh = Pl.trimW (Pl.dn k (Pl.num xs / 2 ^ sh)) by unfold Pl.shr; rw [HN.out, HWH.out, HNN.out])
        clear hrd hlt
        go_wp2_with fail
        refine HT.out.mono ?_
        rintro e w' ⟨v', rfl, hrd2, rfl⟩
        have HR2 := Lib.hid hrd2
        obtain ⟨a, b, c, rfl⟩ := rd_form hrd2
        clear hrd2
        go_wp2_with fail
        go_ret2
        exact ⟨_, _, rfl, by rw [HSR.out]; exact HR2.out, HBW.out⟩
end Go.Proofs.YtlodbibagmblkaaGreatDoor
namespace Go.Proofs.YtlodbibagmblkaaGreatDoor
open Go.RowKit Go.Lib
theorem right_any (v : Value) (xs : List Nat) (sh : Nat) (w : World) (h : Rd w v xs) (hl : xs.length ≤ 2000) (hx : ∀ x ∈ xs, x < 4294967296) (hs : sh ≤ 40000) :
    Calls Tryz.prog 84 #[v, .int .u64 sh] w (RightOk w (Pl.shr xs sh)) := by
  rcases Nat.lt_or_ge (sh / 32) xs.length with hf | hf
  · exact right_near v xs sh w h hl hx hs hf
  · exact right_far v xs sh w h hs hf
theorem shr_lt {xs : List Nat} {k x : Nat} (h : x ∈ Pl.shr xs k) : x < 4294967296 := Pl.dn_lt (trimW_mem h)
theorem shr_len (xs : List Nat) (k : Nat) : (Pl.shr xs k).length ≤ xs.length := by
  unfold Pl.shr
  refine Nat.le_trans (trimW_len _) ?_
  rw [Pl.dn_len]; omega
theorem num_shr (xs : List Nat) (hx : ∀ x ∈ xs, x < 4294967296) (k : Nat) : Pl.num (Pl.shr xs k) = Pl.num xs / 2 ^ k := by
  unfold Pl.shr
  rw [Pl.num_trimW, Pl.num_dn]
  have h1 := Pl.num_lt xs hx
  have hk : k = 32 * (k / 32) + k % 32 := by omega
  rw [Nat.div_lt_iff_lt_mul (Nat.two_pow_pos _)]
  rcases Nat.lt_or_ge xs.length (k / 32) with h | h
  · rw [show xs.length - k / 32 = 0 by omega, Nat.pow_zero, Nat.one_mul]
    refine Nat.lt_of_lt_of_le h1 ?_
    rw [show (4294967296 : Nat) = 2 ^ 32 from rfl, ← Nat.pow_mul]
    exact Nat.pow_le_pow_right (by decide) (by omega)
  · refine Nat.lt_of_lt_of_le h1 ?_
    rw [show (4294967296 : Nat) = 2 ^ 32 from rfl, ← Nat.pow_mul, ← Nat.pow_mul, ← Nat.pow_add]
    exact Nat.pow_le_pow_right (by decide) (by omega)
set_option maxRecDepth 4000 in
set_option maxHeartbeats 2000000 in
theorem shiftr_any (l : List UInt8) (k : Nat) (w : World) (hl : l.length ≤ 4096) (hc : Pl.chk false l = 0) (hk : k ≤ 32768) (hk0 : 1 ≤ k) (hs : (Pl.bytesOf (Pl.shr (Pl.words ((l.length + 3) / 4) l) k)).length ≤ 4096) :
    Calls Tryz.prog 48 #[lv false l, .int .i64 (-(k : Int))] w (ShiftOk w false (Pl.shr (Pl.words ((l.length + 3) / 4) l) k)) := by
  have HC := Lib.hid (fun w => check_any false l w (by omega))
  rw [hc] at HC
  have HO := Lib.hid (fun w => lof_any false l w hl)
  have hxw : ∀ x ∈ Pl.words ((l.length + 3) / 4) l, x < 4294967296 := fun x hx => by
    obtain ⟨j, _, rfl⟩ := List.mem_map.1 hx; exact Pl.word_lt l j
  have HL := Lib.hid (fun v w (h : Rd w v (Pl.words ((l.length + 3) / 4) l)) => right_any v _ k w h (by rw [Pl.words_len]; omega) hxw (by omega))
  have hlen : (Pl.words ((l.length + 3) / 4) l).length ≤ 10000 := by rw [Pl.words_len]; omega
  have HT := Lib.hid (fun v w (h : Rd w v (Pl.shr (Pl.words ((l.length + 3) / 4) l) k)) => ltold_any v _ false w h (Nat.le_trans (shr_len _ _) hlen) (fun x hx => shr_lt hx) hs)
  generalize Pl.shr (Pl.words ((l.length + 3) / 4) l) k = ys at *
  clear hc hxw hs hlen
  unfold lv at *
  generalize bs l = s at *
  go_enter Tryz.func48, Tryz.ntmps48
  go_wp2_with fail
  refine (HC.out _).mono ?_
  rintro e w1 ⟨rfl, hB1⟩
  have HF1 := Lib.hid ((Frm.new w false s).below hB1)
  obtain ⟨g0, g1, _, _, _, _⟩ := HF1.out.cells
  clear hB1
  go_wp2_with fail
  refine (HO.out _).mono ?_
  rintro e w2 ⟨v, rfl, hrd, hB2⟩
  have HF2 := Lib.hid (HF1.out.below hB2)
  have HRD := Lib.hid hrd
  obtain ⟨va, vn, vc, rfl⟩ := rd_form hrd
  clear hB2 hrd HF1
  clear g0 g1
  have hd1 : decide (-(k : Int) < -32768) = false := decide_eq_false (by omega)
  have hd2 : decide (32768 < -(k : Int)) = false := decide_eq_false (by omega)
  have hd3 : decide (0 ≤ -(k : Int)) = false := decide_eq_false (by omega)
  have hku : IntKind.u64.wrap (k : Int) = (k : Int) := wrap_nat (by omega)
  go_wp2_with fail
  obtain ⟨C, hC⟩ : ∃ C, w2.heap.size = C := ⟨_, rfl⟩
  obtain ⟨W3, hW3⟩ : ∃ W3, w2.alloc (.cells #[.slice va vn vc, .bool false] 92) = W3 := ⟨_, rfl⟩
  have hB3 : Below w2.heap.size w2 W3 := by rw [← hW3]; exact (Below.refl _ _).alloc (Nat.le_refl _) _
  have HF3 := Lib.hid (HF2.out.below hB3)
  have HRD3 := Lib.hid (HRD.out.below hB3)
  have hn : W3.heap[C]? = some (.cells #[.slice va vn vc, .bool false] 92) := by rw [← hW3, ← hC]; exact heap_alloc_at _ _
  have hCs : C < W3.heap.size := (Array.getElem?_eq_some_iff.1 hn).1
  rw [hC, hW3]
  clear hB3 hW3 hC HRD HF2
  obtain ⟨B, hBd⟩ : ∃ B, w.heap.size + 1 = B := ⟨_, rfl⟩
  rw [hBd]
  have HBd := Lib.hid hBd
  clear hBd
  refine (HL.out _ _ (by exact HRD3.out)).mono ?_
  rintro e w4 ⟨v4, lost, rfl, hrd4, hB4⟩
  have HF4 := Lib.hid (HF3.out.below hB4)
  have hn4 : w4.heap[C]? = some (.cells #[.slice va vn vc, .bool false] 92) := by rw [hB4.block _ hCs]; exact hn
  have HRD4 := Lib.hid hrd4
  obtain ⟨x1, x2, x3, rfl⟩ := rd_form hrd4
  have m1 : w4.cell? ⟨C, 1, none⟩ = some (.bool false) := by simp [World.cell?, hn4]
  have hCs4 : C < w4.heap.size := (Array.getElem?_eq_some_iff.1 hn4).1
  clear hn hn4 hrd4 hB4 HRD3 HF3 HL HO HC hCs
  cases lost
  all_goals
    go_wp2_with fail
    refine (HT.out _ _ HRD4.out).mono ?_
    rintro e w5 ⟨rfl, hB5⟩
    have HF5 := Lib.hid (HF4.out.below hB5)
    obtain ⟨_, _, r0, r1, f0, f1⟩ := HF5.out.cells
    rw [HBd.out] at r0 r1 f0 f1
    unfold lv
    obtain ⟨k0, k1, kB⟩ := two_set w5 B (.bool (false && !(Pl.bytesOf ys).isEmpty)) (.string (bs (Pl.bytesOf ys))) r0 r1
    have kB' := HF5.out.low.trans (kB.mono (by have := HBd.out; omega))
    clear hB5
    simp only [Bool.false_and] at k0 k1 kB kB' ⊢
    go_wp2_with fail
    refine bodyPost_ret (v := .tuple #[.agg #[.bool (false && !(Pl.bytesOf ys).isEmpty), .string (bs (Pl.bytesOf ys))], .int .i64 0]) (by simp [results, Tryz.results48, go_sem, k0, k1]) rfl ⟨rfl, kB'⟩
/-- A number without a sign, shifted to the right. -/
theorem shift_down (V k : Nat) (w : World) (hV : V < 256 ^ 4096) (hk : k ≤ 32768) :
    Calls Tryz.prog 48 #[lv false (Pl.dgs V), .int .i64 (-(k : Int))] w fun e w' => e = .returned (.tuple #[lv false (Pl.dgs (V / 2 ^ k)), .int .i64 0]) ∧ Below w.heap.size w w' := by
  have hlen := Pl.dgs_len hV
  rcases Nat.eq_zero_or_pos k with h0 | h0
  · subst h0
    have h := shiftl_any false (Pl.dgs V) 0 w hlen (Pl.chk_dgs hV (by simp)) (by omega) (by rw [Pl.shl_is, Nat.pow_zero, Nat.mul_one]; exact hlen)
    refine Calls.mono ?_ (fun e w' h => h)
    unfold ShiftOk at h
    rw [Pl.shl_is, Nat.pow_zero, Nat.mul_one, Bool.false_and] at h
    simpa using h
  · have hxw : ∀ x ∈ Pl.words (((Pl.dgs V).length + 3) / 4) (Pl.dgs V), x < 4294967296 := fun x hx => by
      obtain ⟨j, _, rfl⟩ := List.mem_map.1 hx; exact Pl.word_lt _ j
    have hb : Pl.bytesOf (Pl.shr (Pl.words (((Pl.dgs V).length + 3) / 4) (Pl.dgs V)) k) = Pl.dgs (V / 2 ^ k) := by
      rw [Pl.bytesOf_is (fun x hx => shr_lt hx), num_shr _ hxw, Pl.num_words _ _ (by omega), Pl.le_dgs]
    have h := shiftr_any (Pl.dgs V) k w hlen (Pl.chk_dgs hV (by simp)) hk h0 (by rw [hb]; exact Pl.dgs_len (Nat.lt_of_le_of_lt (Nat.div_le_self _ _) hV))
    unfold ShiftOk at h
    rw [hb, Bool.false_and] at h
    exact h
end Go.Proofs.YtlodbibagmblkaaGreatDoor
namespace Go.Proofs.YtlodbibagmblkaaGreatDoor
open Go.RowKit Go.Lib
theorem run_field_nat (a : Option Addr) (n c : Nat) (b : Bool) (w : World) : (Instr.field 92 (.agg #[.slice a n c, .bool b]) 0).run Tryz.prog w = .ok (.slice a n c) w := by
  simp [Instr.field, run_underlying Tryz.underlying92, part, asAgg, Tryz.isAgg90, go_sem]
set_option maxRecDepth 4000 in
set_option maxHeartbeats 1000000 in
theorem nbits_any (neg : Bool) (V : Nat) (w : World) (hV : V < 256 ^ 4096) (hc : Pl.chk neg (Pl.dgs V) = 0) :
    Calls Tryz.prog 88 #[lv neg (Pl.dgs V)] w fun e w' => e = .returned (.int .i64 (Pl.nb V : Nat)) ∧ Below w.heap.size w w' := by
  have hlen := Pl.dgs_len hV
  have HC := Lib.hid (fun w => check_any neg (Pl.dgs V) w (by omega))
  rw [hc] at HC
  have HO := Lib.hid (fun w => lof_any neg (Pl.dgs V) w hlen)
  have hxw : ∀ x ∈ Pl.words (((Pl.dgs V).length + 3) / 4) (Pl.dgs V), x < 4294967296 := fun x hx => by
    obtain ⟨j, _, rfl⟩ := List.mem_map.1 hx; exact Pl.word_lt _ j
  have HL := Lib.hid (fun v w (h : Rd w v (Pl.words (((Pl.dgs V).length + 3) / 4) (Pl.dgs V))) => long_any v _ w h (by rw [Pl.words_len]; omega) hxw)
  rw [Pl.num_words _ _ (by omega), Pl.le_dgs] at HL
  generalize Pl.nb V = R at *
  clear hc hxw hV hlen
  unfold lv at *
  generalize bs (Pl.dgs V) = s at *
  go_enter Tryz.func88, Tryz.ntmps88
  go_wp2_with fail
  refine (HC.out _).mono ?_
  rintro e w1 ⟨rfl, hB1⟩
  have hh : (w.alloc (.cells #[.bool neg, .string s] 43)).heap[w.heap.size]? = some (.cells #[.bool neg, .string s] 43) := heap_alloc_at _ _
  have HB1 := Lib.hid (show Below w.heap.size w w1 from ((Below.refl _ _).alloc (Nat.le_refl _) _).trans (hB1.mono (by simp)))
  obtain ⟨c0, c1, _⟩ := large_cells (large_kept hh hB1)
  clear hB1 hh
  go_wp2_with fail
  refine (HO.out _).mono ?_
  rintro e w2 ⟨v, rfl, hrd, hB2⟩
  have HRD := Lib.hid hrd
  have HB2 := Lib.hid (HB1.out.trans (hB2.mono HB1.out.size))
  obtain ⟨va, vn, vc, rfl⟩ := rd_form hrd
  clear hB2 hrd HB1
  have hfield := fun w => run_field_nat va vn vc neg w
  go_wp2_with fail
  refine (HL.out _ _ HRD.out).mono ?_
  rintro e w' ⟨rfl, rfl⟩
  go_wp2_with fail
  go_ret
  exact ⟨rfl, HB2.out⟩
theorem Pl.le_take_succ {l : List UInt8} {i : Nat} (h : i < l.length) : Pl.le (l.take (i + 1)) = Pl.le (l.take i) + 256 ^ i * l[i].toNat := by
  rw [List.take_succ_eq_append_getElem h, Pl.le_snoc, List.length_take, Nat.min_eq_left (by omega)]
theorem bits_or_byte {a b k : Nat} (hk : k < 8) (ha : a < 256 ^ k) (hb : b < 256) : bits .or .u64 (a : Int) ((b : Int) * 2 ^ (8 * k) % 18446744073709551616) = ((a + 256 ^ k * b : Nat) : Int) := by
  have hp : (2 : Nat) ^ (8 * k) = 256 ^ k := by rw [Nat.pow_mul]
  have h7 : 256 ^ k ≤ 256 ^ 7 := Nat.pow_le_pow_right (by decide) (by omega)
  have h77 : (256 : Nat) ^ 7 = 72057594037927936 := by decide
  have hm : 256 ^ k * b ≤ 256 ^ 7 * 255 := Nat.mul_le_mul h7 (by omega)
  have e1 : (b : Int) * 2 ^ (8 * k) % 18446744073709551616 = ((256 ^ k * b : Nat) : Int) := by
    have : (b : Int) * 2 ^ (8 * k) = ((256 ^ k * b : Nat) : Int) := by rw [← hp, Int.natCast_mul, Int.natCast_pow, Int.mul_comm]; rfl
    rw [this]; omega
  have h64 : (2 : Nat) ^ IntKind.u64.bits = 18446744073709551616 := rfl
  have hw : ∀ n : Nat, n < 18446744073709551616 → IntKind.u64.wrap (n : Int) = n := fun n hn => by rw [IntKind.wrap_u64]; omega
  have hor : a ||| 256 ^ k * b = a + 256 ^ k * b := by
    have := Nat.two_pow_add_eq_or_of_lt (i := 8 * k) (b := a) (by rw [hp]; exact ha) b
    rw [hp] at this
    rw [Nat.or_comm, ← this, Nat.add_comm]
  rw [e1]
  simp only [bits, BitVec.ofInt_natCast, BitVec.toNat_or, BitVec.toNat_ofNat, h64]
  rw [Nat.mod_eq_of_lt (show a < 18446744073709551616 by omega), Nat.mod_eq_of_lt (show 256 ^ k * b < 18446744073709551616 by omega), hor, hw _ (by omega)]
theorem lt_pow_more {V a b : Nat} (h : V < 256 ^ a) (hab : a ≤ b) : V < 256 ^ b := Nat.lt_of_lt_of_le h (Nat.pow_le_pow_right (by decide) hab)
theorem chk_small {V : Nat} (h : V < 9223372036854775808) : Pl.chk false (Pl.dgs V) = 0 := by
  have h8 : V < 256 ^ 8 := Nat.lt_of_lt_of_le h (by decide)
  refine Pl.chk_dgs ?_ (by simp)
  obtain ⟨b, hb⟩ : ∃ b, b = 4096 := ⟨_, rfl⟩
  rw [← hb]
  exact lt_pow_more h8 (by omega)
set_option maxRecDepth 4000 in
set_option maxHeartbeats 1000000 in
theorem small_any (V : Nat) (w : World) (hV : V < 9223372036854775808) :
    Calls Tryz.prog 60 #[lv false (Pl.dgs V)] w fun e w' => e = .returned (.tuple #[.int .i64 V, .bool true]) ∧ Below w.heap.size w w' := by
  have hlen : (Pl.dgs V).length ≤ 8 := Pl.dgs_len (by omega)
  have HC := Lib.hid (fun w => check_any false (Pl.dgs V) w (by omega))
  rw [chk_small hV] at HC
  have HLE := Lib.hid (Pl.le_dgs V)
  generalize Pl.dgs V = l at *
  unfold lv at *
  have hsz : (bs l).size = l.length := rfl
  have HAT := Lib.hid (at_bs l)
  generalize bs l = s at *
  obtain ⟨N, hN⟩ : ∃ N, l.length = N := ⟨_, rfl⟩
  rw [hN] at hsz hlen
  have HN := Lib.hid hN
  clear hN
  have hd8 : decide (8 < (N : Int)) = false := decide_eq_false (by omega)
  go_enter Tryz.func60, Tryz.ntmps60
  go_wp2_with fail
  refine (HC.out _).mono ?_
  rintro e w1 ⟨rfl, hB1⟩
  have hh : (w.alloc (.cells #[.bool false, .string s] 43)).heap[w.heap.size]? = some (.cells #[.bool false, .string s] 43) := heap_alloc_at _ _
  have HB1 := Lib.hid (show Below w.heap.size w w1 from ((Below.refl _ _).alloc (Nat.le_refl _) _).trans (hB1.mono (by simp)))
  obtain ⟨c0, c1, _⟩ := large_cells (large_kept hh hB1)
  clear hB1 hh HC
  go_wp2_with fail
  go_loop [4, 19] (fun x i => ∃ k : Nat, k ≤ N ∧ i = .int .i64 k ∧ x = .int .u64 (Pl.le (l.take k) : Nat)) (fun _ i => N - (RowKit.intOf i).toNat)
  case atStart => exact ⟨0, Nat.zero_le _, rfl, by simp [Pl.le]⟩
  case round =>
    obtain ⟨k, hk, rfl, rfl⟩ := hrel
    by_cases hlt : k < N
    · have hkl : k < l.length := by rw [HN.out]; exact hlt
      have q : k < s.size := by omega
      have ak : s[k]'q = l[k] := HAT.out.get hkl q (by omega)
      have hst := Pl.le_take_succ hkl
      have hlt2 := Pl.le_lt (l.take k)
      rw [List.length_take, Nat.min_eq_left (by omega)] at hlt2
      obtain ⟨c, hc⟩ : ∃ c, l[k] = c := ⟨_, rfl⟩
      rw [hc] at ak hst
      have hcb := c.toNat_lt
      have hor := bits_or_byte (a := Pl.le (l.take k)) (b := c.toNat) (k := k) (by omega) hlt2 (by omega)
      rw [← hst] at hor
      have HS := Lib.hid hor
      clear hst hlt2 hc hor
      generalize Pl.le (l.take k) = a0 at *
      obtain ⟨a1, ha1⟩ : ∃ a1, Pl.le (l.take (k + 1)) = a1 := ⟨_, rfl⟩
      rw [ha1] at HS
      have HA1 := Lib.hid ha1
      clear ha1
      have hor := HS.out
      rw [← IntKind.wrap_u64] at hor
      go_wp2_with fail
      go_round
      case rel => exact ⟨k + 1, by omega, by go_num, by rw [HA1.out]⟩
      case measure => simp [RowKit.intOf]; omega
    · obtain rfl : k = N := by omega
      rw [List.take_of_length_le (by rw [HN.out]; exact Nat.le_refl _), HLE.out]
      go_wp2_with fail
      go_ret2
      exact ⟨rfl, HB1.out⟩
end Go.Proofs.YtlodbibagmblkaaGreatDoor
