/- A text as a large number: the contract of Parse to base ten. The power of two of a float's first bit: the contract of Exponent. The contract of bits.Len32 at this program's numbers (the kit's shelf, laid). Plain facts of rounding a quotient of two whole numbers to a float (no program in sight). How many bits a row of words has: the contract of long. Words shifted to the right: the contract of right. A large number without a sign shifted to the right: the contract of Shift below nought. How many bits a large number has, and a small one as an integer: the contracts of Bits and Small. A large number as one of 64 bits: the contract of Small. -/
import Derived.Test.YtlodbibagmblkaaGreatDoorTaal
import Derived.Test.YtlodbibagmblkaaGreatDoorTaah
import Derived.Test.YtlodbibagmblkaaGreatDoorTaaf
import Derived.Test.YtlodbibagmblkaaGreatDoorTaab
import Derived.Test.YtlodbibagmblkaaGreatDoorTaaj
import Derived.Deep.RegionHeld3
import Derived.Test.YtlodbibagmblkaaGreatDoorTaak
namespace Go.Proofs.YtlodbibagmblkaaGreatDoor
open Go.RowKit Go.Lib
theorem conv10 : ∃ (F : World → World) (vF : World → Value), (∀ W, (convert 9 85 (.string (({ data := #[48, 49, 50, 51, 52, 53, 54, 55, 56, 57, 65, 66, 67, 68, 69, 70, 71, 72, 73, 74, 75, 76, 77, 78, 79, 80, 81, 82, 83, 84, 85, 86, 87, 88, 89, 90] } : ByteArray).extract 0 10))).run Tryz.prog W = .ok (vF W) (F W)) ∧ ∀ W, Rd1 (F W) (vF W) Pl.D10 ∧ Below W.heap.size W (F W) ∧ W.heap.size + 1 ≤ (F W).heap.size := by
  have e : ({ data := #[48, 49, 50, 51, 52, 53, 54, 55, 56, 57, 65, 66, 67, 68, 69, 70, 71, 72, 73, 74, 75, 76, 77, 78, 79, 80, 81, 82, 83, 84, 85, 86, 87, 88, 89, 90] } : ByteArray).extract 0 10 = bs Pl.D10 := by
    apply ByteArray.ext
    rw [ByteArray.data_extract]
    rfl
  rw [e]
  have key : ∀ W : World, Rd1 (bytesWorld W 5 (bs Pl.D10)) (.slice (some ⟨W.heap.size, 0, none⟩) (bs Pl.D10).size (grownCap W (bs Pl.D10).size 0 5)) Pl.D10 ∧ W.heap.size + 1 ≤ (bytesWorld W 5 (bs Pl.D10)).heap.size := by
    intro W
    have h := Owns.ofString W W.heap.size 5 (bs Pl.D10) (by decide) (Nat.le_refl _)
    have hs := h.some_of (by decide)
    obtain ⟨g, cap, hv, _, hg, _⟩ := hs
    injection hv with hv1 hv2 hv3
    injection hv1 with hv1
    injection hv1 with hv1
    rw [← hv1] at hg
    exact ⟨⟨W.heap.size, _, rfl, hg, fun j x hj => h.cellAt (bc_get hj)⟩, hg⟩
  exact ⟨fun W => bytesWorld W 5 (bs Pl.D10), fun W => .slice (some ⟨W.heap.size, 0, none⟩) (bs Pl.D10).size (grownCap W (bs Pl.D10).size 0 5), fun W => Lib.run_convert_string_bytes (P := Tryz.prog) W 9 85 5 (bs Pl.D10) Tryz.underlying9 Tryz.underlying85 Tryz.underlying5, fun W => ⟨(key W).1, bytesWorld_below W 5 (bs Pl.D10), (key W).2⟩⟩
theorem bs_tail (c : UInt8) (t : List UInt8) : (bs (c :: t)).extract 1 (t.length + 1) = bs t := by
  apply ByteArray.ext
  rw [ByteArray.data_extract]
  apply Array.toList_inj.1
  simp
/-- What Parse answers. -/
def ParseV (w : World) (l : List UInt8) (e : Ending) (w' : World) : Prop := ((∃ n, Pl.IntT 10 l n ∧ e = .returned (toldv n)) ∨ ((∀ n, ¬ Pl.IntT 10 l n) ∧ e = .returned (.tuple #[lv false [], .int .i64 93]))) ∧ Below w.heap.size w w'
set_option maxRecDepth 4000 in
set_option maxHeartbeats 4000000 in
theorem parse_err (l : List UInt8) (w : World) (hl : l.length ≤ 300000) (h : l = [] ∨ l = [45] ∨ (∃ r, l = 45 :: 48 :: r) ∨ ∃ d r, l = 48 :: d :: r) :
    Calls Tryz.prog 59 #[.string (bs l), .int .i64 10] w (ParseV w l) := by
  have hno : Hid (∀ n, ¬ Pl.IntT 10 l n) := Lib.hid (by
    rcases h with rfl | rfl | ⟨r, rfl⟩ | ⟨d, r, rfl⟩
    · exact Pl.intT_nil
    · exact Pl.intT_minus
    · exact Pl.intT_minus0 r
    · exact Pl.intT_nought d r)
  have hfin : Hid (∀ W' : World, Below w.heap.size w W' → ParseV w l (.returned (.tuple #[.agg #[.bool false, .string ⟨#[]⟩], .int .i64 93])) W') := Lib.hid (fun W' hb => ⟨.inr ⟨hno.out, rfl⟩, hb⟩)
  obtain ⟨W1, hW1⟩ : ∃ W1, w.alloc (.cells #[.bool false, .string ⟨#[]⟩] 43) = W1 := ⟨_, rfl⟩
  have P0 : Hid (P2 W1 w.heap.size 43 (.bool false) (.string ⟨#[]⟩)) := Lib.hid (by rw [← hW1]; exact P2.new _ _ _ _)
  have HB1 : Hid (Below w.heap.size w W1) := Lib.hid (by rw [← hW1]; exact (Below.refl _ _).alloc (Nat.le_refl _) _)
  obtain ⟨p0, p1, p2, p3⟩ := P0.out.cells
  have hf := P0.out.set (.bool false) (.string ⟨#[]⟩)
  obtain ⟨k0, k1, _, _⟩ := hf.cells
  have HBF := Lib.hid (below_set2 HB1.out (Nat.le_refl _) (.bool false) (.string ⟨#[]⟩))
  clear hf
  rcases h with rfl | rfl | ⟨r, rfl⟩ | ⟨d, r, rfl⟩
  · go_enter Tryz.func59, Tryz.ntmps59
    go_wp2_with fail
    all_goals exact bodyPost_ret (v := .tuple #[.agg #[.bool false, .string ⟨#[]⟩], .int .i64 93]) (by simp [results, Tryz.results59, go_sem, k0, k1]) rfl (hfin.out _ HBF.out)
  · have e1 : (bs [45]).extract 1 1 = ⟨#[]⟩ := by apply ByteArray.ext; rw [ByteArray.data_extract]; rfl
    go_enter Tryz.func59, Tryz.ntmps59
    go_wp2_with fail
    all_goals exact bodyPost_ret (v := .tuple #[.agg #[.bool false, .string ⟨#[]⟩], .int .i64 93]) (by simp [results, Tryz.results59, go_sem, k0, k1]) rfl (hfin.out _ HBF.out)
  · have hE := bs_tail 45 (48 :: r)
    have hsz : (bs (45 :: 48 :: r)).size = (48 :: r).length + 1 := rfl
    have h0 : ∀ h : 0 < (bs (45 :: 48 :: r)).size, (bs (45 :: 48 :: r))[0]'h = 45 := fun _ => rfl
    have hTs : (bs (48 :: r)).size = (48 :: r).length := rfl
    have hT0 : ∀ h : 0 < (bs (48 :: r)).size, (bs (48 :: r))[0]'h = 48 := fun _ => rfl
    have hTe : (bs (48 :: r)).toList.isEmpty = false := by rw [ByteArray.toList_eq]; rfl
    obtain ⟨N, hN⟩ : ∃ N, (48 :: r).length = N := ⟨_, rfl⟩
    have hN1 : 1 ≤ N := by rw [← hN]; simp
    rw [hN] at hE hsz hTs
    generalize bs (45 :: 48 :: r) = S at *
    generalize bs (48 :: r) = T at *
    have hq : 0 < S.size := by omega
    have hc := h0 hq
    have hq2 : 0 < T.size := by omega
    have hc2 := hT0 hq2
    have hpos : decide ((0 : Int) < (S.size : Int)) = true := decide_eq_true (by omega)
    go_enter Tryz.func59, Tryz.ntmps59
    go_wp2_with fail
    all_goals exact bodyPost_ret (v := .tuple #[.agg #[.bool false, .string ⟨#[]⟩], .int .i64 93]) (by simp [results, Tryz.results59, go_sem, k0, k1]) rfl (hfin.out _ HBF.out)
  · have hsz : (bs (48 :: d :: r)).size = r.length + 2 := rfl
    have h0 : ∀ h : 0 < (bs (48 :: d :: r)).size, (bs (48 :: d :: r))[0]'h = 48 := fun _ => rfl
    have hSe : (bs (48 :: d :: r)).toList.isEmpty = false := by rw [ByteArray.toList_eq]; rfl
    have hS48 : ((bs (48 :: d :: r)).toList == [48]) = false := by rw [ByteArray.toList_eq]; show ((48 :: d :: r : List UInt8) == [48]) = false; rw [beq_eq_false_iff_ne]; intro e; cases e
    generalize bs (48 :: d :: r) = S at *
    have hq : 0 < S.size := by omega
    have hc := h0 hq
    have hpos : decide ((0 : Int) < (S.size : Int)) = true := decide_eq_true (by omega)
    go_enter Tryz.func59, Tryz.ntmps59
    go_wp2_with fail
    all_goals exact bodyPost_ret (v := .tuple #[.agg #[.bool false, .string ⟨#[]⟩], .int .i64 93]) (by simp [results, Tryz.results59, go_sem, k0, k1]) rfl (hfin.out _ HBF.out)
theorem take_dg_succ {t : List UInt8} {k : Nat} (h : k < t.length) : Pl.valB 10 ((t.map Pl.dg).take (k + 1)) = Pl.valB 10 ((t.map Pl.dg).take k) * 10 + Pl.dg t[k] := by
  rw [Pl.valB_take_succ 10 _ (by rw [List.length_map]; exact h), List.getElem_map]
set_option maxRecDepth 4000 in
set_option maxHeartbeats 4000000 in
theorem parse_go (g : Bool) (t : List UInt8) (w : World) (hl : t.length ≤ 300000) (h0 : t ≠ []) (hh : t.head? = some 48 → t.length = 1) (hg : g = true → t.head? ≠ some 48) (hm : g = false → t.head? ≠ some 45) :
    Calls Tryz.prog 59 #[.string (bs (if g then 45 :: t else t)), .int .i64 10] w (ParseV w (if g then 45 :: t else t)) := by
  obtain ⟨V, hV⟩ : ∃ V, Pl.valB 10 (t.map Pl.dg) = V := ⟨_, rfl⟩
  have hgood : Hid ((∀ c ∈ t, c ∈ Pl.D10) → ∀ W' : World, Below w.heap.size w W' → ParseV w (if g then 45 :: t else t) (.returned (toldv (sg g V))) W') := Lib.hid (fun hd W' hb => ⟨.inl ⟨_, by rw [← hV]; exact Pl.intT_go h0 hd hh hg, rfl⟩, hb⟩)
  have hbad : Hid (∀ c ∈ t, c ∉ Pl.D10 → ∀ W' : World, Below w.heap.size w W' → ParseV w (if g then 45 :: t else t) (.returned (.tuple #[.agg #[.bool false, .string ⟨#[]⟩], .int .i64 93])) W') := Lib.hid (fun c hc hn W' hb => ⟨.inr ⟨Pl.intT_bad hc hn hm, rfl⟩, hb⟩)
  obtain ⟨tf, ts, te, htv⟩ : ∃ f s e, toldv (sg g V) = .tuple #[.agg #[.bool f, .string s], .int .i64 e] := by
    unfold toldv; split
    · exact ⟨_, _, _, rfl⟩
    · exact ⟨_, _, _, rfl⟩
  have hlong : Hid (4294967296 ^ 1024 ≤ V → toldv (sg g V) = .tuple #[.agg #[.bool false, .string ⟨#[]⟩], .int .i64 92]) := Lib.hid (fun hb => by
    unfold toldv
    rw [if_neg]
    · rfl
    · intro h
      unfold Pl.Big at h
      rw [show (sg g V).natAbs = V by unfold sg; split <;> omega] at h
      have e : (256 : Nat) ^ 4096 = 4294967296 ^ 1024 := by have := Pl.p32 1024; rwa [show 4 * 1024 = 4096 from rfl] at this
      rw [e] at h
      exact absurd h (Nat.not_lt.2 hb))
  have HTD : Hid (∀ W v, Rd W v (Pl.wd V) → (Pl.wd V).length ≤ 10000 → Calls Tryz.prog 66 #[.agg #[v, .bool g]] W (fun e w' => e = .returned (toldv (sg g V)) ∧ Below W.heap.size W w')) := Lib.hid (fun W v h1 h2 => ltold2_any v g V _ W rfl h1 h2)
  rw [htv] at HTD hgood hlong
  have HLT : Hid (∀ k, Pl.valB 10 ((t.map Pl.dg).take k) ≤ V) := Lib.hid (fun k => by rw [← hV]; exact Pl.valB_take_le (by decide) _ k)
  obtain ⟨F, vF, hconv, hF⟩ := conv10
  obtain ⟨W1, hW1⟩ : ∃ W1, w.alloc (.cells #[.bool false, .string ⟨#[]⟩] 43) = W1 := ⟨_, rfl⟩
  have P1 : Hid (P2 W1 w.heap.size 43 (.bool false) (.string ⟨#[]⟩)) := Lib.hid (by rw [← hW1]; exact P2.new _ _ _ _)
  have HB1 : Hid (Below w.heap.size w W1) := Lib.hid (by rw [← hW1]; exact (Below.refl _ _).alloc (Nat.le_refl _) _)
  have hcv := hconv W1
  obtain ⟨hR, hB2, hs2⟩ := hF W1
  generalize F W1 = W2 at *
  generalize vF W1 = vb at *
  have hs1 : w.heap.size + 1 ≤ W1.heap.size := by rw [← hW1]; simp
  have P02 := Lib.hid (P1.out.below hB2)
  have HB2 := Lib.hid (chain HB1.out hB2 (by omega))
  have HR2 := Lib.hid hR
  obtain ⟨gb, cb, rfl, hgb, hcb⟩ := hR
  obtain ⟨p0, p1, p2, p3⟩ := P02.out.cells
  clear hconv hF hB2 hgb hcb P1 HB1 F vF
  obtain ⟨c, hc⟩ : ∃ c, t.head? = some c := by
    cases t with
    | nil => exact absurd rfl h0
    | cons c t => exact ⟨c, rfl⟩
  have HAT := Lib.hid (at_bs t)
  have hTs : (bs t).size = t.length := rfl
  have hTe : (bs t).toList.isEmpty = false := by
    rw [ByteArray.toList_eq]
    cases t with
    | nil => exact absurd rfl h0
    | cons c t => rfl
  have hT0 : ∀ h : 0 < (bs t).size, (bs t)[0]'h = c := fun h => by
    cases t with
    | nil => exact absurd rfl h0
    | cons d t => simp at hc; subst hc; rfl
  have hn1 : 1 ≤ t.length := List.length_pos_iff.2 h0
  have hT48 : t = [48] → ((bs t).toList == [48]) = true := fun e => by subst e; rw [ByteArray.toList_eq]; rfl
  have hE := bs_tail 45 t
  have hsz : (bs (45 :: t)).size = t.length + 1 := rfl
  have hS0 : ∀ h : 0 < (bs (45 :: t)).size, (bs (45 :: t))[0]'h = 45 := fun _ => rfl
  obtain ⟨n, hn⟩ : ∃ n, t.length = n := ⟨_, rfl⟩
  have HN := Lib.hid hn
  rw [hn] at hTs hn1 hE hsz hl
  have e48 : g = false → c = 48 → t = [48] := fun _ e => by
    subst e
    have := hh hc
    cases t with
    | nil => exact absurd rfl h0
    | cons d t =>
      simp at hc; subst hc
      simp at this; subst this; rfl
  have hcg : g = true → c ≠ 48 := fun e e2 => hg e (by rw [hc, e2])
  have hcm : g = false → c ≠ 45 := fun e e2 => hm e (by rw [hc, e2])
  have HV := Lib.hid hV
  clear hV htv hh hg hm hc h0
  have hq2 : 0 < (bs t).size := by rw [hTs]; exact hn1
  have hc2 := hT0 hq2
  clear hT0
  cases g
  case' true =>
    simp only [if_true] at hgood hbad ⊢
    have hc48 : ((c.toNat : Int) == 48) = false := by
      rw [beq_eq_false_iff_ne]; intro e
      exact hcg rfl (UInt8.toNat_inj.1 (by rw [show (48 : UInt8).toNat = 48 from rfl]; omega))
    generalize bs (45 :: t) = S at *
    generalize bs t = T at *
    have hq : 0 < S.size := by omega
    have hcS := hS0 hq
    have hpos : decide ((0 : Int) < (S.size : Int)) = true := decide_eq_true (by omega)
    clear e48 hcg hcm hT48 hS0 hn
    go_enter Tryz.func59, Tryz.ntmps59
    go_wp2_with fail
  case' false =>
    simp only [Bool.false_eq_true, if_false] at hgood hbad ⊢
    have hc45 : ((c.toNat : Int) == 45) = false := by
      rw [beq_eq_false_iff_ne]; intro e
      exact hcm rfl (UInt8.toNat_inj.1 (by rw [show (45 : UInt8).toNat = 45 from rfl]; omega))
    have hpos : decide ((0 : Int) < ((bs t).size : Int)) = true := decide_eq_true (by omega)
    by_cases hc48 : c = 48
    case' pos =>
      have hT := hT48 (e48 rfl hc48)
      have hc48' : ((c.toNat : Int) == 48) = true := by rw [hc48]; rfl
      clear e48 hcg hcm hT48 hS0 hn hE hsz
      generalize bs t = T at *
      go_enter Tryz.func59, Tryz.ntmps59
      go_wp2_with fail
    case' neg =>
      have hc48' : ((c.toNat : Int) == 48) = false := by
        rw [beq_eq_false_iff_ne]; intro e
        exact hc48 (UInt8.toNat_inj.1 (by rw [show (48 : UInt8).toNat = 48 from rfl]; omega))
      clear e48 hcg hcm hT48 hS0 hn hE hsz
      generalize bs t = T at *
      go_enter Tryz.func59, Tryz.ntmps59
      go_wp2_with fail
  all_goals
    go_loop [49] (fun i => ∃ k : Nat, k ≤ n ∧ i = .int .i64 k ∧ Hid (∀ c ∈ t.take k, c ∈ Pl.D10)) (fun i => n - (RowKit.intOf i).toNat)
    case atStart => exact ⟨0, Nat.zero_le _, rfl, Lib.hid (by simp)⟩
    case round =>
      obtain ⟨k, hk, rfl, hall⟩ := hrel
      by_cases hlt : k < n
      · have hkl : k < t.length := by rw [HN.out]; exact hlt
        have q : k < T.size := by omega
        have ak : T[k]'q = t[k] := HAT.out.get hkl q (by omega)
        have hdm : t[k] ∈ t := List.getElem_mem hkl
        have HT := Lib.hid (show t.take (k + 1) = t.take k ++ [t[k]] from List.take_succ_eq_append_getElem hkl)
        obtain ⟨d, hd⟩ : ∃ d, t[k] = d := ⟨_, rfl⟩
        rw [hd] at ak hdm HT
        have HCN := Lib.hid (contains_any _ Pl.D10 d W2 HR2.out (by decide))
        have HDM := Lib.hid hdm
        clear hd hkl hdm
        by_cases hin : d ∈ Pl.D10
        · have HIN := Lib.hid hin
          rw [decide_eq_true hin] at HCN
          clear hin
          go_wp2_with fail
          refine HCN.out.mono ?_
          rintro e w' ⟨rfl, rfl⟩
          go_wp2_with fail
          go_round
          case rel =>
            refine ⟨k + 1, by omega, by go_num, Lib.hid (fun c hc => ?_)⟩
            rw [HT.out] at hc
            rcases List.mem_append.1 hc with hc | hc
            · exact hall.out c hc
            · rw [List.mem_singleton.1 hc]; exact HIN.out
          case measure => simp [RowKit.intOf]; omega
        · have HF := Lib.hid (hbad.out d HDM.out hin)
          rw [decide_eq_false hin] at HCN
          have hf := P02.out.set (.bool false) (.string ⟨#[]⟩)
          obtain ⟨k0, k1, _, _⟩ := hf.cells
          have HBF := Lib.hid (below_set2 HB2.out (Nat.le_refl _) (.bool false) (.string ⟨#[]⟩))
          clear hin hf
          go_wp2_with fail
          refine HCN.out.mono ?_
          rintro e w' ⟨rfl, rfl⟩
          go_wp2_with fail
          refine bodyPost_ret (v := .tuple #[.agg #[.bool false, .string ⟨#[]⟩], .int .i64 93]) (by simp [results, Tryz.results59, go_sem, k0, k1]) rfl (HF.out _ HBF.out)
      · obtain rfl : k = n := by omega
        have HD : Hid (∀ c ∈ t, c ∈ Pl.D10) := Lib.hid (by
          have := hall.out
          rwa [List.take_of_length_le (by rw [HN.out]; exact Nat.le_refl _)] at this)
        clear hall hlt hk
        go_wp2_with fail
        go_loopw [9, 62] (fun x i wr => ∃ (j : Nat) (xs : List Nat), j ≤ k ∧ i = .int .i64 j ∧ Own4 wr W2.heap.size x xs ∧ Pl.Ws xs ∧ Pl.Tr xs ∧ Hid (Pl.num xs = Pl.valB 10 ((t.map Pl.dg).take j)) ∧ xs.length ≤ 1024 ∧ Below W2.heap.size W2 wr) (fun _ i _ => k - (RowKit.intOf i).toNat)
        case atStart => exact ⟨0, [], Nat.zero_le _, rfl, own4_nil _ _, fun x hx => by simp at hx, .inl rfl, Lib.hid (by simp [Pl.num, Pl.valB]), by simp, Below.refl _ _⟩
        case round =>
          obtain ⟨j, xs, hj, rfl, hown, hws, htr, hnum, hxl, hb⟩ := hrel
          have HOW := Lib.hid hown
          have HWS := Lib.hid hws
          have HTR := Lib.hid htr
          have HB := Lib.hid hb
          obtain ⟨xa, xc, rfl⟩ := hown.form
          have P0r := Lib.hid (P02.out.under hb (by omega))
          have hbs := hb.size
          clear hown hws htr hb
          by_cases hlt : j < k
          · have hkl : j < t.length := by rw [HN.out]; exact hlt
            have q : j < T.size := by omega
            have ak : T[j]'q = t[j] := HAT.out.get hkl q (by omega)
            have hin : t[j] ∈ Pl.D10 := HD.out _ (List.getElem_mem hkl)
            have hsucc := take_dg_succ hkl
            obtain ⟨d, hd⟩ : ∃ d, t[j] = d := ⟨_, rfl⟩
            rw [hd] at ak hin hsucc
            have hq10 := (Pl.d10_iff d).1 hin
            have HIX := Lib.hid (index_any _ Pl.D10 d wr (HR2.out.below HB.out HR2.out.lt) (by decide))
            obtain ⟨q10, hq⟩ : ∃ q10, Pl.dg d = q10 := ⟨_, rfl⟩
            have HID : Hid (∀ r, Pl.IdxIs Pl.D10 d r → r = (q10 : Nat)) := Lib.hid (fun r h => by rw [← hq]; exact Pl.d10_idx h hin)
            rw [hq] at hsucc hq10
            have HST := Lib.hid (nstep_any _ xs 10 q10 W2.heap.size wr HOW.out HWS.out HTR.out (by omega) (by decide) (by decide) (by omega) hbs)
            have HSU := Lib.hid (show Pl.num xs * 10 + q10 = Pl.valB 10 ((t.map Pl.dg).take (j + 1)) by rw [hsucc, hnum.out])
            clear hd hkl hin hsucc hq
            go_wp2_with fail
            refine HIX.out.mono ?_
            rintro e w' ⟨r, rfl, hr, rfl⟩
            obtain rfl := HID.out r hr
            have hqi : ((q10 : Nat) : Int) % 4294967296 = ((q10 : Nat) : Int) := by omega
            clear hr
            go_wp2_with fail
            refine HST.out.mono ?_
            rintro e w5 ⟨v5, zs, rfl, ho5, ws5, tr5, hv5, hb5, hl5⟩
            rw [HSU.out] at hv5
            obtain ⟨za, zc, rfl⟩ := ho5.form
            have HO5 := Lib.hid ho5
            have HW5 := Lib.hid ws5
            have HT5 := Lib.hid tr5
            have HV5 := Lib.hid hv5
            have HB5 := Lib.hid (HB.out.trans hb5)
            have P05 := Lib.hid (P0r.out.under hb5 (by omega))
            by_cases hz : zs.length ≤ 1024
            · have hdz : decide ((1024 : Int) < (zs.length : Int)) = false := decide_eq_false (by omega)
              clear ho5 ws5 tr5 hv5 hb5
              go_wp2_with fail
              go_roundw
              case rel => exact ⟨j + 1, zs, by omega, by go_num, HO5.out, HW5.out, HT5.out, HV5.out, hz, HB5.out⟩
              case measure => simp [RowKit.intOf]; omega
            · have hdz : decide ((1024 : Int) < (zs.length : Int)) = true := decide_eq_true (by omega)
              have HBIG : Hid (4294967296 ^ 1024 ≤ V) := Lib.hid (by
                have h1 := Pl.tr_ge tr5 (by intro e; rw [e] at hz; simp at hz)
                have h2 := HLT.out (j + 1)
                rw [← hv5] at h2
                exact Pl.le_q (a := 1024) (Nat.le_trans h1 h2) (show 1024 ≤ zs.length - 1 by omega))
              have hf := P05.out.set (.bool false) (.string ⟨#[]⟩)
              obtain ⟨k0, k1, _, _⟩ := hf.cells
              have HBF := Lib.hid (below_set2 (HB2.out.trans (HB5.out.mono (by omega))) (Nat.le_refl _) (.bool false) (.string ⟨#[]⟩))
              obtain ⟨_, _, f0, f1⟩ := P05.out.cells
              have HFIN := Lib.hid (fun W' hb' => hlong.out HBIG.out ▸ hgood.out HD.out W' hb')
              clear ho5 ws5 tr5 hv5 hb5 hf hz HBIG hlong
              go_wp2_with fail
              refine bodyPost_ret (v := .tuple #[.agg #[.bool false, .string ⟨#[]⟩], .int .i64 92]) (by simp [results, Tryz.results59, go_sem, k0, k1]) rfl (HFIN.out _ HBF.out)
          · obtain rfl : j = k := by omega
            have hxw : xs = Pl.wd V := Pl.wd_eq HWS.out HTR.out (by
              rw [hnum.out, List.take_of_length_le (by rw [List.length_map, HN.out]; exact Nat.le_refl _)]
              exact HV.out)
            have hrd := HOW.out.rd
            have hrd2 : Rd wr (.slice xa xs.length xc) (Pl.wd V) := by rw [← hxw]; exact hrd
            have HTO := Lib.hid (HTD.out wr _ hrd2 (by rw [← hxw]; omega))
            have HFIN := Lib.hid (hgood.out HD.out)
            clear hrd hrd2 hxw hlt
            go_wp2_with fail
            refine HTO.out.mono ?_
            rintro e w6 ⟨rfl, hb6⟩
            have P06 := Lib.hid (P0r.out.below hb6)
            obtain ⟨_, _, f0, f1⟩ := P06.out.cells
            have hf := P06.out.set (.bool tf) (.string ts)
            obtain ⟨k0, k1, _, _⟩ := hf.cells
            have HBF := Lib.hid (below_set2 (chain (HB2.out.trans (HB.out.mono (by omega))) hb6 (by omega)) (Nat.le_refl _) (.bool tf) (.string ts))
            clear hf hb6
            go_wp2_with fail
            refine bodyPost_ret (v := .tuple #[.agg #[.bool tf, .string ts], .int .i64 te]) (by simp [results, Tryz.results59, go_sem, k0, k1]) rfl (HFIN.out _ HBF.out)
theorem lparse_any (l : List UInt8) (w : World) (hl : l.length ≤ 300000) : Calls Tryz.prog 59 #[.string (bs l), .int .i64 10] w (ParseV w l) := by
  cases l with
  | nil => exact parse_err [] w hl (.inl rfl)
  | cons c r =>
    by_cases hc : c = 45
    · subst hc
      cases r with
      | nil => exact parse_err [45] w hl (.inr (.inl rfl))
      | cons d r =>
        by_cases hd : d = 48
        · subst hd
          exact parse_err _ w hl (.inr (.inr (.inl ⟨r, rfl⟩)))
        · have h := parse_go true (d :: r) w (by simp at hl ⊢; omega) (by simp) (by simp [hd]) (by simp [hd]) (by simp)
          exact h
    · by_cases hc8 : c = 48
      · subst hc8
        cases r with
        | nil => exact parse_go false [48] w (by simp) (by simp) (by simp) (by simp) (by simp)
        | cons d r => exact parse_err _ w hl (.inr (.inr (.inr ⟨d, r, rfl⟩)))
      · exact parse_go false (c :: r) w hl (by simp) (by simp [hc8]) (by simp) (by simp [hc])
end Go.Proofs.YtlodbibagmblkaaGreatDoor
namespace Go.Proofs.YtlodbibagmblkaaGreatDoor
open Go.RowKit Go.Lib
theorem bits_exu (a : Nat) (ha : a < 18446744073709551616) : bits .and .u64 ((a : Int) / 4503599627370496) 2047 = ((a / 4503599627370496 % 2048 : Nat) : Int) := by
  have := bits_low (a := a / 4503599627370496) (k := 11) (by omega) (by decide)
  rw [show ((2 ^ 11 - 1 : Nat) : Int) = 2047 from rfl, show (2 : Nat) ^ 11 = 2048 from rfl] at this
  rw [← this]; simp
end Go.Proofs.YtlodbibagmblkaaGreatDoor
namespace Go.Proofs
open Go.Shelf
end Go.Proofs
namespace Go.Proofs.YtlodbibagmblkaaGreatDoor.Fl
open Ieee
/-- A quotient rounded to the nearest, ties to even. -/
def rhe (p q : Nat) : Nat := p / q + (decide (q < 2 * (p % q)) || (q == 2 * (p % q) && p / q % 2 == 1)).toNat
/-- The rung of p by q, told in units of the least float. -/
def rung (p q : Nat) : Nat := min (((p / q).log2 - 52) * 4503599627370496 + rhe p (q * 2 ^ ((p / q).log2 - 52))) 9218868437227405312
theorem rhe_cut (n d : Nat) : rhe n (2 ^ d) = cutS n d := rfl
theorem rhe_scale (p q : Nat) {c : Nat} (hc : 0 < c) : rhe (p * c) (q * c) = rhe p q := by
  unfold rhe
  rw [Nat.mul_div_mul_right _ _ hc, Nat.mul_mod_mul_right]
  generalize p % q = r
  generalize p / q = f
  have e1 : (q * c < 2 * (r * c)) ↔ q < 2 * r := by rw [← Nat.mul_assoc]; exact Nat.mul_lt_mul_right hc
  have e2 : (q * c = 2 * (r * c)) ↔ q = 2 * r := by rw [← Nat.mul_assoc]; exact ⟨fun h => Nat.eq_of_mul_eq_mul_right hc h, fun h => by rw [h]⟩
  have e3 : (q * c == 2 * (r * c)) = (q == 2 * r) := by rw [Bool.eq_iff_iff]; simp [e2]
  rw [e3]
  simp only [e1]
theorem rung_scale (p q : Nat) {c : Nat} (hc : 0 < c) : rung (p * c) (q * c) = rung p q := by
  unfold rung
  rw [Nat.mul_div_mul_right _ _ hc, Nat.mul_right_comm q c, rhe_scale _ _ hc]
theorem log2_div_pow (B y : Nat) : (B / 2 ^ y).log2 = B.log2 - y := by
  have hy : 0 < 2 ^ y := Nat.two_pow_pos y
  by_cases h : B < 2 ^ y
  · rw [Nat.div_eq_of_lt h]
    by_cases h0 : B = 0
    · subst h0; simp
    · have := (Nat.log2_lt h0).2 h
      simp; omega
  · have hB : B ≠ 0 := by omega
    have hq : B / 2 ^ y ≠ 0 := by
      have := Nat.div_pos (Nat.le_of_not_lt h) hy
      omega
    have hl : y ≤ B.log2 := (Nat.le_log2 hB).2 (Nat.le_of_not_lt h)
    have h1 := Nat.log2_self_le hB
    have h2 : B < 2 ^ (B.log2 + 1) := Nat.lt_log2_self
    obtain ⟨k, hk⟩ : ∃ k, B.log2 = k + y := ⟨B.log2 - y, by omega⟩
    rw [hk] at h1 h2 ⊢
    rw [show k + y - y = k by omega]
    refine Nat.le_antisymm ?_ ?_
    · have h3 : B / 2 ^ y < 2 ^ (k + 1) := by
        rw [Nat.div_lt_iff_lt_mul hy, ← Nat.pow_add]
        rw [show k + 1 + y = k + y + 1 by omega]; exact h2
      have := (Nat.log2_lt hq).2 h3
      omega
    · refine (Nat.le_log2 hq).2 ?_
      rw [Nat.le_div_iff_mul_le hy, ← Nat.pow_add]
      exact h1
theorem log2_between {n l : Nat} (h1 : 2 ^ l ≤ n) (h2 : n < 2 ^ (l + 1)) : n.log2 = l := by
  have h0 : n ≠ 0 := by have := Nat.two_pow_pos l; omega
  have a := (Nat.le_log2 h0).2 h1
  have b := (Nat.log2_lt h0).2 h2
  omega
/-- The nearest float of a number is that of its quotient. -/
theorem nearest_rung (s : Bool) (m : Nat) (i : Int) : D.nearest s m i = D.word s (rung (m * 2 ^ (i + 1074).toNat) (2 ^ (-(i + 1074)).toNat)) := by
  by_cases h : m = 0
  · subst h
    unfold Format.nearest rung rhe
    simp
  rw [nearest_eq s h]
  have hlog : (m * 2 ^ (i + 1074).toNat).log2 = m.log2 + (i + 1074).toNat := log2_mul_pow h _
  unfold rung
  rw [log2_div_pow, hlog, ← Nat.pow_add, rhe_cut]
  have hl : (lastOf m i + 1074).toNat = m.log2 + (i + 1074).toNat - (-(i + 1074)).toNat - 52 := by unfold lastOf; omega
  rw [← hl]
  congr 3
  have hb : -1074 ≤ lastOf m i := by unfold lastOf; omega
  generalize lastOf m i = l at hb
  rcases Int.lt_or_le i l with h1 | h1
  · have e1 : (i - l).toNat = 0 := by omega
    rw [e1, Nat.pow_zero, Nat.mul_one]
    have e2 : (-(i + 1074)).toNat + (l + 1074).toNat = (l - i).toNat + (i + 1074).toNat := by omega
    rw [e2, cutS_scale]
  · have e1 : (l - i).toNat = 0 := by omega
    have e2 : (-(i + 1074)).toNat = 0 := by omega
    have e3 : (i + 1074).toNat = (i - l).toNat + (l + 1074).toNat := by omega
    rw [e1, e2, cutS_zero, e3, Nat.pow_add, ← Nat.mul_assoc]
    have := cutS_scale (m * 2 ^ (i - l).toNat) 0 (l + 1074).toNat
    rw [this, cutS_zero]
/-- The last digit that stands for all that is left. -/
def stick (p q : Nat) : Nat := 2 * (p / q) + (p % q != 0).toNat
theorem rhe_stick (p q g : Nat) (hq : 0 < q) : rhe p (q * 2 ^ (g + 1)) = rhe (stick p q) (2 ^ (g + 2)) := by
  have hg : 0 < 2 ^ g := Nat.two_pow_pos g
  have hr : p % q < q := Nat.mod_lt _ hq
  have h1 : p / (q * 2 ^ (g + 1)) = p / q / 2 ^ (g + 1) := by rw [Nat.div_div_eq_div_mul]
  have h2 : p % (q * 2 ^ (g + 1)) = p % q + q * (p / q % 2 ^ (g + 1)) := by rw [Nat.mod_mul]
  have e2 : 2 ^ (g + 2) = 2 * 2 ^ (g + 1) := by rw [Nat.pow_succ 2 (g + 1), Nat.mul_comm]
  have e1 : 2 ^ (g + 1) = 2 * 2 ^ g := by rw [Nat.pow_succ, Nat.mul_comm]
  have hs : (p % q != 0).toNat ≤ 1 := by cases (p % q != 0) <;> simp
  have h3 : stick p q / 2 ^ (g + 2) = p / q / 2 ^ (g + 1) := by
    unfold stick
    rw [e2, ← Nat.div_div_eq_div_mul]
    congr 1
    omega
  have h4 : stick p q % 2 ^ (g + 2) = 2 * (p / q % 2 ^ (g + 1)) + (p % q != 0).toNat := by
    unfold stick
    rw [e2]
    have hm := Nat.mod_lt (p / q) (show 0 < 2 ^ (g + 1) by omega)
    have hd := Nat.div_add_mod (p / q) (2 ^ (g + 1))
    generalize p / q % 2 ^ (g + 1) = r at *
    generalize p / q / 2 ^ (g + 1) = f at *
    rw [← hd]
    generalize 2 ^ (g + 1) = C at *
    generalize (p % q != 0).toNat = t at *
    rw [show 2 * (C * f + r) + t = 2 * r + t + 2 * C * f by rw [Nat.mul_add, Nat.mul_assoc]; omega, Nat.add_mul_mod_self_left, Nat.mod_eq_of_lt (by omega)]
  unfold rhe
  rw [h1, h2, h3, h4]
  congr 2
  generalize p / q / 2 ^ (g + 1) = f
  generalize p / q % 2 ^ (g + 1) = r
  rw [e2, e1]
  generalize 2 ^ g = G at *
  have k1 : (q * (2 * G) < 2 * (p % q + q * r)) ↔ (2 * (2 * G) < 2 * (2 * r + (p % q != 0).toNat)) := by
    by_cases hz : p % q = 0
    · rw [hz]
      simp only [bne_self_eq_false, Bool.toNat_false, Nat.add_zero, Nat.zero_add]
      rw [show q * (2 * G) = q * 2 * G by rw [Nat.mul_assoc], show 2 * (q * r) = q * 2 * r by rw [← Nat.mul_assoc, Nat.mul_comm 2 q]]
      constructor
      · intro h
        have := Nat.lt_of_mul_lt_mul_left h
        omega
      · intro h
        exact Nat.mul_lt_mul_of_pos_left (by omega) (by omega)
    · rw [show (p % q != 0) = true by simpa using hz]
      simp only [Bool.toNat_true]
      constructor
      · intro h
        have h5 : q * (2 * G) < q * (2 * (r + 1)) := by
          have : q * (2 * (r + 1)) = 2 * (q + q * r) := by rw [← Nat.mul_assoc, Nat.mul_comm q 2, Nat.mul_assoc, Nat.mul_add, Nat.mul_one, Nat.add_comm q]
          omega
        have := Nat.lt_of_mul_lt_mul_left h5
        omega
      · intro h
        have h5 : q * (2 * G) ≤ q * (2 * r) := Nat.mul_le_mul_left _ (by omega)
        have : q * (2 * r) = 2 * (q * r) := by rw [← Nat.mul_assoc, Nat.mul_comm q 2, Nat.mul_assoc]
        omega
  have k2 : (q * (2 * G) = 2 * (p % q + q * r)) ↔ (2 * (2 * G) = 2 * (2 * r + (p % q != 0).toNat)) := by
    by_cases hz : p % q = 0
    · rw [hz]
      simp only [bne_self_eq_false, Bool.toNat_false, Nat.add_zero, Nat.zero_add]
      rw [show q * (2 * G) = q * 2 * G by rw [Nat.mul_assoc], show 2 * (q * r) = q * 2 * r by rw [← Nat.mul_assoc, Nat.mul_comm 2 q]]
      constructor
      · intro h
        have := Nat.eq_of_mul_eq_mul_left (by omega) h
        omega
      · intro h
        have : G = r := by omega
        rw [this]
    · rw [show (p % q != 0) = true by simpa using hz]
      simp only [Bool.toNat_true]
      constructor
      · intro h
        exfalso
        have h5 : q * G = p % q + q * r := by
          have : q * (2 * G) = 2 * (q * G) := by rw [← Nat.mul_assoc, Nat.mul_comm q 2, Nat.mul_assoc]
          omega
        have h6 : (p % q + q * r) % q = p % q := by rw [Nat.add_mul_mod_self_left, Nat.mod_mod]
        rw [← h5, Nat.mul_mod_right] at h6
        omega
      · intro h
        omega
  have k3 : (q * (2 * G) == 2 * (p % q + q * r)) = (2 * (2 * G) == 2 * (2 * r + (p % q != 0).toNat)) := by rw [Bool.eq_iff_iff]; simpa using k2
  rw [k3]
  congr 1
  exact decide_eq_decide.2 k1
/-- Enough digits and one that stands for all the others are rounded as the whole. -/
theorem rung_stick (a b x y : Nat) (hb : 0 < b) (hA : 9007199254740992 ≤ a / b) : rung (a * 2 ^ (x + 1)) (b * 2 ^ y) = rung (stick a b * 2 ^ x) (2 ^ y) := by
  have hx : 0 < 2 ^ x := Nat.two_pow_pos x
  have hA0 : a / b ≠ 0 := by omega
  have hl53 : 53 ≤ (a / b).log2 := (Nat.le_log2 hA0).2 (by simpa using hA)
  have hs : (a % b != 0).toNat ≤ 1 := by cases (a % b != 0) <;> simp
  have hN0 : stick a b ≠ 0 := by unfold stick; omega
  have p1 := Nat.log2_self_le hA0
  have p2 : a / b < 2 ^ ((a / b).log2 + 1) := Nat.lt_log2_self
  have hNl : (stick a b).log2 = (a / b).log2 + 1 := by
    refine log2_between ?_ ?_
    · rw [Nat.pow_succ]; unfold stick; omega
    · rw [Nat.pow_succ]; unfold stick; omega
  have hBl : (a * 2 ^ (x + 1) / b).log2 = (a / b).log2 + (x + 1) := by
    have hd := Nat.div_add_mod a b
    have hr := Nat.mod_lt a hb
    refine log2_between ?_ ?_
    · rw [Nat.le_div_iff_mul_le hb, Nat.pow_add]
      have : 2 ^ (a / b).log2 * b ≤ a := by
        refine Nat.le_trans (Nat.mul_le_mul_right b p1) ?_
        exact Nat.div_mul_le_self a b
      rw [Nat.mul_right_comm]
      exact Nat.mul_le_mul_right _ this
    · rw [Nat.div_lt_iff_lt_mul hb, show (a / b).log2 + (x + 1) + 1 = ((a / b).log2 + 1) + (x + 1) by omega, Nat.pow_add 2 ((a / b).log2 + 1) (x + 1), Nat.mul_right_comm]
      refine Nat.mul_lt_mul_of_pos_right ?_ (Nat.two_pow_pos _)
      exact (Nat.div_lt_iff_lt_mul hb).1 p2
  have f1 : (a * 2 ^ (x + 1) / (b * 2 ^ y)).log2 - 52 = (a / b).log2 + (x + 1) - y - 52 := by
    rw [← Nat.div_div_eq_div_mul, log2_div_pow, hBl]
  have f2 : (stick a b * 2 ^ x / 2 ^ y).log2 - 52 = (a / b).log2 + (x + 1) - y - 52 := by
    rw [log2_div_pow, log2_mul_pow hN0, hNl]; omega
  unfold rung
  rw [f1, f2]
  generalize he : (a / b).log2 + (x + 1) - y - 52 = e
  congr 2
  obtain ⟨g, hg⟩ : ∃ g, y + e = g + 1 + (x + 1) := ⟨y + e - (x + 2), by omega⟩
  rw [Nat.mul_assoc, ← Nat.pow_add, hg, Nat.pow_add 2 (g + 1) (x + 1), ← Nat.mul_assoc, rhe_scale _ _ (Nat.two_pow_pos _), rhe_stick _ _ _ hb, show 2 ^ (g + 1) * 2 ^ (x + 1) = 2 ^ (g + 2) * 2 ^ x by rw [← Nat.pow_add, ← Nat.pow_add]; congr 1; omega, rhe_scale _ _ hx]
theorem rung_le (p q : Nat) : rung p q ≤ 9218868437227405312 := Nat.min_le_right _ _
theorem rung_not_nan (s : Bool) (p q : Nat) : isNan (D.word s (rung p q)) = false := word_not_nan s (rung_le p q)
/-- A float with just this value. -/
structure Is (a : Nat) (V : Int) : Prop where
  lt : a < 18446744073709551616
  fin : a % 9223372036854775808 < 9218868437227405312
  val : val (D.read a) = V
/-- A number, told in units of the least float, that a float has. -/
def Fits (n : Nat) : Prop := ∃ m u, n = m * 2 ^ u ∧ m < 9007199254740992 ∧ u ≤ 2045
theorem Is.nan {a : Nat} {V : Int} (h : Is a V) : isNan a = false := by have := h.fin; simp [isNan]; omega
theorem rung_fits_eq {m u : Nat} (h1 : m < 9007199254740992) (h2 : 4503599627370496 ≤ m ∨ u = 0) (h3 : u ≤ 2045) : rung (m * 2 ^ u) 1 = u * 4503599627370496 + m := by
  unfold rung
  have hl : (m * 2 ^ u / 1).log2 - 52 = u := by
    rw [Nat.div_one]
    by_cases h0 : m = 0
    · have : u = 0 := by omega
      subst h0 this; decide
    · rw [log2_mul_pow h0]
      have := (Nat.log2_lt h0).2 (show m < 2 ^ 53 by simpa using h1)
      rcases h2 with h2 | h2
      · have := (Nat.le_log2 h0).2 (show 2 ^ 52 ≤ m by simpa using h2)
        omega
      · omega
  rw [hl, Nat.one_mul, rhe_cut]
  have := cutS_scale m 0 u
  rw [Nat.zero_add] at this
  rw [this, cutS_zero]
  refine Nat.min_eq_left ?_
  omega
theorem read_word (s : Bool) {m u : Nat} (h1 : m < 9007199254740992) (h2 : 4503599627370496 ≤ m ∨ u = 0) (h3 : u ≤ 2045) : D.read (D.word s (u * 4503599627370496 + m)) = .number s m (u - 1074) := by
  obtain ⟨w1, w2, w3⟩ := word_mod s (r := u * 4503599627370496 + m) (by omega)
  rw [read_eq, w1, w2]
  by_cases h4 : u * 4503599627370496 + m < 4503599627370496
  · have : u = 0 := by omega
    subst this
    rw [if_pos h4]
    simp
  · have h5 : 4503599627370496 ≤ m := by rcases h2 with h2 | h2 <;> omega
    rw [if_neg h4, if_pos (by omega)]
    have e1 : (u * 4503599627370496 + m) / 4503599627370496 = u + 1 := by omega
    have e2 : (u * 4503599627370496 + m) % 4503599627370496 = m - 4503599627370496 := by omega
    have e3 : 4503599627370496 + (m - 4503599627370496) = m := by omega
    have e4 : (-1074 : Int) + ((u + 1 - 1 : Nat) : Int) = (u : Int) - 1074 := by omega
    rw [e1, e2, e3, e4]
theorem full_of {m u : Nat} (h1 : m < 9007199254740992) (h3 : u ≤ 2045) : ∃ M U, M * 2 ^ U = m * 2 ^ u ∧ M < 9007199254740992 ∧ (4503599627370496 ≤ M ∨ U = 0) ∧ U ≤ 2045 := by
  by_cases h0 : m = 0
  · exact ⟨0, 0, by simp [h0], by omega, .inr rfl, by omega⟩
  have hl := (Nat.log2_lt h0).2 (show m < 2 ^ 53 by simpa using h1)
  have p1 := Nat.log2_self_le h0
  have p2 : m < 2 ^ (m.log2 + 1) := Nat.lt_log2_self
  rcases Nat.lt_or_ge u (52 - m.log2) with h | h
  · refine ⟨m * 2 ^ u, 0, by simp, ?_, .inr rfl, by omega⟩
    have : m * 2 ^ u < 2 ^ (m.log2 + 1) * 2 ^ u := Nat.mul_lt_mul_of_pos_right p2 (Nat.two_pow_pos u)
    rw [← Nat.pow_add] at this
    have h4 : 2 ^ (m.log2 + 1 + u) ≤ 2 ^ 53 := Nat.pow_le_pow_right (by omega) (by omega)
    have h5 : (2 : Nat) ^ 53 = 9007199254740992 := by decide
    omega
  · obtain ⟨k, hk⟩ : ∃ k, m.log2 + k = 52 := ⟨52 - m.log2, by omega⟩
    refine ⟨m * 2 ^ k, u - k, ?_, ?_, .inl ?_, by omega⟩
    · rw [Nat.mul_assoc, ← Nat.pow_add]; congr 2; omega
    · have : m * 2 ^ k < 2 ^ (m.log2 + 1) * 2 ^ k := Nat.mul_lt_mul_of_pos_right p2 (Nat.two_pow_pos k)
      rw [← Nat.pow_add, show m.log2 + 1 + k = 53 by omega] at this
      simpa using this
    · have : 2 ^ m.log2 * 2 ^ k ≤ m * 2 ^ k := Nat.mul_le_mul_right _ p1
      rw [← Nat.pow_add, hk] at this
      simpa using this
/-- A number that fits is rounded to itself. -/
theorem is_rung (s : Bool) {n p q : Nat} (hq : 0 < q) (hp : p = n * q) (h : Fits n) : Is (D.word s (rung p q)) (if s then -(n : Int) else n) := by
  obtain ⟨m, u, rfl, h1, h2⟩ := h
  obtain ⟨M, U, e, k1, k2, k3⟩ := full_of h1 h2
  have hr : rung p q = U * 4503599627370496 + M := by
    rw [hp, ← e]
    have := rung_scale (M * 2 ^ U) 1 hq
    rw [Nat.one_mul] at this
    rw [this]
    exact rung_fits_eq k1 k2 k3
  rw [hr]
  obtain ⟨w1, w2, w3⟩ := word_mod s (r := U * 4503599627370496 + M) (by omega)
  refine ⟨w3, by rw [w1]; omega, ?_⟩
  rw [read_word s k1 k2 k3]
  simp only [val, signed]
  rw [show ((U : Int) - 1074 + 1074).toNat = U by omega, Nat.shiftLeft_eq, e]
end Go.Proofs.YtlodbibagmblkaaGreatDoor.Fl
namespace Go.Proofs.YtlodbibagmblkaaGreatDoor
open Go.RowKit Go.Lib
namespace Pl
/-- How many bits a number has. -/
def nb (n : Nat) : Nat := if n = 0 then 0 else n.log2 + 1
end Pl
end Go.Proofs.YtlodbibagmblkaaGreatDoor
namespace Go.Proofs.YtlodbibagmblkaaGreatDoor
open Go.RowKit Go.Lib
namespace Pl
end Pl
end Go.Proofs.YtlodbibagmblkaaGreatDoor
namespace Go.Proofs.YtlodbibagmblkaaGreatDoor
open Go.RowKit Go.Lib
end Go.Proofs.YtlodbibagmblkaaGreatDoor
namespace Go.Proofs.YtlodbibagmblkaaGreatDoor
open Go.RowKit Go.Lib
theorem Pl.le_take_succ {l : List UInt8} {i : Nat} (h : i < l.length) : Pl.le (l.take (i + 1)) = Pl.le (l.take i) + 256 ^ i * l[i].toNat := by
  rw [List.take_succ_eq_append_getElem h, Pl.le_snoc, List.length_take, Nat.min_eq_left (by omega)]
theorem bits_or_byte {a b k : Nat} (hk : k < 8) (ha : a < 256 ^ k) (hb : b < 256) : bits .or .u64 (a : Int) ((b : Int) * 2 ^ (8 * k) % 18446744073709551616) = ((a + 256 ^ k * b : Nat) : Int) := by
  have hp : (2 : Nat) ^ (8 * k) = 256 ^ k := by rw [Nat.pow_mul]
  have h7 : 256 ^ k ≤ 256 ^ 7 := Nat.pow_le_pow_right (by decide) (by omega)
  have h77 : (256 : Nat) ^ 7 = 72057594037927936 := by decide
  have hm : 256 ^ k * b ≤ 256 ^ 7 * 255 := Nat.mul_le_mul h7 (by omega)
  have e1 : (b : Int) * 2 ^ (8 * k) % 18446744073709551616 = ((256 ^ k * b : Nat) : Int) := by
    have : (b : Int) * 2 ^ (8 * k) = ((256 ^ k * b : Nat) : Int) := by rw [← hp, Int.natCast_mul, Int.natCast_pow, Int.mul_comm]; rfl
    rw [this]; omega
  have h64 : (2 : Nat) ^ IntKind.u64.bits = 18446744073709551616 := rfl
  have hw : ∀ n : Nat, n < 18446744073709551616 → IntKind.u64.wrap (n : Int) = n := fun n hn => by rw [IntKind.wrap_u64]; omega
  have hor : a ||| 256 ^ k * b = a + 256 ^ k * b := by
    have := Nat.two_pow_add_eq_or_of_lt (i := 8 * k) (b := a) (by rw [hp]; exact ha) b
    rw [hp] at this
    rw [Nat.or_comm, ← this, Nat.add_comm]
  rw [e1]
  simp only [bits, BitVec.ofInt_natCast, BitVec.toNat_or, BitVec.toNat_ofNat, h64]
  rw [Nat.mod_eq_of_lt (show a < 18446744073709551616 by omega), Nat.mod_eq_of_lt (show 256 ^ k * b < 18446744073709551616 by omega), hor, hw _ (by omega)]
end Go.Proofs.YtlodbibagmblkaaGreatDoor
namespace Go.Proofs.YtlodbibagmblkaaGreatDoor
open Go.RowKit Go.Lib
def In64 (n : Int) : Prop := -9223372036854775808 ≤ n ∧ n ≤ 9223372036854775807
instance (n : Int) : Decidable (In64 n) := by unfold In64; infer_instance
def smallv (n : Int) : Value := if In64 n then .tuple #[.int .i64 n, .bool true] else .tuple #[.int .i64 0, .bool false]
set_option maxRecDepth 4000 in
set_option maxHeartbeats 2000000 in
theorem lsmall_any (n : Int) (w : World) (hn : Pl.Big n) :
    Calls Tryz.prog 60 #[lof n] w fun e w' => e = .returned (smallv n) ∧ Below w.heap.size w w' := by
  have HC := Lib.hid (fun W => lcheck_any2 n W hn)
  obtain ⟨ng, hng⟩ : ∃ ng, decide (n < 0) = ng := ⟨_, rfl⟩
  have ha : lof n = .agg #[.bool ng, .string (bs (Pl.dgs n.natAbs))] := by unfold lof lv; rw [hng]
  rw [ha] at HC ⊢
  clear ha
  obtain ⟨l, hl⟩ : ∃ l, Pl.dgs n.natAbs = l := ⟨_, rfl⟩
  have hle : Pl.le l = n.natAbs := by rw [← hl, Pl.le_dgs]
  have hlt := Pl.le_lt l
  have hlong : 8 < l.length → 18446744073709551616 ≤ n.natAbs := fun h => by
    have h1 := Pl.canon_ge (Pl.canon_dgs n.natAbs) (by rw [hl]; intro e; rw [e] at h; simp at h)
    rw [hl, hle] at h1
    refine Nat.le_trans ?_ h1
    rw [show (18446744073709551616 : Nat) = 256 ^ 8 from rfl]
    exact Nat.pow_le_pow_right (by decide) (by omega)
  rw [hl] at HC ⊢
  clear hl
  have hsz : (bs l).size = l.length := rfl
  have HAT := Lib.hid (at_bs l)
  generalize bs l = s at *
  obtain ⟨N, hN⟩ : ∃ N, l.length = N := ⟨_, rfl⟩
  have HN := Lib.hid hN
  rw [hN] at hsz hlong hlt
  clear hN
  obtain ⟨W1, hW1⟩ : ∃ W1, w.alloc (.cells #[.bool ng, .string s] 43) = W1 := ⟨_, rfl⟩
  have P0 : Hid (P2 W1 w.heap.size 43 (.bool ng) (.string s)) := Lib.hid (by rw [← hW1]; exact P2.new _ _ _ _)
  have HB1 : Hid (Below w.heap.size w W1) := Lib.hid (by rw [← hW1]; exact (Below.refl _ _).alloc (Nat.le_refl _) _)
  have hs1 : w.heap.size + 1 ≤ W1.heap.size := by rw [← hW1]; simp
  obtain ⟨p0, p1, _, _⟩ := P0.out.cells
  rcases Nat.lt_or_ge 8 N with h8 | h8
  · have hb := hlong h8
    have HV : Hid (smallv n = .tuple #[.int .i64 0, .bool false]) := Lib.hid (by
      unfold smallv
      rw [if_neg]
      unfold In64
      omega)
    have hd8 : decide (8 < (N : Int)) = true := decide_eq_true (by omega)
    clear hb hlong hlt hle
    go_enter Tryz.func60, Tryz.ntmps60
    go_wp2_with fail
    refine (HC.out _).mono ?_
    rintro e w1 ⟨rfl, hb1⟩
    have P01 := Lib.hid (P0.out.below hb1)
    have HB2 := Lib.hid (chain HB1.out hb1 (by omega))
    clear p0 p1 hb1
    obtain ⟨p0, p1, _, _⟩ := P01.out.cells
    go_wp2_with fail
    go_ret2
    exact ⟨by rw [HV.out]; rfl, HB2.out⟩
  · have hd8 : decide (8 < (N : Int)) = false := decide_eq_false (by omega)
    have hVb : n.natAbs < 18446744073709551616 := by
      rw [← hle]
      refine Nat.lt_of_lt_of_le hlt ?_
      rw [show (18446744073709551616 : Nat) = 256 ^ 8 from rfl]
      exact Nat.pow_le_pow_right (by decide) h8
    have HLE := Lib.hid hle
    clear hlong hlt hle
    go_enter Tryz.func60, Tryz.ntmps60
    go_wp2_with fail
    refine (HC.out _).mono ?_
    rintro e w1 ⟨rfl, hb1⟩
    have P01 := Lib.hid (P0.out.below hb1)
    have HB2 := Lib.hid (chain HB1.out hb1 (by omega))
    clear p0 p1 hb1
    obtain ⟨c0, c1, _, _⟩ := P01.out.cells
    go_wp2_with fail
    go_loop [4, 19] (fun x i => ∃ k : Nat, k ≤ N ∧ i = .int .i64 k ∧ x = .int .u64 (Pl.le (l.take k) : Nat)) (fun _ i => N - (RowKit.intOf i).toNat)
    case atStart => exact ⟨0, Nat.zero_le _, rfl, by simp [Pl.le]⟩
    case round =>
      obtain ⟨k, hk, rfl, rfl⟩ := hrel
      by_cases hlt : k < N
      · have hkl : k < l.length := by rw [HN.out]; exact hlt
        have q : k < s.size := by omega
        have ak : s[k]'q = l[k] := HAT.out.get hkl q (by omega)
        have hst := Pl.le_take_succ hkl
        have hlt2 := Pl.le_lt (l.take k)
        rw [List.length_take, Nat.min_eq_left (by omega)] at hlt2
        obtain ⟨c, hc⟩ : ∃ c, l[k] = c := ⟨_, rfl⟩
        rw [hc] at ak hst
        have hcb := c.toNat_lt
        have hor := bits_or_byte (a := Pl.le (l.take k)) (b := c.toNat) (k := k) (by omega) hlt2 (by omega)
        rw [← hst] at hor
        have HS := Lib.hid hor
        clear hst hlt2 hc hor
        generalize Pl.le (l.take k) = a0 at *
        obtain ⟨a1, ha1⟩ : ∃ a1, Pl.le (l.take (k + 1)) = a1 := ⟨_, rfl⟩
        rw [ha1] at HS
        have HA1 := Lib.hid ha1
        clear ha1
        have hor := HS.out
        rw [← IntKind.wrap_u64] at hor
        go_wp2_with fail
        go_round
        case rel => exact ⟨k + 1, by omega, by go_num, by rw [HA1.out]⟩
        case measure => simp [RowKit.intOf]; omega
      · obtain rfl : k = N := by omega
        rw [List.take_of_length_le (by rw [HN.out]; exact Nat.le_refl _), HLE.out]
        obtain ⟨V, hV⟩ : ∃ V, n.natAbs = V := ⟨_, rfl⟩
        rw [hV] at hVb ⊢
        cases ng
        · have hn0 := of_decide_eq_false hng
          rcases Nat.lt_or_ge V 9223372036854775808 with hv | hv
          · have HV : Hid (smallv n = .tuple #[.int .i64 V, .bool true]) := Lib.hid (by
              unfold smallv; rw [if_pos (by unfold In64; omega), show n = (V : Int) by omega])
            have hw : IntKind.i64.wrap (V : Int) = V := IntWalk.i64_in _ (by omega)
            have hd : decide ((V : Int) < 0) = false := decide_eq_false (by omega)
            go_wp2_with fail
            go_ret2
            exact ⟨by rw [HV.out]; rfl, HB2.out⟩
          · have HV : Hid (smallv n = .tuple #[.int .i64 0, .bool false]) := Lib.hid (by
              unfold smallv; rw [if_neg (by unfold In64; omega)])
            have hw : IntKind.i64.wrap (V : Int) = (V : Int) - 18446744073709551616 := by rw [IntKind.wrap_i64]; omega
            have hd : decide ((V : Int) - 18446744073709551616 < 0) = true := decide_eq_true (by omega)
            go_wp2_with fail
            go_ret2
            exact ⟨by rw [HV.out]; rfl, HB2.out⟩
        · have hn0 := of_decide_eq_true hng
          rcases Nat.lt_or_ge V 9223372036854775808 with hv | hv
          · have HV : Hid (smallv n = .tuple #[.int .i64 (-(V : Int)), .bool true]) := Lib.hid (by
              unfold smallv; rw [if_pos (by unfold In64; omega), show n = -(V : Int) by omega])
            have hw : IntKind.i64.wrap (V : Int) = V := IntWalk.i64_in _ (by omega)
            have hw2 : IntKind.i64.wrap (-(V : Int)) = -(V : Int) := IntWalk.i64_in _ (by omega)
            have hd : decide (-(V : Int) < 0) = true := decide_eq_true (by omega)
            have hd2 : 0 < V := by omega
            go_wp2_with fail
            go_ret2
            exact ⟨by rw [HV.out]; rfl, HB2.out⟩
          · rcases Nat.eq_or_lt_of_le hv with hv2 | hv2
            · have HV : Hid (smallv n = .tuple #[.int .i64 (-(V : Int)), .bool true]) := Lib.hid (by
                unfold smallv; rw [if_pos (by unfold In64; omega), show n = -(V : Int) by omega])
              have hw : IntKind.i64.wrap (V : Int) = (V : Int) - 18446744073709551616 := by rw [IntKind.wrap_i64]; omega
              have hw2 : IntKind.i64.wrap (-((V : Int) - 18446744073709551616)) = -(V : Int) := by rw [IntKind.wrap_i64]; omega
              have hd : decide (-(V : Int) < 0) = true := decide_eq_true (by omega)
              have hd2 : 0 < V := by omega
              clear hv2 hv hVb
              go_wp2_with fail
              go_ret2
              exact ⟨by rw [HV.out]; rfl, HB2.out⟩
            · have HV : Hid (smallv n = .tuple #[.int .i64 0, .bool false]) := Lib.hid (by
                unfold smallv; rw [if_neg (by unfold In64; omega)])
              have hw : IntKind.i64.wrap (V : Int) = (V : Int) - 18446744073709551616 := by rw [IntKind.wrap_i64]; omega
              have hw2 : IntKind.i64.wrap (-((V : Int) - 18446744073709551616)) = 18446744073709551616 - (V : Int) := by rw [IntKind.wrap_i64]; omega
              have hd : decide (18446744073709551616 - (V : Int) < 0) = false := decide_eq_false (by omega)
              go_wp2_with fail
              go_ret2
              exact ⟨by rw [HV.out]; rfl, HB2.out⟩
end Go.Proofs.YtlodbibagmblkaaGreatDoor
