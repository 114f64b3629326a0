/- The small functions of unrounded numbers; prescale. Plain facts on unrounded scaling by the table of powers of ten; the contracts of prescale and uscale by that table. What the package-level variables hold, in one bundle. -/
import Derived.Test.YtpilniljhmkedaaGreatDoorRaab
import GoSem.PinnedTables
import Derived.Lib.SmallJoins
namespace Go.Proofs.YtpilniljhmkedaaGreatDoor
open Go.RowKit
theorem skewed_any (x : Int) (w : World) (h1 : -3000 ≤ x) (h2 : x ≤ 3000) : Calls Tryz.prog 146 #[.int .i64 x] w fun e w' => e = .returned (.int .i64 ((x * 631305 - 261663) / 2097152)) ∧ w = w' := by
  go_enter Tryz.func146, Tryz.ntmps146
  go_wp2
  go_ret
  exact ⟨rfl, rfl⟩
theorem log10Pow2_any (x : Int) (w : World) (h1 : -3000 ≤ x) (h2 : x ≤ 3000) : Calls Tryz.prog 111 #[.int .i64 x] w fun e w' => e = .returned (.int .i64 (x * 78913 / 262144)) ∧ w = w' := by
  go_enter Tryz.func111, Tryz.ntmps111
  go_wp2
  go_ret
  exact ⟨rfl, rfl⟩
theorem ceil_any (u : Nat) (w : World) (h : u < 18446744073709551600) : Calls Tryz.prog 151 #[.int .u64 u] w fun e w' => e = .returned (.int .u64 ((u + 3) / 4 : Nat)) ∧ w = w' := by
  go_enter Tryz.func151, Tryz.ntmps151
  go_wp2
  go_ret
  exact ⟨ret_int (by simp), rfl⟩
theorem floor_any (u : Nat) (w : World) (h : u < 18446744073709551600) : Calls Tryz.prog 152 #[.int .u64 u] w fun e w' => e = .returned (.int .u64 (u / 4 : Nat)) ∧ w = w' := by
  go_enter Tryz.func152, Tryz.ntmps152
  go_wp2
  go_ret
  exact ⟨ret_int (by simp), rfl⟩
theorem bits_and1 {a : Nat} (ha : a < 18446744073709551616) : bits .and .u64 (a : Int) 1 = ((a % 2 : Nat) : Int) := by
  have h64 : (2 : Nat) ^ IntKind.u64.bits = 18446744073709551616 := rfl
  have e : (1 : Int) = ((1 : Nat) : Int) := rfl
  rw [e]
  simp only [bits, BitVec.ofInt_natCast, BitVec.toNat_and, BitVec.toNat_ofNat, h64]
  rw [Nat.mod_eq_of_lt ha, Nat.mod_eq_of_lt (show 1 < 18446744073709551616 by decide), Nat.and_one_is_mod, wrap_nat (by omega)]
theorem round_any (u : Nat) (w : World) (h : u < 18446744073709551600) : Calls Tryz.prog 153 #[.int .u64 u] w fun e w' => e = .returned (.int .u64 ((u + 1 + u / 4 % 2) / 4 : Nat)) ∧ w = w' := by
  have hand : bits .and .u64 ((u : Int) / 4) 1 = ((u / 4 % 2 : Nat) : Int) := bits_and1 (show u / 4 < 18446744073709551616 by omega)
  generalize hd : u / 4 % 2 = d at hand ⊢
  have hd2 : d < 2 := by omega
  clear hd
  go_enter Tryz.func153, Tryz.ntmps153
  go_wp2
  go_ret
  exact ⟨ret_int (by simp), rfl⟩
theorem nudge_any (u r : Nat) (d : Int) (w : World) (h : u < 18446744073709551600) (hd : d = -1 ∨ d = 0 ∨ d = 1) (hr : (u : Int) + d = r) : Calls Tryz.prog 150 #[.int .u64 u, .int .i64 d] w fun e w' => e = .returned (.int .u64 r) ∧ w = w' := by
  have HR := Lib.hid hr
  rcases hd with rfl | rfl | rfl
  · have hu : 1 ≤ u := by omega
    have hw : IntKind.u64.wrap ((u : Int) + 18446744073709551615) = (r : Int) := by rw [IntKind.wrap_u64]; omega
    clear hr
    go_enter Tryz.func150, Tryz.ntmps150
    go_wp2
    go_ret
    exact ⟨ret_int hw, rfl⟩
  · clear hr
    go_enter Tryz.func150, Tryz.ntmps150
    go_wp2
    go_ret
    exact ⟨ret_int (by have := HR.out; omega), rfl⟩
  · clear hr
    go_enter Tryz.func150, Tryz.ntmps150
    go_wp2
    go_ret
    exact ⟨ret_int (by have := HR.out; omega), rfl⟩
theorem prescale_any (e p lp : Int) (b hi lo : Nat) (w : World) (he : -2000 ≤ e ∧ e ≤ 2000) (hp : -348 ≤ p ∧ p ≤ 347) (hl : -2000 ≤ lp ∧ lp ≤ 2000)
    (t0 : w.cell? ⟨13, (p + 348).toNat * 2, none⟩ = some (.int .u64 hi)) (t1 : w.cell? ⟨13, (p + 348).toNat * 2 + 1, none⟩ = some (.int .u64 lo))
    {v0 v1 v2 : Value} (c0 : w.cell? ⟨b, 0, none⟩ = some v0) (c1 : w.cell? ⟨b, 1, none⟩ = some v1) (c2 : w.cell? ⟨b, 2, none⟩ = some v2)
    (f0 : w.frozen? ⟨b, 0, none⟩ = false) (f1 : w.frozen? ⟨b, 1, none⟩ = false) (f2 : w.frozen? ⟨b, 2, none⟩ = false) (_hb : b ≠ 13) :
    Calls Tryz.prog 147 #[.pointer (some ⟨b, 0, none⟩), .int .i64 e, .int .i64 p, .int .i64 lp] w fun en w' => en = .returned (.tuple #[]) ∧ w' = ((w.setCell ⟨b, 0, none⟩ (.int .u64 hi)).setCell ⟨b, 1, none⟩ (.int .u64 lo)).setCell ⟨b, 2, none⟩ (.int .i64 (-(e + lp + 3))) := by
  go_enter Tryz.func147, Tryz.ntmps147
  go_wp2
  exact bodyPost_end (v := .tuple #[]) (by simp [results, Tryz.results147, go_sem]) rfl ⟨rfl, rfl⟩
end Go.Proofs.YtpilniljhmkedaaGreatDoor
namespace Go.Proofs.YtpilniljhmkedaaGreatDoor
open Go.RowKit
namespace Pl
def pw (p : Int) : Nat × Nat := (Pinned.pow10Rows[(p + 348).toNat]?).getD (0, 0)
def sh (e p : Int) : Nat := (-(e + p * 108853 / 32768 + 3)).toNat
/-- The number x times 2 to the e times 10 to the p, unrounded. -/
def scal (x : Nat) (e p : Int) : Nat := uscale x (pw p).1 (pw p).2 (sh e p)
theorem rows_ok : (Pinned.pow10Rows.length == 696 && Pinned.pow10Rows.all fun x => decide (9223372036854775808 ≤ x.1 ∧ x.1 < 18446744073709551616 ∧ x.2 < 18446744073709551616)) = true := by decide +kernel
theorem rows_len : Pinned.pow10Rows.length = 696 := by
  have := rows_ok; simp only [Bool.and_eq_true, beq_iff_eq] at this; exact this.1
theorem pw_some {p : Int} (h1 : -348 ≤ p) (h2 : p ≤ 347) : Pinned.pow10Rows[(p + 348).toNat]? = some (pw p) := by
  unfold pw
  have hl : (p + 348).toNat < Pinned.pow10Rows.length := by rw [rows_len]; omega
  rw [List.getElem?_eq_getElem hl]; rfl
theorem pw_ok {p : Int} (h1 : -348 ≤ p) (h2 : p ≤ 347) : 9223372036854775808 ≤ (pw p).1 ∧ (pw p).1 < 18446744073709551616 ∧ (pw p).2 < 18446744073709551616 := by
  have h := rows_ok
  simp only [Bool.and_eq_true, List.all_eq_true, decide_eq_true_eq] at h
  exact h.2 _ (List.mem_of_getElem? (pw_some h1 h2))
theorem uscale_lt {x hi lo s : Nat} (hs : 1 ≤ s) (hx : x < 18446744073709551616) (hhi : hi < 18446744073709551616) : uscale x hi lo s < 9223372036854775808 := by
  have hh : x * hi / 18446744073709551616 < 18446744073709551616 := Nat.div_lt_of_lt_mul (Nat.mul_lt_mul_of_lt_of_lt hx hhi)
  have key : ∀ a : Nat, a < 18446744073709551616 → a / 2 ^ s < 2 ^ 63 := by
    intro a ha
    have : 2 ≤ 2 ^ s := by
      have := Nat.pow_le_pow_right (show 0 < 2 by decide) hs
      simpa using this
    exact Nat.lt_of_le_of_lt (Nat.div_le_div_left this (by decide)) (by omega)
  have e63 : (9223372036854775808 : Nat) = 2 ^ 63 := by decide
  unfold uscale
  rw [e63]
  split
  · refine Nat.or_lt_two_pow (key _ (Nat.mod_lt _ (by decide))) ?_
    split <;> decide
  · exact Nat.or_lt_two_pow (key _ hh) (by decide)
theorem uscale_ge {x hi lo s : Nat} (hs : s ≤ 58) (hx : 4611686018427387904 ≤ x) (hx2 : x < 18446744073709551616) (hhi : 9223372036854775808 ≤ hi) (hhi2 : hi < 18446744073709551616) : 2 ≤ uscale x hi lo s := by
  have hh : x * hi / 18446744073709551616 < 18446744073709551616 := Nat.div_lt_of_lt_mul (Nat.mul_lt_mul_of_lt_of_lt hx2 hhi2)
  have hl : 4611686018427387904 * 9223372036854775808 ≤ x * hi := Nat.mul_le_mul hx hhi
  have hg : 2305843009213693952 ≤ x * hi / 18446744073709551616 := by
    rw [Nat.le_div_iff_mul_le (by decide)]; exact Nat.le_trans (by decide) hl
  have hp : 2 ^ s ≤ 288230376151711744 := by
    have := Nat.pow_le_pow_right (show 0 < 2 by decide) hs
    exact Nat.le_trans this (by decide)
  have hp0 : 0 < 2 ^ s := Nat.pow_pos (by decide)
  have key : ∀ a : Nat, 2305843009213693951 ≤ a → 2 ≤ a / 2 ^ s := by
    intro a ha
    rw [Nat.le_div_iff_mul_le hp0]; omega
  unfold uscale
  generalize x * hi / 18446744073709551616 = h at hh hg ⊢
  generalize x * hi % 18446744073709551616 = g
  generalize x * lo / 18446744073709551616 = k
  split
  · refine Nat.le_trans (key _ ?_) Nat.left_le_or
    split <;> omega
  · exact Nat.le_trans (key _ (by omega)) Nat.left_le_or
theorem scal_lt {x : Nat} {e p : Int} (h1 : -348 ≤ p) (h2 : p ≤ 347) (hs : 1 ≤ sh e p) (hx : x < 18446744073709551616) : scal x e p < 9223372036854775808 := uscale_lt hs hx (pw_ok h1 h2).2.1
theorem scal_ge {x : Nat} {e p : Int} (h1 : -348 ≤ p) (h2 : p ≤ 347) (hs : sh e p ≤ 58) (hx : 4611686018427387904 ≤ x) (hx2 : x < 18446744073709551616) : 2 ≤ scal x e p := uscale_ge hs hx hx2 (pw_ok h1 h2).1 (pw_ok h1 h2).2.1
/-- The tail of shortFloat: what is answered of the two bounds. -/
def sfTail (m mn mx odd : Nat) (e p : Int) : Nat × Int :=
  if (scal mn e p + odd + 3) / 4 ≤ (scal mx e p - odd) / 4 / 10 * 10 then ((scal mx e p - odd) / 4 / 10, -(p - 1))
  else if (scal mn e p + odd + 3) / 4 < (scal mx e p - odd) / 4 then ((scal m e p + 1 + scal m e p / 4 % 2) / 4, -p)
  else ((scal mn e p + odd + 3) / 4, -p)
def shortF (m : Nat) (e : Int) : Nat × Int :=
  if m = 9223372036854775808 ∧ -1085 < e then sfTail m (m - 512) (m + 1024) (m / 2048 % 2) e (-(((e + 11) * 631305 - 261663) / 2097152))
  else if -1085 ≤ e then sfTail m (m - 1024) (m + 1024) (m / 2048 % 2) e (-((e + 11) * 78913 / 262144))
  else sfTail m (m - 2 ^ (-1075 - e).toNat) (m + 2 ^ (-1075 - e).toNat) (m / 2 ^ (-1074 - e).toNat % 2) e 324
end Pl
/-- The table of powers of ten lies in memory. -/
def Tab (w : World) : Prop := ∀ (i hi lo : Nat), Pinned.pow10Rows[i]? = some (hi, lo) → w.cell? ⟨13, i * 2, none⟩ = some (.int .u64 hi) ∧ w.cell? ⟨13, i * 2 + 1, none⟩ = some (.int .u64 lo)
theorem Tab.at {w : World} (h : Tab w) {p : Int} (h1 : -348 ≤ p) (h2 : p ≤ 347) : w.cell? ⟨13, (p + 348).toNat * 2, none⟩ = some (.int .u64 (Pl.pw p).1) ∧ w.cell? ⟨13, (p + 348).toNat * 2 + 1, none⟩ = some (.int .u64 (Pl.pw p).2) := h _ _ _ (Pl.pw_some h1 h2)
theorem Tab.below {w w' : World} {B : Nat} (h : Tab w) (hb : Below B w w') (hB : 13 < B) : Tab w' := by
  intro i hi lo hr
  obtain ⟨a, b⟩ := h i hi lo hr
  exact ⟨by rw [hb.cell (p := ⟨13, i * 2, none⟩) hB]; exact a, by rw [hb.cell (p := ⟨13, i * 2 + 1, none⟩) hB]; exact b⟩
/-- A scaler lies in block b. -/
def Scaler (w : World) (b : Nat) (e p : Int) : Prop := w.cell? ⟨b, 0, none⟩ = some (.int .u64 (Pl.pw p).1) ∧ w.cell? ⟨b, 1, none⟩ = some (.int .u64 (Pl.pw p).2) ∧ w.cell? ⟨b, 2, none⟩ = some (.int .i64 (-(e + p * 108853 / 32768 + 3)))
theorem Scaler.drewN {w : World} {b : Nat} {e p : Int} (h : Scaler w b e p) (n : Nat) : Scaler (w.drewN n) b e p := by
  unfold Scaler at h ⊢; simpa using h
theorem prescale_tab (e p : Int) (b : Nat) (w : World) (he : -2000 ≤ e ∧ e ≤ 2000) (hp : -348 ≤ p ∧ p ≤ 347) (ht : Tab w)
    {v0 v1 v2 : Value} {T : TypeId} (c : w.heap[b]? = some (.cells #[v0, v1, v2] T (0, 0))) (hb : 13 < b) :
    Calls Tryz.prog 147 #[.pointer (some ⟨b, 0, none⟩), .int .i64 e, .int .i64 p, .int .i64 (p * 108853 / 32768)] w fun en w' => en = .returned (.tuple #[]) ∧ Scaler w' b e p ∧ Below b w w' ∧ w'.heap.size = w.heap.size := by
  have t := ht.at hp.1 hp.2
  have c0 : w.cell? ⟨b, 0, none⟩ = some v0 := by simp [World.cell?, c]
  have c1 : w.cell? ⟨b, 1, none⟩ = some v1 := by simp [World.cell?, c]
  have c2 : w.cell? ⟨b, 2, none⟩ = some v2 := by simp [World.cell?, c]
  refine (prescale_any e p _ b _ _ w he hp ⟨by omega, by omega⟩ t.1 t.2 c0 c1 c2 (by simp [World.frozen?, c]) (by simp [World.frozen?, c]) (by simp [World.frozen?, c]) (by omega)).mono ?_
  rintro en w' ⟨rfl, rfl⟩
  have n01 : (⟨b, 0, none⟩ : Addr) ≠ ⟨b, 1, none⟩ := by simp
  have n02 : (⟨b, 0, none⟩ : Addr) ≠ ⟨b, 2, none⟩ := by simp
  have n12 : (⟨b, 1, none⟩ : Addr) ≠ ⟨b, 2, none⟩ := by simp
  refine ⟨rfl, ⟨?_, ?_, ?_⟩, Below.setCell (Below.setCell (Below.setCell (Below.refl b w) (p := ⟨b, 0, none⟩) (Nat.le_refl b) _) (p := ⟨b, 1, none⟩) (Nat.le_refl b) _) (p := ⟨b, 2, none⟩) (Nat.le_refl b) _, by simp⟩
  · rw [World.cell?_setCell_other _ _ _ _ n02.symm, World.cell?_setCell_other _ _ _ _ n01.symm]
    exact World.cell?_setCell_same _ _ _ c0
  · rw [World.cell?_setCell_other _ _ _ _ n12.symm]
    exact World.cell?_setCell_same _ _ _ (u := v1) (by rw [World.cell?_setCell_other _ _ _ _ n01]; exact c1)
  · exact World.cell?_setCell_same _ _ _ (u := v2) (by rw [World.cell?_setCell_other _ _ _ _ n12, World.cell?_setCell_other _ _ _ _ n02]; exact c2)
theorem uscale_tab (x b : Nat) (e p : Int) (w : World) (hx : x < 18446744073709551616) (hp : -348 ≤ p ∧ p ≤ 347) (hs : 0 ≤ -(e + p * 108853 / 32768 + 3)) (hs2 : -(e + p * 108853 / 32768 + 3) < 64) (hc : Scaler w b e p) :
    Calls Tryz.prog 149 #[.int .u64 x, .pointer (some ⟨b, 0, none⟩)] w fun en w' => en = .returned (.int .u64 (Pl.scal x e p)) ∧ ∃ n, w' = w.drewN n := by
  have hk := Pl.pw_ok hp.1 hp.2
  refine uscale_any x _ _ (Pl.sh e p) b w hx hk.2.1 hk.2.2 (by unfold Pl.sh; omega) hc.1 hc.2.1 ?_
  rw [hc.2.2]; unfold Pl.sh
  rw [Int.toNat_of_nonneg hs]
end Go.Proofs.YtpilniljhmkedaaGreatDoor
namespace Go.Proofs.YtpilniljhmkedaaGreatDoor
open Go.RowKit
/-- The exact powers of ten, by their bits. -/
def Pl.f10 : List Nat := [4607182418800017408, 4621819117588971520, 4636737291354636288, 4652007308841189376, 4666723172467343360, 4681608360884174848, 4696837146684686336, 4711630319722168320, 4726483295884279808, 4741671816366391296, 4756540486875873280, 4771362005757984768, 4786511204640096256, 4801453603149578240, 4816244402031689728, 4831355200913801216, 4846369599423283200, 4861130398305394688, 4876203697187506176, 4891288408196988160, 4906019910204099648, 4921056587992461136, 4936209963552724370]
/-- how far to shift for a decimal point -/
def Pl.ptab : List Nat := [1, 3, 6, 9, 13, 16, 19, 23, 26]
/-- The variables of the library's own that are read. -/
structure Env (w : World) : Prop where
  size : 17 ≤ w.heap.size
  tab : Tab w
  p10 : Lib.TabIs Tryz.prog w "internal/strconv.uint64pow10" .u64 Lib.pow10Tab
  mlen : ∃ m : Int, w.cell? ⟨4, 0, none⟩ = some (.int .i64 m)
  opt : w.cell? ⟨3, 0, none⟩ = some (.bool true)
  info : w.cell? ⟨8, 0, none⟩ = some (.int .u64 52)
  info1 : w.cell? ⟨8, 1, none⟩ = some (.int .u64 11)
  info2 : w.cell? ⟨8, 2, none⟩ = some (.int .i64 (-1023))
  ptab : ∃ (a : Addr) (cap : Nat), w.cell? ⟨11, 0, none⟩ = some (.slice (some a) 9 cap) ∧ a.block < w.heap.size ∧ ∀ (i : Nat) (x : Nat), Pl.ptab[i]? = some x → w.cell? (a.add i) = some (.int .i64 (x : Nat))
  lch : ∃ (a : Addr) (cap : Nat), w.cell? ⟨14, 0, none⟩ = some (.slice (some a) 61 cap) ∧ a.block < w.heap.size ∧ ∀ (i : Nat) (x : Nat × List UInt8), Go.Pinned.cheatRows[i]? = some x → w.cell? (a.add (2 * i)) = some (.int .i64 (x.1 : Nat)) ∧ w.cell? (a.add (2 * i + 1)) = some (.string ⟨x.2.toArray⟩)
  f10 : ∃ (a : Addr) (cap : Nat), w.cell? ⟨12, 0, none⟩ = some (.slice (some a) 23 cap) ∧ a.block < w.heap.size ∧ ∀ i x, Pl.f10[i]? = some x → w.cell? (a.add i) = some (.float .f64 x)
  err : ∃ v, w.cell? ⟨2, 0, none⟩ = some v ∧ (v = .nilIface ∨ ∃ te pe, v = .iface te pe)
theorem add_block (a : Addr) (i : Nat) : (a.add i).block = a.block := by
  unfold Addr.add; split <;> rfl
theorem Env.below {w w' : World} (h : Env w) (hb : Below w.heap.size w w') : Env w' := by
  have hs := h.size
  have hc : ∀ g o, g < 17 → w'.cell? ⟨g, o, none⟩ = w.cell? ⟨g, o, none⟩ := fun g o hg => hb.cell (p := ⟨g, o, none⟩) (by show g < _; omega)
  refine ⟨Nat.le_trans hs hb.size, h.tab.below hb (by omega), Joins.tab_stays (g := 9) (by kernel_rfl) h.p10 hb (Nat.le_refl _), ?_, ?_, ?_, ?_, ?_, ?_, ?_, ?_, ?_⟩
  · obtain ⟨m, hm⟩ := h.mlen; exact ⟨m, by rw [hc _ _ (by omega)]; exact hm⟩
  · rw [hc _ _ (by omega)]; exact h.opt
  · rw [hc _ _ (by omega)]; exact h.info
  · rw [hc _ _ (by omega)]; exact h.info1
  · rw [hc _ _ (by omega)]; exact h.info2
  · obtain ⟨a, cap, h1, h2, h3⟩ := h.ptab
    exact ⟨a, cap, by rw [hc _ _ (by omega)]; exact h1, Nat.lt_of_lt_of_le h2 hb.size, fun i x hx => by rw [hb.cell (by rw [add_block]; exact h2)]; exact h3 i x hx⟩
  · obtain ⟨a, cap, h1, h2, h3⟩ := h.lch
    exact ⟨a, cap, by rw [hc _ _ (by omega)]; exact h1, Nat.lt_of_lt_of_le h2 hb.size, fun i x hx => ⟨by rw [hb.cell (by rw [add_block]; exact h2)]; exact (h3 i x hx).1, by rw [hb.cell (by rw [add_block]; exact h2)]; exact (h3 i x hx).2⟩⟩
  · obtain ⟨a, cap, h1, h2, h3⟩ := h.f10
    exact ⟨a, cap, by rw [hc _ _ (by omega)]; exact h1, Nat.lt_of_lt_of_le h2 hb.size, fun i x hx => by rw [hb.cell (by rw [add_block]; exact h2)]; exact h3 i x hx⟩
  · obtain ⟨v, h1, h2⟩ := h.err; exact ⟨v, by rw [hc _ _ (by omega)]; exact h1, h2⟩
end Go.Proofs.YtpilniljhmkedaaGreatDoor
