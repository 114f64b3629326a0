/- The slow road of each text: a float, or too great a number. A float that is shown and read again; what is no number is shown, and not read. Literals as they lie in memory. (Printed by gen_ltm.py.) How many things literals have: WeighLit, far. (The first part printed by gen_ltm.py.) The reference's digits: rows of bytes; the contracts of trim, made, Of, Check. (Printed by gen_rb0.py.) -/
import Derived.Test.YtlodbibagmblkaaGreatDoorTabg
import Derived.Test.YtlodbibagmblkaaGreatDoorTabh
import Derived.Test.YtlodbibagmblkaaGreatDoorTabj
import Derived.Test.YtlodbibagmblkaaGreatDoorTaas
import Derived.Below
import Derived.WalkKit
import Derived.WalkLawsBesides
import Derived.WalkSpells
import Derived.Lib.Hide
import Derived.Outline
import Derived.Test.YtlodbibagmblkaaGreatDoorTaam
import Derived.Test.YtlodbibagmblkaaGreatDoorTaaj
namespace Go.Proofs.YtlodbibagmblkaaGreatDoor
open Go.RowKit Go.Lib
end Go.Proofs.YtlodbibagmblkaaGreatDoor
namespace Go.Proofs.YtlodbibagmblkaaGreatDoor
open Go.RowKit Go.Lib
theorem read_zero (neg : Bool) (w : World) (he : Env w) : Calls Tryz.prog 123 #[.string (bs (zeroT neg).text)] w fun e w' => e = .returned (.tuple #[.int .u64 (Pl.sgb neg : Nat), .int .i64 0]) ∧ Below w.heap.size w w' := by
  have hok := zero_ok neg
  have hr := txt_reads hok
  have e1 : Pl.run (zeroT neg).body = ⟨0, 0, 0, -1, true, true, false⟩ := by show Pl.run [48, 46, 48] = _; rfl
  rw [e1] at hr
  refine (read_in (R := fun r => r = Pl.sgb neg) (E := False) (zeroT neg).text w (by have := hok.len; omega) (txt_formed hok) he (fun w he => atof_nought _ _ _ neg _ w (txt_special hok) hr he)).mono ?_
  rintro e w' ⟨⟨r, rfl, rfl⟩ | ⟨hE, _⟩, hB⟩
  · refine ⟨?_, hB⟩
    have : Fl.told (Pl.sgb neg) = Pl.sgb neg := by unfold Pl.sgb; cases neg <;> decide
    rw [this]
  · exact hE.elim
/-- what Show writes, Read reads -/
theorem show_read {a : Nat} (h : FinF a) : ∃ s : ByteArray, s.size ≤ 1000 ∧ (∀ w, Env w → Calls Tryz.prog 108 #[.int .u64 a] w fun e w' => e = .returned (.string s) ∧ Below w.heap.size w w') ∧
    ∀ w, Env w → Calls Tryz.prog 123 #[.string s] w fun e w' => e = .returned (.tuple #[.int .u64 a, .int .i64 0]) ∧ Below w.heap.size w w' := by
  obtain ⟨h1, h2⟩ := h
  by_cases hz : a % 9223372036854775808 = 0
  · obtain ⟨neg, rfl⟩ : ∃ neg, a = Pl.sgb neg := by
      by_cases ha : a = 0
      · exact ⟨false, by rw [ha]; rfl⟩
      · exact ⟨true, by show a = 9223372036854775808; omega⟩
    refine ⟨bs (zeroT neg).text, by cases neg <;> decide, fun w _ => ?_, fun w he => read_zero neg w he⟩
    refine (show_zero neg w).mono ?_
    rintro e w' ⟨rfl, rfl⟩
    exact ⟨rfl, Below.refl _ _⟩
  · refine ⟨bs (Pl.showN a), ?_, fun w he => show_any a w h1 h2 hz he, fun w he => read_show a w h1 h2 hz he⟩
    obtain ⟨hd1, hd2, hd3, hd4, hd5⟩ := Pl.digs_ok (show a / 4503599627370496 % 2048 < 2047 by omega) hz
    have hw := written_len (Pl.digs a) (Pl.dpt a - 1) (by omega)
    rw [bs_size]
    unfold Pl.showN
    rw [List.length_append]
    split
    · simp only [List.length_singleton]; omega
    · simp only [List.length_nil]; omega
set_option maxHeartbeats 2000000 in
/-- what is no number has a text that is not read -/
theorem show_odd {a : Nat} (ha : a < 18446744073709551616) (h : ¬ a % 9223372036854775808 < 9218868437227405312) : ∃ s : ByteArray, s.size ≤ 1000 ∧ (∀ w, Calls Tryz.prog 108 #[.int .u64 a] w fun e w' => e = .returned (.string s) ∧ Below w.heap.size w w') ∧
    ∀ w, Calls Tryz.prog 123 #[.string s] w fun e w' => e = .returned (.tuple #[.int .u64 0, .int .i64 100]) ∧ Below w.heap.size w w' := by
  have rd : ∀ l : List UInt8, l.length ≤ 10 → Pl.formed l = false → ∀ w, Calls Tryz.prog 123 #[.string (bs l)] w fun e w' => e = .returned (.tuple #[.int .u64 0, .int .i64 100]) ∧ Below w.heap.size w w' := fun l hl hf w => read_no l w (by omega) hf
  by_cases hn : a % 9223372036854775808 = 9218868437227405312
  · have hab : a = 9218868437227405312 ∨ a = 18442240474082181120 := by omega
    have key : ∀ (a : Nat) (b : Bool) (s : ByteArray), (b = true ∧ a = 9218868437227405312 ∧ s = ⟨#[105, 110, 102]⟩) ∨ (b = false ∧ a = 18442240474082181120 ∧ s = ⟨#[45, 105, 110, 102]⟩) → ∀ w, Calls Tryz.prog 108 #[.int .u64 a] w fun e w' => e = .returned (.string s) ∧ Below w.heap.size w w' := by
      intro a b s hs w
      have ha' : a < 18446744073709551616 := by rcases hs with ⟨_, rfl, _⟩ | ⟨_, rfl, _⟩ <;> decide
      have ho : FloatKind.f64.format.order a a = some .eq := by rcases hs with ⟨_, rfl, _⟩ | ⟨_, rfl, _⟩ <;> decide +kernel
      have HI1 := Lib.hid (fun w => isInf1_any a ha' w)
      have HI2 := Lib.hid (fun w => isInfn_any a ha' w)
      have e1 : decide (a = 9218868437227405312) = b := by rcases hs with ⟨rfl, rfl, _⟩ | ⟨rfl, rfl, _⟩ <;> decide
      have e2 : decide (a = 18442240474082181120) = !b := by rcases hs with ⟨rfl, rfl, _⟩ | ⟨rfl, rfl, _⟩ <;> decide
      rw [e1] at HI1
      rw [e2] at HI2
      rcases hs with ⟨rfl, ha2, rfl⟩ | ⟨rfl, ha2, rfl⟩
      · clear e1 e2 HI2 ha2 ha'
        go_enter Tryz.func108, Tryz.ntmps108
        go_wp2_with fail
        refine (of_any _ _).mono ?_
        rintro e w' ⟨rfl, rfl⟩
        go_wp2_with fail
        refine (HI1.out _).mono ?_
        rintro e w' ⟨rfl, rfl⟩
        go_wp2_with fail
        go_ret
        exact ⟨rfl, Below.refl _ _⟩
      · clear e1 e2 ha2 ha'
        go_enter Tryz.func108, Tryz.ntmps108
        go_wp2_with fail
        refine (of_any _ _).mono ?_
        rintro e w' ⟨rfl, rfl⟩
        go_wp2_with fail
        refine (HI1.out _).mono ?_
        rintro e w' ⟨rfl, rfl⟩
        go_wp2_with fail
        refine (HI2.out _).mono ?_
        rintro e w' ⟨rfl, rfl⟩
        go_wp2_with fail
        go_ret
        exact ⟨rfl, Below.refl _ _⟩
    rcases hab with rfl | rfl
    · exact ⟨bs [105, 110, 102], by decide, key _ true _ (.inl ⟨rfl, rfl, rfl⟩), rd _ (by decide) (by decide)⟩
    · exact ⟨bs [45, 105, 110, 102], by decide, key _ false _ (.inr ⟨rfl, rfl, rfl⟩), rd _ (by decide) (by decide)⟩
  · refine ⟨bs [110, 97, 110], by decide, fun w => ?_, rd _ (by decide) (by decide)⟩
    have ho : FloatKind.f64.format.order a a = none := by rw [Fl.order_self]; unfold Fl.isNan; rw [if_pos (by simp; omega)]
    clear hn h ha rd
    go_enter Tryz.func108, Tryz.ntmps108
    go_wp2_with fail
    refine (of_any _ _).mono ?_
    rintro e w' ⟨rfl, rfl⟩
    go_wp2_with fail
    go_ret
    exact ⟨rfl, Below.refl _ _⟩
end Go.Proofs.YtlodbibagmblkaaGreatDoor
namespace Go.Proofs.YtlodbibagmblkaaGreatDoor
open Go.RowKit
namespace Pl
inductive Lit where
  | mk (kind : Nat) (n : Int) (bits : Nat) (text : ByteArray) (items : List Lit)
def Lit.kind : Lit → Nat | .mk k _ _ _ _ => k
def Lit.n : Lit → Int | .mk _ n _ _ _ => n
def Lit.bits : Lit → Nat | .mk _ _ b _ _ => b
def Lit.text : Lit → ByteArray | .mk _ _ _ t _ => t
def Lit.items : Lit → List Lit | .mk _ _ _ _ l => l
theorem Lit.eta (x : Lit) : x = .mk x.kind x.n x.bits x.text x.items := by cases x; rfl
mutual
/-- how many things it has -/
def litBig : Lit → Nat
  | .mk _ _ _ t l => 1 + t.size + litsBig l
def litsBig : List Lit → Nat
  | [] => 0
  | x :: r => litBig x + litsBig r
end
structure LitW (x : Lit) : Prop where
  k : x.kind < 256
  n0 : -9223372036854775808 ≤ x.n
  n1 : x.n ≤ 9223372036854775807
  b : x.bits < 18446744073709551616
  t : x.text.size ≤ 140737488355328
end Pl
/-- a slice value in whose elements' cells the things of a list lie: 'cs x v': the cells of x, v: the value of the last one -/
structure RowAt {α : Type} (size : Nat) (cs : α → Value → List Value) (w : World) (l : List α) (A : Option Addr) (cap : Nat) (V : Nat → Value) : Prop where
  le : l.length ≤ cap
  capL : cap ≤ maxLen
  len : l.length ≤ 140737488355328
  addr : l ≠ [] → ∃ b o, A = some ⟨b, o, none⟩
  nil : A = Option.none → cap = 0
  lt : l ≠ [] → ∀ a, A = some a → a.block < w.heap.size
  cells : ∀ b o, A = some ⟨b, o, none⟩ → ∀ (i : Nat) (x : α), l[i]? = some x → ∀ (j : Nat) (u : Value), (cs x (V i))[j]? = some u → w.cell? ⟨b, o + i * size + j, none⟩ = some u
theorem RowAt.keep {α : Type} {size : Nat} {cs : α → Value → List Value} {w w' : World} {l : List α} {A : Option Addr} {cap : Nat} {V : Nat → Value} (h : RowAt size cs w l A cap V) {B : Nat} (hb : Below B w w')
    (hB : l ≠ [] → ∀ a, A = some a → a.block < B) : RowAt size cs w' l A cap V := by
  refine ⟨h.le, h.capL, h.len, h.addr, h.nil, fun hn a ha => Nat.lt_of_lt_of_le (h.lt hn a ha) hb.size, ?_⟩
  intro b o e i x hx j u hu
  have hn : l ≠ [] := by rintro rfl; simp at hx
  rw [hb.cell (p := ⟨b, o + i * size + j, none⟩) (hB hn ⟨b, o, none⟩ e)]
  exact h.cells b o e i x hx j u hu
theorem RowAt.some_of {α : Type} {size : Nat} {cs : α → Value → List Value} {w : World} {l : List α} {A : Option Addr} {cap : Nat} {V : Nat → Value} (h : RowAt size cs w l A cap V) {i : Nat} (hi : i < l.length) : ∃ b o, A = some ⟨b, o, none⟩ ∧ b < w.heap.size := by
  have hn : l ≠ [] := by intro e; rw [e] at hi; simp at hi
  obtain ⟨b, o, e⟩ := h.addr hn
  exact ⟨b, o, e, h.lt hn _ e⟩
def litCells (x : Pl.Lit) (v : Value) : List Value := [.int .u8 x.kind, .int .i64 x.n, .int .u64 x.bits, .string x.text, v]
/-- a value reads as literals; all that it leads to lies below block B -/
inductive LitsAt (B : Nat) (w : World) : List Pl.Lit → Value → Prop
  | mk (A : Option Addr) (l : List Pl.Lit) (cap : Nat) (V : Nat → Value) (hB : l ≠ [] → ∀ a, A = some a → a.block < B) (h : RowAt 5 litCells w l A cap V) (hw : ∀ x ∈ l, Pl.LitW x) (hr : ∀ (i : Nat) (x : Pl.Lit), l[i]? = some x → LitsAt B w x.items (V i)) :
    LitsAt B w l (.slice A l.length cap)
theorem LitsAt.keep {B : Nat} {w w' : World} {l : List Pl.Lit} {v : Value} (h : LitsAt B w l v) (hb : Below B w w') : LitsAt B w' l v := by
  induction h with
  | mk A l cap V hB h hw _ ih => exact .mk A l cap V hB (h.keep hb hB) hw ih
theorem LitsAt.up {B C : Nat} {w : World} {l : List Pl.Lit} {v : Value} (h : LitsAt B w l v) (hC : B ≤ C) : LitsAt C w l v := by
  induction h with
  | mk A l cap V hB h hw _ ih => exact .mk A l cap V (fun hn a e => Nat.lt_of_lt_of_le (hB hn a e) hC) h hw ih
theorem LitsAt.out {B : Nat} {w : World} {l : List Pl.Lit} {v : Value} (h : LitsAt B w l v) : ∃ (A : Option Addr) (cap : Nat) (V : Nat → Value), v = .slice A l.length cap ∧ (l ≠ [] → ∀ a, A = some a → a.block < B) ∧ RowAt 5 litCells w l A cap V ∧ (∀ x ∈ l, Pl.LitW x) ∧ ∀ (i : Nat) (x : Pl.Lit), l[i]? = some x → LitsAt B w x.items (V i) := by
  cases h with
  | mk A l cap V hB h hw hr => exact ⟨A, cap, V, rfl, hB, h, hw, hr⟩
theorem LitsAt.len {B : Nat} {w : World} {l : List Pl.Lit} {v : Value} (h : LitsAt B w l v) : l.length ≤ 140737488355328 := by
  obtain ⟨_, _, _, _, _, h, _⟩ := h.out
  exact h.len
theorem RowAt.lit {w : World} {l : List Pl.Lit} {b o cap : Nat} {V : Nat → Value} (h : RowAt 5 litCells w l (some ⟨b, o, none⟩) cap V) {i : Nat} {x : Pl.Lit} (hx : l[i]? = some x) :
    w.cell? ⟨b, o + i * 5, none⟩ = some (.int .u8 x.kind) ∧ w.cell? ⟨b, o + i * 5 + 1, none⟩ = some (.int .i64 x.n) ∧ w.cell? ⟨b, o + i * 5 + 2, none⟩ = some (.int .u64 x.bits) ∧
    w.cell? ⟨b, o + i * 5 + 3, none⟩ = some (.string x.text) ∧ w.cell? ⟨b, o + i * 5 + 4, none⟩ = some (V i) :=
  ⟨h.cells b o rfl i x hx 0 _ rfl, h.cells b o rfl i x hx 1 _ rfl, h.cells b o rfl i x hx 2 _ rfl, h.cells b o rfl i x hx 3 _ rfl, h.cells b o rfl i x hx 4 _ rfl⟩
end Go.Proofs.YtlodbibagmblkaaGreatDoor
namespace Go.Proofs.YtlodbibagmblkaaGreatDoor
open Go.RowKit
/-- a literal as a value -/
def litV (x : Pl.Lit) (v : Value) : Value := .agg #[.int .u8 x.kind, .int .i64 x.n, .int .u64 x.bits, .string x.text, v]
namespace Pl
theorem litsBig_get {l : List Lit} {i : Nat} {x : Lit} (h : l[i]? = some x) : litsBig (l.take (i + 1)) = litsBig (l.take i) + litBig x := by
  rw [List.take_add_one, h]
  have : ∀ (a : List Lit) (x : Lit), litsBig (a ++ [x]) = litsBig a + litBig x := by
    intro a x
    induction a with
    | nil => simp [litsBig]
    | cons y r ih => simp only [List.cons_append, litsBig]; rw [ih]; omega
  exact this _ _
end Pl
set_option maxRecDepth 100000 in
set_option maxHeartbeats 1000000 in
theorem weighLit_any {B : Nat} {w0 : World} {l : List Pl.Lit} {v : Value} (h : LitsAt B w0 l v) (hB0 : B ≤ w0.heap.size) : ∀ (x : Pl.Lit) (n deep : Nat) (w : World), x.items = l → Pl.LitW x → Below B w0 w → n ≤ 262144 → deep ≤ 60001 →
    Calls Tryz.prog 16 #[litV x v, .int .i64 n, .int .i64 deep] w fun e w' => (∃ m : Nat, e = .returned (.int .i64 m) ∧ m ≤ 140737488617473 ∧ (m ≤ 262144 → n + Pl.litBig x ≤ m)) ∧ Below w.heap.size w w' := by
  induction h with
  | mk A l cap V hB hrow hw hr ih =>
    intro x n deep w hx hxw hbel hn hd
    have hl1 := hrow.le
    have hl2 := hrow.len
    have ht := hxw.t
    subst hx
    have hbig : Pl.litBig x = 1 + x.text.size + Pl.litsBig x.items := by cases x; rfl
    have HBIG := Lib.hid hbig
    clear hbig
    unfold litV
    by_cases hdd : 60000 < deep
    · go_enter Tryz.func16, Tryz.ntmps16
      go_wp2_with fail
      go_ret
      exact ⟨⟨262145, rfl, by omega, fun h => absurd h (by decide)⟩, (Below.refl _ _).alloc (Nat.le_refl _) _⟩
    · go_enter Tryz.func16, Tryz.ntmps16
      go_wp2_with fail
      have hs0 := hbel.size
      go_loopw [1, 7] (fun nv iv wr => ∃ m k : Nat, nv = .int .i64 m ∧ iv = .int .i64 k ∧ k ≤ x.items.length ∧ m ≤ 140737488617473 ∧ (m ≤ 262144 → n + 1 + x.text.size + Pl.litsBig (x.items.take k) ≤ m) ∧ Below (w.heap.size + 1) (w.alloc (.cells #[.int .u8 x.kind, .int .i64 x.n, .int .u64 x.bits, .string x.text, .slice A x.items.length cap] 26)) wr) (fun _ iv _ => x.items.length - (intOf iv).toNat)
      case atStart => exact ⟨n + 1 + x.text.size, 0, by go_num, rfl, Nat.zero_le _, by omega, fun _ => by simp [Pl.litsBig], Below.refl _ _⟩
      case round =>
        obtain ⟨m, k, rfl, rfl, hk, hm, hrel, hb⟩ := hrel
        have c4 : wr.cell? ⟨w.heap.size, 4, none⟩ = some (.slice A x.items.length cap) := by
          rw [hb.cell (p := ⟨w.heap.size, 4, none⟩) (by simp)]; simp [go_sem]
        have HR := Lib.hid hrel
        clear hrel
        have hsz := hb.size
        simp only [World.size_alloc] at hsz
        by_cases hlt : k < x.items.length
        · by_cases hm2 : m ≤ 262144
          · obtain ⟨b, o, rfl, hbb⟩ := hrow.some_of hlt
            obtain ⟨y, hy⟩ : ∃ y, x.items[k]? = some y := ⟨_, List.getElem?_eq_getElem hlt⟩
            have hbB : b < B := hB (by intro e; rw [e] at hlt; simp at hlt) _ rfl
            have hB2 : Below B w0 wr := hbel.trans ((((Below.refl w.heap.size w).alloc (Nat.le_refl _) _).trans (hb.mono (by omega))).mono (by omega))
            have hrow' := hrow.keep hB2 hB
            obtain ⟨e0, e1, e2, e3, e4⟩ := hrow'.lit hy
            have HY := Lib.hid hy
            have hyw := hw y (List.mem_of_getElem? hy)
            clear hy
            go_wp2_with fail
            refine (ih k y HY.out y m (deep + 1) wr rfl hyw hB2 hm2 (by omega)).mono ?_
            rintro e w2 ⟨⟨m2, rfl, hm3, hm4⟩, hb2⟩
            have HM := Lib.hid hm4
            clear hm4
            go_wp2_with fail
            go_roundw
            case rel =>
              refine ⟨m2, k + 1, rfl, by go_num, by omega, hm3, ?_, hb.trans (hb2.mono (by omega))⟩
              intro h
              have h1 := HM.out h
              have h2 := HR.out hm2
              rw [Pl.litsBig_get HY.out]; omega
            case measure => simp [intOf]; omega
          · go_wp2_with fail
            go_ret
            exact ⟨⟨m, rfl, hm, fun h => absurd h hm2⟩, ((Below.refl _ _).alloc (Nat.le_refl _) _).trans (hb.mono (by omega))⟩
        · have hk2 : k = x.items.length := by omega
          have HK := Lib.hid hk2
          clear hk2
          go_wp2_with fail
          go_ret
          refine ⟨⟨m, rfl, hm, fun h => ?_⟩, ((Below.refl _ _).alloc (Nat.le_refl _) _).trans (hb.mono (by omega))⟩
          have h2 := HR.out h
          rw [HK.out, List.take_length] at h2
          rw [HBIG.out]; omega
set_option maxRecDepth 100000 in
set_option maxHeartbeats 1000000 in
theorem lfar_any {B : Nat} {ls : List Pl.Lit} {v : Value} (w : World) (h : LitsAt B w ls v) (hB : B ≤ w.heap.size) :
    Calls Tryz.prog 7 #[v] w fun e w' => (∃ t : Bool, e = .returned (.bool t) ∧ (t = false → Pl.litsBig ls ≤ 262144)) ∧ Below w.heap.size w w' := by
  have h0 := h
  have hlsz := h.len
  obtain ⟨Al, capl, Vl, rfl, hBl, hrowl, hwl, hrl⟩ := h.out
  have h1 := hrowl.le
  obtain ⟨N, hN⟩ : ∃ N, ls.length = N := ⟨_, rfl⟩
  have HN := Lib.hid hN
  rw [hN] at hlsz h1 ⊢
  clear hN h h0
  go_enter Tryz.func7, Tryz.ntmps7
  go_wp2_with fail
  go_loopw [3, 4] (fun nv iv wr => ∃ m k : Nat, nv = .int .i64 m ∧ iv = .int .i64 k ∧ k ≤ N ∧ m ≤ 400000000000000 ∧ (m ≤ 262144 → Pl.litsBig (ls.take k) ≤ m) ∧ Below w.heap.size w wr) (fun _ iv _ => N - (intOf iv).toNat)
  case atStart => exact ⟨N, 0, rfl, rfl, Nat.zero_le _, by omega, fun _ => by simp [Pl.litsBig], Below.refl _ _⟩
  case round =>
    obtain ⟨m, k, rfl, rfl, hk, hm, hrel, hb⟩ := hrel
    have HR := Lib.hid hrel
    clear hrel
    have hsz := hb.size
    by_cases hlt : k < N
    · have dk : decide ((k : Int) < (N : Int)) = true := decide_eq_true (by omega)
      by_cases hm2 : m ≤ 262144
      · have dm : decide ((m : Int) ≤ 262144) = true := decide_eq_true (by omega)
        have hlt' : k < ls.length := by rw [HN.out]; exact hlt
        obtain ⟨b, o, rfl, hbb⟩ := hrowl.some_of hlt'
        obtain ⟨y, hy⟩ : ∃ y, ls[k]? = some y := ⟨_, List.getElem?_eq_getElem hlt'⟩
        have hbB : b < B := hBl (by intro e; rw [e] at hlt'; simp at hlt') _ rfl
        have hB2 : Below B w wr := hb.mono hB
        have hrow' := hrowl.keep hB2 hBl
        obtain ⟨e0, e1, e2, e3, e4⟩ := hrow'.lit hy
        have HY := Lib.hid hy
        have hyw := hwl y (List.mem_of_getElem? hy)
        have HWL := Lib.hid (weighLit_any (hrl k y hy) hB y m 0 wr rfl hyw hB2 hm2 (by omega))
        clear hy hlt' hrow'
        unfold litV at HWL
        go_wp2_with fail
        refine HWL.out.mono ?_
        rintro e w2 ⟨⟨m2, rfl, hm3, hm4⟩, hb2⟩
        have HM := Lib.hid hm4
        clear hm4
        go_wp2_with fail
        go_roundw
        case rel =>
          refine ⟨m2, k + 1, rfl, by go_num, by omega, by omega, ?_, hb.trans (hb2.mono (by omega))⟩
          intro h
          have h1 := HM.out h
          have h2 := HR.out hm2
          rw [Pl.litsBig_get HY.out]; omega
        case measure => simp [intOf]; omega
      · have dm : decide ((m : Int) ≤ 262144) = false := decide_eq_false (by omega)
        have d2 : decide ((262144 : Int) < (m : Int)) = true := decide_eq_true (by omega)
        go_wp2_with fail
        go_ret
        exact ⟨⟨true, rfl, fun h => by cases h⟩, hb⟩
    · have dk : decide ((k : Int) < (N : Int)) = false := decide_eq_false (by omega)
      obtain ⟨q, hq⟩ : ∃ q, decide ((262144 : Int) < (m : Int)) = q := ⟨_, rfl⟩
      have HQ : Hid (q = false → Pl.litsBig ls ≤ 262144) := Lib.hid (fun h => by
        have h2 := of_decide_eq_false (hq.trans h)
        have h3 := HR.out (by omega)
        rw [List.take_of_length_le (by rw [HN.out]; omega)] at h3
        omega)
      go_wp2_with fail
      go_ret
      exact ⟨⟨q, rfl, HQ.out⟩, hb⟩
end Go.Proofs.YtlodbibagmblkaaGreatDoor
namespace Go.Proofs.YtlodbibagmblkaaGreatDoor
open Go.RowKit Go.Lib
/-- A slice that reads as bytes. -/
def RdB (w : World) (v : Value) (l : List UInt8) : Prop :=
  (v = .slice none 0 0 ∧ l = []) ∨ ∃ b cap, v = .slice (some ⟨b, 0, none⟩) l.length cap ∧ l.length ≤ cap ∧ b < w.heap.size ∧ ∀ (j : Nat) (x : UInt8), l[j]? = some x → w.cell? ⟨b, j, none⟩ = some (.int .u8 x.toNat)
theorem RdB.below {w w' : World} {v : Value} {l : List UInt8} (h : RdB w v l) (hb : Below w.heap.size w w') : RdB w' v l := by
  rcases h with h | ⟨b, cap, h1, h2, h3, h4⟩
  · exact .inl h
  · exact .inr ⟨b, cap, h1, h2, Nat.lt_of_lt_of_le h3 hb.size, fun j x hx => by rw [hb.cell (p := ⟨b, j, none⟩) h3]; exact h4 j x hx⟩
theorem RdB.form {w : World} {v : Value} {l : List UInt8} (h : RdB w v l) : ∃ a c, v = .slice a l.length c := by
  rcases h with ⟨h1, h2⟩ | ⟨b, cap, h1, _⟩
  · exact ⟨none, 0, by rw [h1, h2]; rfl⟩
  · exact ⟨_, _, h1⟩
theorem RdB.cell {w : World} {a : Option Addr} {n c : Nat} {l : List UInt8} (h : RdB w (.slice a n c) l) {j : Nat} {x : UInt8} (hx : l[j]? = some x) : ∃ b, a = some ⟨b, 0, none⟩ ∧ b < w.heap.size ∧ w.cell? ⟨b, j, none⟩ = some (.int .u8 x.toNat) := by
  rcases h with ⟨_, h2⟩ | ⟨b, cap, h1, _, h3, h4⟩
  · rw [h2] at hx; cases hx
  · injection h1 with e1 _ _
    exact ⟨b, e1, h3, h4 j x hx⟩
theorem RdB.of_owns {w : World} {base n : Nat} {v : Value} {l : List UInt8} (h : Owns w base 5 1 v n (bc l)) : RdB w v l := by
  have hl := h.1
  rw [Nat.mul_one] at hl
  have hl' : l.length = n := by simpa [bc] using hl
  rcases h.2 with ⟨h1, h2⟩ | ⟨g, cap, cur, fz, h1, hb, hg, hfz, hnc, hcm, hcs, ht⟩
  · exact .inl ⟨h1, List.length_eq_zero_iff.1 (by omega)⟩
  · refine .inr ⟨g, cap, by rw [hl']; exact h1, by omega, (Array.getElem?_eq_some_iff.1 hg).1, fun j x hx => ?_⟩
    have := h.cells (g := g) (by rw [h1]; rfl) j (.int .u8 x.toNat) (by simp [bc, hx])
    have e : (⟨g, 0, none⟩ : Addr).add j = ⟨g, j, none⟩ := by unfold Addr.add; split <;> simp_all
    rw [e] at this
    exact this
def TrimB (w : World) (l : List UInt8) (e : Ending) (w' : World) : Prop := ∃ v', e = .returned v' ∧ RdB w v' (Pl.strip l) ∧ w = w'
/-- The same, and the row is the one that was handed in. -/
def TrimS (w : World) (v : Value) (l : List UInt8) (e : Ending) (w' : World) : Prop := ∃ v', e = .returned v' ∧ RdB w v' (Pl.strip l) ∧ w = w' ∧ v'.ownBlock = v.ownBlock
theorem u8_beq (c : UInt8) : ((c.toNat : Int) == 0) = (c == 0) := by
  rw [Bool.eq_iff_iff, beq_iff_eq, beq_iff_eq]
  constructor
  · intro h
    exact UInt8.toNat_inj.1 (by simp; omega)
  · intro h; subst h; rfl
set_option maxHeartbeats 1000000 in
theorem rtrim_same (v : Value) (l : List UInt8) (w : World) (h : RdB w v l) (hl : l.length ≤ 100000) : Calls Tryz.prog 133 #[v] w (TrimS w v l) := by
  rcases h with ⟨rfl, rfl⟩ | ⟨b, cap, rfl, h2, h3, h4⟩
  · go_enter Tryz.func133, Tryz.ntmps133
    go_wp2_with fail
    refine wp_loop_rounds 1 ?_
    rw [rounds_succ]
    go_wp2_with fail
    go_ret
    exact ⟨_, rfl, .inl ⟨rfl, rfl⟩, rfl, rfl⟩
  · have H4 := Lib.hid h4
    clear h4
    obtain ⟨n, hn⟩ : ∃ n, l.length = n := ⟨_, rfl⟩
    rw [hn] at h2 hl ⊢
    have HN := Lib.hid hn
    clear hn
    go_enter Tryz.func133, Tryz.ntmps133
    go_wp2_with fail
    go_loop [0] (fun s => ∃ k : Nat, k ≤ n ∧ s = .slice (some ⟨b, 0, none⟩) k cap ∧ Hid (Pl.strip (l.take k) = Pl.strip l)) (fun s => match s with | .slice _ k _ => k | _ => 0)
    case atStart => exact ⟨n, Nat.le_refl _, rfl, Lib.hid (by rw [List.take_of_length_le (by rw [HN.out]; exact Nat.le_refl _)])⟩
    case round =>
      obtain ⟨k, hk, rfl, hz⟩ := hrel
      cases k with
      | zero =>
        go_wp2_with fail
        go_ret
        exact ⟨_, rfl, .inr ⟨b, cap, by rw [← hz.out]; rfl, by rw [← hz.out]; simp [Pl.strip], h3, fun j x hx => by rw [← hz.out] at hx; simp [Pl.strip] at hx⟩, rfl, rfl⟩
      | succ k =>
        have hk2 : k < l.length := by rw [HN.out]; omega
        have hc := H4.out k l[k] (List.getElem?_eq_getElem hk2)
        have HT := Lib.hid (show l.take (k + 1) = l.take k ++ [l[k]] from List.take_succ_eq_append_getElem hk2)
        generalize l[k] = c at hc HT
        have hbq := u8_beq c
        by_cases h0 : c = 0
        · have b0 : ((c.toNat : Int) == 0) = true := by rw [hbq, h0]; rfl
          have HS := Lib.hid (show Pl.strip (l.take k) = Pl.strip l by rw [← hz.out, HT.out, h0, Pl.strip_snoc_zero])
          clear h0 HT hz hbq
          go_wp2_with fail
          go_round
          case rel => exact ⟨k, by omega, rfl, HS⟩
          case measure => simp
        · have b0 : ((c.toNat : Int) == 0) = false := by rw [hbq]; simpa using h0
          have HS := Lib.hid (show Pl.strip l = l.take (k + 1) by rw [← hz.out, HT.out, Pl.strip_snoc h0])
          clear h0 HT hz hbq
          go_wp2_with fail
          go_ret
          have hlen : (l.take (k + 1)).length = k + 1 := by rw [List.length_take, HN.out]; omega
          refine ⟨_, rfl, .inr ⟨b, cap, by rw [HS.out, hlen]; rfl, by rw [HS.out, hlen]; omega, h3, fun j x hx => ?_⟩, rfl, rfl⟩
          rw [HS.out] at hx
          rw [List.getElem?_take] at hx
          split at hx
          · exact H4.out j x hx
          · cases hx
theorem rtrim_any (v : Value) (l : List UInt8) (w : World) (h : RdB w v l) (hl : l.length ≤ 100000) : Calls Tryz.prog 133 #[v] w (TrimB w l) :=
  (rtrim_same v l w h hl).mono fun _ _ ⟨v', h1, h2, h3, _⟩ => ⟨v', h1, h2, h3⟩
namespace Pl
theorem le_snoc_u8 (l : List UInt8) (x : Nat) (h : x < 256) : le (l ++ [UInt8.ofNat x]) = le l + 256 ^ l.length * x := by
  rw [le_snoc]
  congr 2
  simp [UInt8.toNat_ofNat']
  omega
end Pl
theorem strip_dgs {l : List UInt8} {V : Nat} (h : Pl.le l = V) : Pl.strip l = Pl.dgs V := Pl.le_inj (Pl.canon_strip l) (Pl.canon_dgs V) (by rw [Pl.le_strip, h, Pl.le_dgs])
theorem bc_one {r : Nat} (h : r < 256) : bc [UInt8.ofNat r] = [.int .u8 (r : Int)] := by
  have e : (UInt8.ofNat r).toNat = r := by simp [UInt8.toNat_ofNat']; omega
  simp only [bc, List.map_cons, List.map_nil, e]
/-- 'string(b)' of a row that is read. -/
theorem run_string_of_rdb {w : World} {v : Value} {l : List UInt8} (h : RdB w v l) : (convert 85 9 v).run Tryz.prog w = .ok (.string ⟨l.toArray⟩) w := by
  rcases h with ⟨rfl, rfl⟩ | ⟨b, cap, rfl, h2, h3, h4⟩
  · rw [run_convert_bytes_string w 85 9 5 none 0 0 Tryz.underlying85 Tryz.underlying5 Tryz.underlying9]
    simp [Conv.bytesToString, Sem.run_pure]
    rfl
  · rw [run_convert_bytes_string w 85 9 5 _ l.length cap Tryz.underlying85 Tryz.underlying5 Tryz.underlying9]
    have hload : (loadCells ⟨b, 0, none⟩ l.length).run Tryz.prog w = .ok ((l.map fun b => (b.toNat : Int)).map (Value.int .u8)).toArray w := by
      have h5 := run_loadCells_list (P := Tryz.prog) w ⟨b, 0, none⟩ (l.map fun b => Value.int .u8 b.toNat) (fun j u hu => by
        have e : (⟨b, 0, none⟩ : Addr).add j = ⟨b, j, none⟩ := by unfold Addr.add; split <;> simp_all
        rw [e]
        rw [List.getElem?_map] at hu
        obtain ⟨x, hx, rfl⟩ := Option.map_eq_some_iff.1 hu
        exact h4 j x hx)
      rw [List.length_map] at h5
      rw [h5, List.map_map]
      rfl
    rw [run_bytesToString w ⟨b, 0, none⟩ l.length cap _ hload, foldl_push]
    simp
set_option maxRecDepth 4000 in
set_option maxHeartbeats 2000000 in
theorem rmade_any (v : Value) (l : List UInt8) (neg : Bool) (w : World) (h : RdB w v l) (hl : l.length ≤ 100000) (hV : Pl.le l < 256 ^ 4096) :
    Calls Tryz.prog 62 #[v, .bool neg] w fun e w' => e = .returned (.tuple #[lv (neg && !decide (Pl.le l = 0)) (Pl.dgs (Pl.le l)), .int .i64 0]) ∧ Below w.heap.size w w' := by
  have HT := Lib.hid (fun (W : World) (hB : Below w.heap.size w W) => rtrim_any v l W (h.below hB) hl)
  have HS := Lib.hid (strip_dgs (l := l) rfl)
  have HLN := Lib.hid (Pl.dgs_len hV)
  have HE := Lib.hid (Pl.dgs_empty (Pl.le l))
  obtain ⟨va, vc, rfl⟩ := h.form
  generalize Pl.dgs (Pl.le l) = D at *
  generalize decide (Pl.le l = 0) = z at *
  clear h hV
  unfold lv
  go_enter Tryz.func62, Tryz.ntmps62
  go_wp2_with fail
  refine (HT.out _ ((Below.refl _ _).alloc (Nat.le_refl _) _)).mono ?_
  rintro e w' ⟨v', rfl, hr, rfl⟩
  rw [HS.out] at hr
  have hst := run_string_of_rdb hr
  obtain ⟨a2, c2, rfl⟩ := hr.form
  have hl2 := HLN.out
  have hz : z = decide (D.length = 0) := by
    rw [← HE.out]
    cases D <;> rfl
  have hd : decide (4096 < (D.length : Int)) = false := decide_eq_false (by omega)
  have HD : Hid (bs D = ⟨D.toArray⟩) := Lib.hid rfl
  have HZ := Lib.hid hz
  clear hr hz
  cases neg
  · go_wp2_with fail
    have hh : (w.alloc (.cells #[.bool false, .string ⟨D.toArray⟩] 43)).heap[w.heap.size]? = some (.cells #[.bool false, .string ⟨D.toArray⟩] 43) := heap_alloc_at _ _
    have hB : Below w.heap.size w (w.alloc (.cells #[.bool false, .string ⟨D.toArray⟩] 43)) := (Below.refl _ _).alloc (Nat.le_refl _) _
    generalize w.alloc (.cells #[.bool false, .string ⟨D.toArray⟩] 43) = w1 at hh hB ⊢
    have c0 : w1.cell? ⟨w.heap.size, 0, none⟩ = some (.bool false) := by simp [World.cell?, hh]
    have c1 : w1.cell? ⟨w.heap.size, 1, none⟩ = some (.string ⟨D.toArray⟩) := by simp [World.cell?, hh]
    exact bodyPost_ret (v := .tuple #[.agg #[.bool false, .string ⟨D.toArray⟩], .int .i64 0]) (by simp [results, Tryz.results62, go_sem, c0, c1]) rfl ⟨rfl, hB⟩
  · go_wp2_with fail
    obtain ⟨y, hy⟩ : ∃ y, decide (0 < D.length) = y := ⟨_, rfl⟩
    have HY := Lib.hid (show (!z) = y by rw [HZ.out, ← hy]; cases D <;> simp)
    rw [hy]
    have hh : (w.alloc (.cells #[.bool y, .string ⟨D.toArray⟩] 43)).heap[w.heap.size]? = some (.cells #[.bool y, .string ⟨D.toArray⟩] 43) := heap_alloc_at _ _
    have hB : Below w.heap.size w (w.alloc (.cells #[.bool y, .string ⟨D.toArray⟩] 43)) := (Below.refl _ _).alloc (Nat.le_refl _) _
    generalize w.alloc (.cells #[.bool y, .string ⟨D.toArray⟩] 43) = w1 at hh hB ⊢
    have c0 : w1.cell? ⟨w.heap.size, 0, none⟩ = some (.bool y) := by simp [World.cell?, hh]
    have c1 : w1.cell? ⟨w.heap.size, 1, none⟩ = some (.string ⟨D.toArray⟩) := by simp [World.cell?, hh]
    exact bodyPost_ret (v := .tuple #[.agg #[.bool y, .string ⟨D.toArray⟩], .int .i64 0]) (by simp [results, Tryz.results62, go_sem, c0, c1]) rfl ⟨by rw [Bool.true_and, HY.out], hB⟩
theorem canon_snoc {l : List UInt8} {c : UInt8} (h : c ≠ 0) : Pl.Canon (l ++ [c]) := by
  unfold Pl.Canon
  rw [List.getLast?_append]
  simpa using h
set_option maxRecDepth 4000 in
set_option maxHeartbeats 2000000 in
theorem rof_any (n : Int) (w : World) (h1 : -9223372036854775808 ≤ n) (h2 : n ≤ 9223372036854775807) :
    Calls Tryz.prog 20 #[.int .i64 n] w fun e w' => e = .returned (lof n) ∧ Below w.heap.size w w' := by
  obtain ⟨A, hA⟩ : ∃ A, n.natAbs = A := ⟨_, rfl⟩
  have hAl : A < 18446744073709551616 := by omega
  have HL : Hid (lof n = .agg #[.bool (decide (n < 0)), .string (bs (Pl.dgs A))]) := Lib.hid (by unfold lof lv; rw [hA])
  rw [HL.out]
  have hcase : (decide (n < 0) = true ∧ IntKind.u64.wrap (-IntKind.u64.wrap n) = (A : Int)) ∨ (decide (n < 0) = false ∧ IntKind.u64.wrap n = (A : Int)) := by
    by_cases h : n < 0
    · exact .inl ⟨decide_eq_true h, by rw [IntKind.wrap_u64, IntKind.wrap_u64]; omega⟩
    · exact .inr ⟨decide_eq_false h, by rw [IntKind.wrap_u64]; omega⟩
  clear hA HL
  rcases hcase with ⟨hd, hw⟩ | ⟨hd, hw⟩
  · go_enter Tryz.func20, Tryz.ntmps20
    go_wp2_with fail
    obtain ⟨W0, hW0⟩ : ∃ W0, w.alloc (.cells #[.bool false, .string ⟨#[]⟩] 43) = W0 := ⟨_, rfl⟩
    have hW1 : W0.heap.size = w.heap.size + 1 := by rw [← hW0]; simp
    have HW2 := Lib.hid (show W0.heap[w.heap.size]? = some (.cells #[.bool false, .string ⟨#[]⟩] 43) by rw [← hW0]; exact heap_alloc_at _ _)
    have HW3 := Lib.hid (show Below w.heap.size w W0 by rw [← hW0]; exact (Below.refl _ _).alloc (Nat.le_refl _) _)
    rw [hW0]
    have HSZ := Lib.hid hW1
    clear hW0 hW1
    go_loopw [3, 4] (fun s y wr => ∃ (x : Nat) (out : List UInt8), y = .int .u64 x ∧ x < 18446744073709551616 ∧ out.length ≤ 8 ∧ Hid (Pl.le out + 256 ^ out.length * x = A ∧ (x = 0 → Pl.Canon out)) ∧ Owns wr (w.heap.size + 1) 5 1 s out.length (bc out) ∧ Below (w.heap.size + 1) W0 wr ∧ w.heap.size + 1 ≤ wr.heap.size) (fun _ y _ => (RowKit.intOf y).toNat)
    case atStart => exact ⟨A, [], rfl, hAl, by simp, Lib.hid ⟨by simp [Pl.le], fun _ => by simp [Pl.Canon]⟩, Owns.nil _ _ _ _, Below.refl _ _, by rw [HSZ.out]; omega⟩
    case round =>
      obtain ⟨x, out, rfl, hxl, hol, hval, ho, hB, hs⟩ := hrel
      have HO := Lib.hid ho
      have HB := Lib.hid hB
      obtain ⟨a1, c1, rfl⟩ := ho.form
      clear ho hB
      by_cases hp : 0 < x
      · obtain ⟨hv, _⟩ := hval.out
        have hlen : out.length < 8 := by
          rcases Nat.lt_or_ge out.length 8 with h | h
          · exact h
          · have h3 : 256 ^ 8 ≤ 256 ^ out.length := Nat.pow_le_pow_right (by decide) h
            have h4 : 256 ^ out.length * 1 ≤ 256 ^ out.length * x := Nat.mul_le_mul_left _ hp
            have h5 : (256 : Nat) ^ 8 = 18446744073709551616 := by decide
            omega
        obtain ⟨r, hr⟩ : ∃ r, x % 256 = r := ⟨_, rfl⟩
        obtain ⟨q, hq⟩ : ∃ q, x / 256 = q := ⟨_, rfl⟩
        have hrl : r < 256 := by omega
        have hx : x = r + 256 * q := by omega
        have HV := Lib.hid (show Pl.le (out ++ [UInt8.ofNat r]) + 256 ^ (out ++ [UInt8.ofNat r]).length * q = A ∧ (q = 0 → Pl.Canon (out ++ [UInt8.ofNat r])) by
          constructor
          · rw [Pl.le_snoc_u8 _ _ hrl, List.length_append, List.length_singleton, Nat.pow_succ, ← hv, hx, Nat.mul_add, Nat.mul_assoc]
            omega
          · intro h0
            apply canon_snoc
            intro e
            have e2 := congrArg UInt8.toNat e
            simp [UInt8.toNat_ofNat'] at e2
            omega)
        have hrI : (x : Int) % 256 = (r : Int) := by omega
        have hqI : (x : Int) / 256 = (q : Int) := by omega
        have hrT : (x : Int).tmod 256 = (r : Int) := by rw [Int.tmod_eq_emod_of_nonneg (by omega)]; omega
        have hqT : (x : Int).tdiv 256 = (q : Int) := by rw [Int.tdiv_eq_ediv_of_nonneg (by omega)]; omega
        have hqx : q < x := by omega
        have hdp : decide (0 < (x : Int)) = true := decide_eq_true (by omega)
        clear hv hval hr hq hx
        go_wp2_with (at_builtin; refine wpList_app rfl (.tmp 13) (.tmp 17) rfl (w.heap.size + 1) _ _ _ rfl HO.out [.int .u8 (r : Int)] rfl (ones (news := [(r : Int)])) (by simp only [List.length_cons, List.length_nil]; omega) (by omega) ?_)
        intro v2 w2 ho2 hg2
        have HO2 := Lib.hid ho2
        have HG2 := Lib.hid hg2
        obtain ⟨a2, c2, rfl⟩ := ho2.form
        clear ho2 hg2
        go_wp2_with fail
        go_roundw
        case rel =>
          refine ⟨q, out ++ [UInt8.ofNat r], by go_num, by omega, by simp; omega, HV, ?_, HG2.out.below HB.out hs (fun g hg => (HO.out.lt g hg).1), Nat.le_trans hs HG2.out.1.size⟩
          have h2 := HO2.out
          rw [bc_app, bc_one hrl, List.length_append]
          exact h2
        case measure => simp [RowKit.intOf]; omega
      · obtain rfl : x = 0 := by omega
        obtain ⟨hv, hcn⟩ := hval.out
        have HD := Lib.hid (show out = Pl.dgs A from Pl.le_inj (hcn rfl) (Pl.canon_dgs A) (by rw [Pl.le_dgs, ← hv]; simp))
        have hres : wr.heap[w.heap.size]? = some (.cells #[.bool false, .string ⟨#[]⟩] 43) := by rw [HB.out.block _ (by omega)]; exact HW2.out
        have r0 : wr.cell? ⟨w.heap.size, 0, none⟩ = some (.bool false) := by simp [World.cell?, hres]
        have r1 : wr.cell? ⟨w.heap.size, 1, none⟩ = some (.string ⟨#[]⟩) := by simp [World.cell?, hres]
        have f0 : wr.frozen? ⟨w.heap.size, 0, none⟩ = false := by simp [World.frozen?, hres]
        have f1 : wr.frozen? ⟨w.heap.size, 1, none⟩ = false := by simp [World.frozen?, hres]
        have hst := run_string_of_rdb (RdB.of_owns HO.out)
        have HBW := Lib.hid (show Below w.heap.size w wr from HW3.out.trans (HB.out.mono (by omega)))
        obtain ⟨S, hS⟩ : ∃ S : ByteArray, (⟨out.toArray⟩ : ByteArray) = S := ⟨_, rfl⟩
        rw [hS] at hst
        have HS := Lib.hid (show bs (Pl.dgs A) = S by rw [← HD.out, ← hS])
        clear hv hcn hval hres hS
        go_wp2_with fail
        obtain ⟨k0, k1, kB⟩ := two_set wr w.heap.size (.bool (decide (n < 0))) (.string S) r0 r1
        rw [hd] at k0 k1 kB
        refine bodyPost_ret (v := .agg #[.bool true, .string S]) (by simp [results, Tryz.results20, go_sem, k0, k1]) rfl ⟨by rw [hd, HS.out], HBW.out.trans kB⟩
  · go_enter Tryz.func20, Tryz.ntmps20
    go_wp2_with fail
    obtain ⟨W0, hW0⟩ : ∃ W0, w.alloc (.cells #[.bool false, .string ⟨#[]⟩] 43) = W0 := ⟨_, rfl⟩
    have hW1 : W0.heap.size = w.heap.size + 1 := by rw [← hW0]; simp
    have HW2 := Lib.hid (show W0.heap[w.heap.size]? = some (.cells #[.bool false, .string ⟨#[]⟩] 43) by rw [← hW0]; exact heap_alloc_at _ _)
    have HW3 := Lib.hid (show Below w.heap.size w W0 by rw [← hW0]; exact (Below.refl _ _).alloc (Nat.le_refl _) _)
    rw [hW0]
    have HSZ := Lib.hid hW1
    clear hW0 hW1
    go_loopw [3, 4] (fun s y wr => ∃ (x : Nat) (out : List UInt8), y = .int .u64 x ∧ x < 18446744073709551616 ∧ out.length ≤ 8 ∧ Hid (Pl.le out + 256 ^ out.length * x = A ∧ (x = 0 → Pl.Canon out)) ∧ Owns wr (w.heap.size + 1) 5 1 s out.length (bc out) ∧ Below (w.heap.size + 1) W0 wr ∧ w.heap.size + 1 ≤ wr.heap.size) (fun _ y _ => (RowKit.intOf y).toNat)
    case atStart => exact ⟨A, [], rfl, hAl, by simp, Lib.hid ⟨by simp [Pl.le], fun _ => by simp [Pl.Canon]⟩, Owns.nil _ _ _ _, Below.refl _ _, by rw [HSZ.out]; omega⟩
    case round =>
      obtain ⟨x, out, rfl, hxl, hol, hval, ho, hB, hs⟩ := hrel
      have HO := Lib.hid ho
      have HB := Lib.hid hB
      obtain ⟨a1, c1, rfl⟩ := ho.form
      clear ho hB
      by_cases hp : 0 < x
      · obtain ⟨hv, _⟩ := hval.out
        have hlen : out.length < 8 := by
          rcases Nat.lt_or_ge out.length 8 with h | h
          · exact h
          · have h3 : 256 ^ 8 ≤ 256 ^ out.length := Nat.pow_le_pow_right (by decide) h
            have h4 : 256 ^ out.length * 1 ≤ 256 ^ out.length * x := Nat.mul_le_mul_left _ hp
            have h5 : (256 : Nat) ^ 8 = 18446744073709551616 := by decide
            omega
        obtain ⟨r, hr⟩ : ∃ r, x % 256 = r := ⟨_, rfl⟩
        obtain ⟨q, hq⟩ : ∃ q, x / 256 = q := ⟨_, rfl⟩
        have hrl : r < 256 := by omega
        have hx : x = r + 256 * q := by omega
        have HV := Lib.hid (show Pl.le (out ++ [UInt8.ofNat r]) + 256 ^ (out ++ [UInt8.ofNat r]).length * q = A ∧ (q = 0 → Pl.Canon (out ++ [UInt8.ofNat r])) by
          constructor
          · rw [Pl.le_snoc_u8 _ _ hrl, List.length_append, List.length_singleton, Nat.pow_succ, ← hv, hx, Nat.mul_add, Nat.mul_assoc]
            omega
          · intro h0
            apply canon_snoc
            intro e
            have e2 := congrArg UInt8.toNat e
            simp [UInt8.toNat_ofNat'] at e2
            omega)
        have hrI : (x : Int) % 256 = (r : Int) := by omega
        have hqI : (x : Int) / 256 = (q : Int) := by omega
        have hrT : (x : Int).tmod 256 = (r : Int) := by rw [Int.tmod_eq_emod_of_nonneg (by omega)]; omega
        have hqT : (x : Int).tdiv 256 = (q : Int) := by rw [Int.tdiv_eq_ediv_of_nonneg (by omega)]; omega
        have hqx : q < x := by omega
        have hdp : decide (0 < (x : Int)) = true := decide_eq_true (by omega)
        clear hv hval hr hq hx
        go_wp2_with (at_builtin; refine wpList_app rfl (.tmp 13) (.tmp 17) rfl (w.heap.size + 1) _ _ _ rfl HO.out [.int .u8 (r : Int)] rfl (ones (news := [(r : Int)])) (by simp only [List.length_cons, List.length_nil]; omega) (by omega) ?_)
        intro v2 w2 ho2 hg2
        have HO2 := Lib.hid ho2
        have HG2 := Lib.hid hg2
        obtain ⟨a2, c2, rfl⟩ := ho2.form
        clear ho2 hg2
        go_wp2_with fail
        go_roundw
        case rel =>
          refine ⟨q, out ++ [UInt8.ofNat r], by go_num, by omega, by simp; omega, HV, ?_, HG2.out.below HB.out hs (fun g hg => (HO.out.lt g hg).1), Nat.le_trans hs HG2.out.1.size⟩
          have h2 := HO2.out
          rw [bc_app, bc_one hrl, List.length_append]
          exact h2
        case measure => simp [RowKit.intOf]; omega
      · obtain rfl : x = 0 := by omega
        obtain ⟨hv, hcn⟩ := hval.out
        have HD := Lib.hid (show out = Pl.dgs A from Pl.le_inj (hcn rfl) (Pl.canon_dgs A) (by rw [Pl.le_dgs, ← hv]; simp))
        have hres : wr.heap[w.heap.size]? = some (.cells #[.bool false, .string ⟨#[]⟩] 43) := by rw [HB.out.block _ (by omega)]; exact HW2.out
        have r0 : wr.cell? ⟨w.heap.size, 0, none⟩ = some (.bool false) := by simp [World.cell?, hres]
        have r1 : wr.cell? ⟨w.heap.size, 1, none⟩ = some (.string ⟨#[]⟩) := by simp [World.cell?, hres]
        have f0 : wr.frozen? ⟨w.heap.size, 0, none⟩ = false := by simp [World.frozen?, hres]
        have f1 : wr.frozen? ⟨w.heap.size, 1, none⟩ = false := by simp [World.frozen?, hres]
        have hst := run_string_of_rdb (RdB.of_owns HO.out)
        have HBW := Lib.hid (show Below w.heap.size w wr from HW3.out.trans (HB.out.mono (by omega)))
        obtain ⟨S, hS⟩ : ∃ S : ByteArray, (⟨out.toArray⟩ : ByteArray) = S := ⟨_, rfl⟩
        rw [hS] at hst
        have HS := Lib.hid (show bs (Pl.dgs A) = S by rw [← HD.out, ← hS])
        clear hv hcn hval hres hS
        go_wp2_with fail
        obtain ⟨k0, k1, kB⟩ := two_set wr w.heap.size (.bool (decide (n < 0))) (.string S) r0 r1
        rw [hd] at k0 k1 kB
        refine bodyPost_ret (v := .agg #[.bool false, .string S]) (by simp [results, Tryz.results20, go_sem, k0, k1]) rfl ⟨by rw [hd, HS.out], HBW.out.trans kB⟩
set_option maxRecDepth 4000 in
set_option maxHeartbeats 1000000 in
theorem rcheck_any (neg : Bool) (V : Nat) (w : World) (hV : V < 256 ^ 4096) (hn : neg = true → V ≠ 0) :
    Calls Tryz.prog 63 #[lv neg (Pl.dgs V)] w fun e w' => e = .returned (.int .i64 0) ∧ Below w.heap.size w w' := by
  have hlen := Pl.dgs_len hV
  have hcan := Pl.canon_dgs V
  have hemp := Pl.dgs_empty V
  unfold lv
  have hsz : (bs (Pl.dgs V)).size = (Pl.dgs V).length := rfl
  have HAT := Lib.hid (at_bs (Pl.dgs V))
  generalize Pl.dgs V = D at *
  generalize bs D = s at *
  by_cases h0 : D = []
  · subst h0
    have hn0 : neg = false := by
      cases neg
      · rfl
      · exact absurd (by simpa using hemp) (hn rfl)
    subst hn0
    rw [List.length_nil] at hsz
    clear hn hV hcan hemp HAT hlen
    go_enter Tryz.func63, Tryz.ntmps63
    go_wp2_with fail
    go_ret
    exact ⟨rfl, (Below.refl _ _).alloc (Nat.le_refl _) _⟩
  · obtain ⟨n, hnl⟩ : ∃ n, D.length = n + 1 := ⟨D.length - 1, by have := List.length_pos_iff.2 h0; omega⟩
    have hlast : n < D.length := by omega
    have q : n < s.size := by omega
    have ak : s[n]'q = D[n] := HAT.out.get hlast q (by omega)
    have hc0 : D[n] ≠ 0 := by
      intro e
      apply hcan
      rw [List.getLast?_eq_getElem?, hnl, Nat.add_sub_cancel, List.getElem?_eq_getElem hlast, e]
    have hbq := u8_beq D[n]
    rw [show (D[n] == 0) = false by simpa using hc0] at hbq
    generalize D[n] = c at *
    rw [hnl] at hsz hlen
    clear hn hV hcan hemp HAT h0 hc0 hnl hlast
    have hd : decide (4096 < (n : Int) + 1) = false := decide_eq_false (by omega)
    have hd1 : (((n : Int) + 1) == 0) = false := by rw [beq_eq_false_iff_ne]; omega
    have hd2 : decide (0 < (n : Int) + 1) = true := decide_eq_true (by omega)
    go_enter Tryz.func63, Tryz.ntmps63
    go_wp2_with fail
    go_ret
    exact ⟨rfl, (Below.refl _ _).alloc (Nat.le_refl _) _⟩
end Go.Proofs.YtlodbibagmblkaaGreatDoor
