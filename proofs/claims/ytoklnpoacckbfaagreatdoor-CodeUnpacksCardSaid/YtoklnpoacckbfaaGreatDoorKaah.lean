/- Plain: literals: which may be, how many things they have, how deep they go; what a code is; which codes may be run. Literals, instructions, units as they lie in memory; what lies there stays, while old memory does. -/
import Derived.Test.YtoklnpoacckbfaaGreatDoorKaad
import Derived.Test.YtoklnpoacckbfaaGreatDoorKaae
import Derived.Test.YtoklnpoacckbfaaGreatDoorKaag
import Derived.Below
namespace Go.Proofs.YtoklnpoacckbfaaGreatDoor
namespace Pl
inductive Lit where
  | mk (kind : Nat) (n : Int) (bits : Nat) (text : ByteArray) (items : List Lit)
def Lit.kind : Lit → Nat | .mk k _ _ _ _ => k
def Lit.n : Lit → Int | .mk _ n _ _ _ => n
def Lit.bits : Lit → Nat | .mk _ _ b _ _ => b
def Lit.text : Lit → ByteArray | .mk _ _ _ t _ => t
def Lit.items : Lit → List Lit | .mk _ _ _ _ l => l
theorem Lit.eta (x : Lit) : x = .mk x.kind x.n x.bits x.text x.items := by cases x; rfl
def noText (t : ByteArray) : Bool := decide (t.size = 0)
mutual
/-- may a literal be? -/
def litOk (inside : Bool) : Lit → Bool
  | .mk k n b t l =>
    if k = 1 ∨ k = 2 ∨ k = 3 then inside && decide (n = 0) && decide (b = 0) && noText t && l.isEmpty
    else if k = 4 then decide (-1152921504606846976 ≤ n ∧ n ≤ 1152921504606846975) && decide (b = 0) && noText t && l.isEmpty
    else if k = 5 then largeText t.data.toList && decide (n = 0) && decide (b = 0) && l.isEmpty
    else if k = 6 then decide (b / 4503599627370496 % 2048 ≠ 2047) && decide (n = 0) && noText t && l.isEmpty
    else if k = 7 then decide (0 ≤ n ∧ n ≤ 255) && decide (b = 0) && noText t && l.isEmpty
    else if k = 8 ∨ k = 9 ∨ k = 11 then decide (n = 0) && decide (b = 0) && l.isEmpty
    else if k = 10 then litsOk l && decide (n = 0) && decide (b = 0) && noText t
    else false
def litsOk : List Lit → Bool
  | [] => true
  | x :: r => litOk true x && litsOk r
end
mutual
/-- are there too many things in it? -/
def litMany : Lit → Bool
  | .mk k _ _ t l => decide (255 < l.length) || decide (k = 11) && decide (255 < t.size) || litsMany l
def litsMany : List Lit → Bool
  | [] => false
  | x :: r => litMany x || litsMany r
end
mutual
/-- how deep it goes -/
def litDeep : Lit → Nat
  | .mk k _ _ _ l => if k = 10 then litsDeep l + 1 else 0
def litsDeep : List Lit → Nat
  | [] => 0
  | x :: r => max (litDeep x) (litsDeep r)
end
mutual
/-- how many things it has -/
def litBig : Lit → Nat
  | .mk _ _ _ t l => 1 + t.size + litsBig l
def litsBig : List Lit → Nat
  | [] => 0
  | x :: r => litBig x + litsBig r
end
theorem litsOk_iff (l : List Lit) : litsOk l = l.all (litOk true) := by
  induction l with
  | nil => rfl
  | cons x r ih => unfold litsOk; rw [ih, List.all_cons]
theorem litsMany_iff (l : List Lit) : litsMany l = l.any litMany := by
  induction l with
  | nil => rfl
  | cons x r ih => unfold litsMany; rw [ih, List.any_cons]
/-- the error of a literal as an expression: 0: it may be one -/
def litErr (x : Lit) : Nat := if litOk false x = false then 150 else if litMany x = true then 151 else if 40 < litDeep x then 152 else 0
/-- codes -/
structure Cod where
  sel : ByteArray
  prim : Int
  lits : List Lit
  units : List Unt
def in_ (n lo hi : Int) : Prop := lo ≤ n ∧ n ≤ hi
instance (n lo hi : Int) : Decidable (in_ n lo hi) := by unfold in_; infer_instance
structure UntForm (u : Unt) : Prop where
  a : in_ u.args 0 15
  c : in_ u.copied 0 63
  l : in_ u.locals 0 63
  f : u.args + u.copied + u.locals ≤ 63
  s : in_ u.stack 0 250
  n : 1 ≤ u.code.length ∧ u.code.length ≤ 65535
structure Formed (c : Cod) : Prop where
  ar : 0 ≤ arity c.sel.data.toList
  p : in_ c.prim 0 255
  nl : c.lits.length ≤ 255
  nu : 1 ≤ c.units.length ∧ c.units.length ≤ 255
  l : ∀ x ∈ c.lits, litErr x = 0
  u : ∀ u ∈ c.units, UntForm u
  a0 : ∀ u, c.units[0]? = some u → u.args = arity c.sel.data.toList ∧ u.copied = 0
/-- self, super, nil, true, false -/
def taken (s : ByteArray) : Prop := s.toList = [115, 101, 108, 102] ∨ s.toList = [115, 117, 112, 101, 114] ∨ s.toList = [110, 105, 108] ∨ s.toList = [116, 114, 117, 101] ∨ s.toList = [102, 97, 108, 115, 101]
/-- the symbol that is a literal -/
def symbol (l : List Lit) (a : Int) : Option ByteArray :=
  if 0 ≤ a then (match l[a.toNat]? with
    | some x => if x.kind = 9 then some x.text else none
    | none => none) else none
def unt (l : List Unt) (i : Nat) : Unt := l.getD i ⟨0, 0, 0, 0, []⟩
/-- may an instruction stand in a unit? -/
def Stands (lits : List Lit) (units : List Unt) (i : Nat) (x : Ins) : Prop :=
  (bytesA x.op = 0 → x.a = 0) ∧ (two x.op = false → x.b = 0) ∧
  (if 1 ≤ x.op ∧ x.op ≤ 4 ∨ x.op = 14 ∨ x.op = 15 ∨ x.op = 21 then True
  else if x.op = 22 then 0 < i
  else if x.op = 5 then in_ x.a 0 ((lits.length : Int) - 1)
  else if x.op = 6 ∨ x.op = 10 then in_ x.a 0 ((unt units i).args + (unt units i).copied + (unt units i).locals - 1)
  else if x.op = 7 ∨ x.op = 11 then in_ x.a 0 ((unt units i).args + (unt units i).copied + (unt units i).locals - 1) ∧ in_ x.b 0 62
  else if x.op = 8 ∨ x.op = 12 ∨ x.op = 24 then in_ x.a 0 255
  else if x.op = 9 ∨ x.op = 13 then ∃ s, symbol lits x.a = some s ∧ name s.data.toList = true ∧ ¬ taken s
  else if x.op = 16 ∨ x.op = 17 then ∃ s, symbol lits x.a = some s ∧ in_ x.b 0 15 ∧ arity s.data.toList = x.b
  else if x.op = 18 ∨ x.op = 19 ∨ x.op = 20 then in_ x.a 0 (((unt units i).code.length : Int) - 1)
  else if x.op = 23 then in_ x.a 1 63
  else if x.op = 25 then in_ x.a ((i : Int) + 1) ((units.length : Int) - 1) ∧ x.b = (unt units x.a.toNat).copied
  else False)
def AllStand (c : Cod) : Prop := ∀ i u, c.units[i]? = some u → ∀ x ∈ u.code, Stands c.lits c.units i x
def AllFit (c : Cod) : Prop := ∀ u ∈ c.units, Fits u.code u.stack
open Classical in
/-- the error of a code: 0: it may be run -/
noncomputable def check (c : Cod) : Nat := if ¬ Formed c then 200 else if ¬ AllStand c then 201 else if ¬ AllFit c then 202 else 0
theorem check_ok {c : Cod} : check c = 0 ↔ Formed c ∧ AllStand c ∧ AllFit c := by
  unfold check
  by_cases h1 : Formed c <;> by_cases h2 : AllStand c <;> by_cases h3 : AllFit c <;> simp [h1, h2, h3]
/-- what may be run has bytes -/
theorem Stands.insOk {lits : List Lit} {units : List Unt} {i : Nat} {x : Ins} (h : Stands lits units i x) (hl : lits.length ≤ 255) (hu : units.length ≤ 255) (hf : ∀ u ∈ units, UntForm u) : InsOk x := by
  obtain ⟨h1, h2, h3⟩ := h
  have hcode : (unt units i).code.length ≤ 65535 ∧ (unt units i).args + (unt units i).copied + (unt units i).locals ≤ 63 := by
    unfold unt
    rw [List.getD_eq_getElem?_getD]
    cases e : units[i]? with
    | none => simp
    | some u => exact ⟨(hf u (List.mem_of_getElem? e)).n.2, (hf u (List.mem_of_getElem? e)).f⟩
  have hcop : ∀ k, 0 ≤ (unt units k).copied ∧ (unt units k).copied ≤ 63 := by
    intro k
    unfold unt
    rw [List.getD_eq_getElem?_getD]
    cases e : units[k]? with
    | none => simp
    | some u => exact (hf u (List.mem_of_getElem? e)).c
  have hsym : ∀ s, symbol lits x.a = some s → 0 ≤ x.a ∧ x.a ≤ 255 := by
    intro s hs
    unfold symbol at hs
    by_cases ha : 0 ≤ x.a
    · rw [if_pos ha] at hs
      cases e : lits[x.a.toNat]? with
      | none => rw [e] at hs; cases hs
      | some y => have := (List.getElem?_eq_some_iff.1 e).1; omega
    · rw [if_neg ha] at hs; cases hs
  have key : known x.op ∧ (bytesA x.op = 1 → InByte x.a) ∧ (bytesA x.op = 2 → 0 ≤ x.a ∧ x.a ≤ 65535) ∧ (two x.op = true → InByte x.b) := by
    have ht : two x.op = true ↔ (x.op = 7 ∨ x.op = 11 ∨ x.op = 16 ∨ x.op = 17 ∨ x.op = 25) := by unfold two; simp
    rw [ht]
    have hfst := bytesA_le x.op
    have hf1 : bytesA x.op = 1 → ¬ (18 ≤ x.op ∧ x.op ≤ 20) ∧ ¬ (1 ≤ x.op ∧ x.op ≤ 4 ∨ x.op = 14 ∨ x.op = 15 ∨ x.op = 21 ∨ x.op = 22) := by
      unfold bytesA; split
      · intro h; omega
      · split
        · intro h; omega
        · intro _; exact ⟨‹_›, ‹_›⟩
    have hf2 : bytesA x.op = 2 → 18 ≤ x.op ∧ x.op ≤ 20 := by
      unfold bytesA; split
      · intro _; assumption
      · split <;> (intro h; omega)
    unfold known InByte
    unfold in_ at h3
    by_cases c0 : 1 ≤ x.op ∧ x.op ≤ 4 ∨ x.op = 14 ∨ x.op = 15 ∨ x.op = 21
    · exact ⟨by omega, fun h => by have := hf1 h; omega, fun h => by have := hf2 h; omega, fun h => by omega⟩
    rw [if_neg c0] at h3
    by_cases c1 : x.op = 22
    · exact ⟨by omega, fun h => by have := hf1 h; omega, fun h => by have := hf2 h; omega, fun h => by omega⟩
    rw [if_neg c1] at h3
    by_cases c2 : x.op = 5
    · rw [if_pos c2] at h3
      exact ⟨by omega, fun h => by omega, fun h => by have := hf2 h; omega, fun h => by omega⟩
    rw [if_neg c2] at h3
    by_cases c3 : x.op = 6 ∨ x.op = 10
    · rw [if_pos c3] at h3
      exact ⟨by omega, fun h => by omega, fun h => by have := hf2 h; omega, fun h => by omega⟩
    rw [if_neg c3] at h3
    by_cases c4 : x.op = 7 ∨ x.op = 11
    · rw [if_pos c4] at h3
      exact ⟨by omega, fun h => by omega, fun h => by have := hf2 h; omega, fun h => by omega⟩
    rw [if_neg c4] at h3
    by_cases c5 : x.op = 8 ∨ x.op = 12 ∨ x.op = 24
    · rw [if_pos c5] at h3
      exact ⟨by omega, fun h => by omega, fun h => by have := hf2 h; omega, fun h => by omega⟩
    rw [if_neg c5] at h3
    by_cases c6 : x.op = 9 ∨ x.op = 13
    · rw [if_pos c6] at h3
      obtain ⟨s, hs, _⟩ := h3
      have := hsym s hs
      exact ⟨by omega, fun h => by omega, fun h => by have := hf2 h; omega, fun h => by omega⟩
    rw [if_neg c6] at h3
    by_cases c7 : x.op = 16 ∨ x.op = 17
    · rw [if_pos c7] at h3
      obtain ⟨s, hs, hb, _⟩ := h3
      have := hsym s hs
      exact ⟨by omega, fun h => by omega, fun h => by have := hf2 h; omega, fun h => by omega⟩
    rw [if_neg c7] at h3
    by_cases c8 : x.op = 18 ∨ x.op = 19 ∨ x.op = 20
    · rw [if_pos c8] at h3
      exact ⟨by omega, fun h => by have := hf1 h; omega, fun h => by omega, fun h => by omega⟩
    rw [if_neg c8] at h3
    by_cases c9 : x.op = 23
    · rw [if_pos c9] at h3
      exact ⟨by omega, fun h => by omega, fun h => by have := hf2 h; omega, fun h => by omega⟩
    rw [if_neg c9] at h3
    by_cases c10 : x.op = 25
    · rw [if_pos c10] at h3
      have hc := hcop x.a.toNat
      obtain ⟨h4, h5⟩ := h3
      exact ⟨by omega, fun h => by omega, fun h => by have := hf2 h; omega, fun h => by omega⟩
    rw [if_neg c10] at h3
    exact h3.elim
  exact ⟨key.1, h1, key.2.1, key.2.2.1, h2, key.2.2.2⟩
theorem untOk_of {c : Cod} (hf : Formed c) (hs : AllStand c) : ∀ u ∈ c.units, UntOk u := by
  intro u hu
  have f := hf.u u hu
  obtain ⟨i, hi⟩ := List.mem_iff_getElem?.1 hu
  have fa := f.a; have fc := f.c; have fl := f.l; have fs := f.s
  unfold in_ at fa fc fl fs
  refine ⟨?_, ?_, ?_, ?_, f.n.2, fun x hx => (hs i u hi x hx).insOk hf.nl hf.nu.2 hf.u⟩
  all_goals (unfold InByte; omega)
theorem rd_of_check {c : Cod} (h : check c = 0) : rd (enc c.prim c.units) = some (c.prim, c.units) := by
  obtain ⟨hf, hs, _⟩ := check_ok.1 h
  have hp := hf.p
  unfold in_ at hp
  exact rd_enc (by unfold InByte; exact hp) hf.nu.2 (untOk_of hf hs)
end Pl
end Go.Proofs.YtoklnpoacckbfaaGreatDoor
namespace Go.Proofs.YtoklnpoacckbfaaGreatDoor
open Go.RowKit
namespace Pl
structure LitW (x : Lit) : Prop where
  k : x.kind < 256
  n0 : -9223372036854775808 ≤ x.n
  n1 : x.n ≤ 9223372036854775807
  b : x.bits < 18446744073709551616
  t : x.text.size ≤ 140737488355328
structure InsW (x : Ins) : Prop where
  k : x.op < 256
  a0 : -9223372036854775808 ≤ x.a
  a1 : x.a ≤ 9223372036854775807
  b0 : -9223372036854775808 ≤ x.b
  b1 : x.b ≤ 9223372036854775807
structure UntW (x : Unt) : Prop where
  a0 : -9223372036854775808 ≤ x.args
  a1 : x.args ≤ 9223372036854775807
  c0 : -9223372036854775808 ≤ x.copied
  c1 : x.copied ≤ 9223372036854775807
  l0 : -9223372036854775808 ≤ x.locals
  l1 : x.locals ≤ 9223372036854775807
  s0 : -9223372036854775808 ≤ x.stack
  s1 : x.stack ≤ 9223372036854775807
end Pl
/-- a slice value in whose elements' cells the things of a list lie: 'cs x v': the cells of x, v: the value of the last one -/
structure RowAt {α : Type} (size : Nat) (cs : α → Value → List Value) (w : World) (l : List α) (A : Option Addr) (cap : Nat) (V : Nat → Value) : Prop where
  le : l.length ≤ cap
  capL : cap ≤ maxLen
  len : l.length ≤ 140737488355328
  addr : l ≠ [] → ∃ b o, A = some ⟨b, o, none⟩
  nil : A = Option.none → cap = 0
  lt : l ≠ [] → ∀ a, A = some a → a.block < w.heap.size
  cells : ∀ b o, A = some ⟨b, o, none⟩ → ∀ (i : Nat) (x : α), l[i]? = some x → ∀ (j : Nat) (u : Value), (cs x (V i))[j]? = some u → w.cell? ⟨b, o + i * size + j, none⟩ = some u
theorem RowAt.keep {α : Type} {size : Nat} {cs : α → Value → List Value} {w w' : World} {l : List α} {A : Option Addr} {cap : Nat} {V : Nat → Value} (h : RowAt size cs w l A cap V) {B : Nat} (hb : Below B w w')
    (hB : l ≠ [] → ∀ a, A = some a → a.block < B) : RowAt size cs w' l A cap V := by
  refine ⟨h.le, h.capL, h.len, h.addr, h.nil, fun hn a ha => Nat.lt_of_lt_of_le (h.lt hn a ha) hb.size, ?_⟩
  intro b o e i x hx j u hu
  have hn : l ≠ [] := by rintro rfl; simp at hx
  rw [hb.cell (p := ⟨b, o + i * size + j, none⟩) (hB hn ⟨b, o, none⟩ e)]
  exact h.cells b o e i x hx j u hu
theorem RowAt.some_of {α : Type} {size : Nat} {cs : α → Value → List Value} {w : World} {l : List α} {A : Option Addr} {cap : Nat} {V : Nat → Value} (h : RowAt size cs w l A cap V) {i : Nat} (hi : i < l.length) : ∃ b o, A = some ⟨b, o, none⟩ ∧ b < w.heap.size := by
  have hn : l ≠ [] := by intro e; rw [e] at hi; simp at hi
  obtain ⟨b, o, e⟩ := h.addr hn
  exact ⟨b, o, e, h.lt hn _ e⟩
def litCells (x : Pl.Lit) (v : Value) : List Value := [.int .u8 x.kind, .int .i64 x.n, .int .u64 x.bits, .string x.text, v]
def insCells (x : Pl.Ins) (_ : Value) : List Value := [.int .u8 x.op, .int .i64 x.a, .int .i64 x.b]
def untCells (x : Pl.Unt) (v : Value) : List Value := [.int .i64 x.args, .int .i64 x.copied, .int .i64 x.locals, .int .i64 x.stack, v]
/-- a value reads as literals; all that it leads to lies below block B -/
inductive LitsAt (B : Nat) (w : World) : List Pl.Lit → Value → Prop
  | mk (A : Option Addr) (l : List Pl.Lit) (cap : Nat) (V : Nat → Value) (hB : l ≠ [] → ∀ a, A = some a → a.block < B) (h : RowAt 5 litCells w l A cap V) (hw : ∀ x ∈ l, Pl.LitW x) (hr : ∀ (i : Nat) (x : Pl.Lit), l[i]? = some x → LitsAt B w x.items (V i)) :
    LitsAt B w l (.slice A l.length cap)
theorem LitsAt.keep {B : Nat} {w w' : World} {l : List Pl.Lit} {v : Value} (h : LitsAt B w l v) (hb : Below B w w') : LitsAt B w' l v := by
  induction h with
  | mk A l cap V hB h hw _ ih => exact .mk A l cap V hB (h.keep hb hB) hw ih
theorem LitsAt.up {B C : Nat} {w : World} {l : List Pl.Lit} {v : Value} (h : LitsAt B w l v) (hC : B ≤ C) : LitsAt C w l v := by
  induction h with
  | mk A l cap V hB h hw _ ih => exact .mk A l cap V (fun hn a e => Nat.lt_of_lt_of_le (hB hn a e) hC) h hw ih
theorem LitsAt.out {B : Nat} {w : World} {l : List Pl.Lit} {v : Value} (h : LitsAt B w l v) : ∃ (A : Option Addr) (cap : Nat) (V : Nat → Value), v = .slice A l.length cap ∧ (l ≠ [] → ∀ a, A = some a → a.block < B) ∧ RowAt 5 litCells w l A cap V ∧ (∀ x ∈ l, Pl.LitW x) ∧ ∀ (i : Nat) (x : Pl.Lit), l[i]? = some x → LitsAt B w x.items (V i) := by
  cases h with
  | mk A l cap V hB h hw hr => exact ⟨A, cap, V, rfl, hB, h, hw, hr⟩
theorem LitsAt.len {B : Nat} {w : World} {l : List Pl.Lit} {v : Value} (h : LitsAt B w l v) : l.length ≤ 140737488355328 := by
  obtain ⟨_, _, _, _, _, h, _⟩ := h.out
  exact h.len
/-- instructions -/
def InssAt (B : Nat) (w : World) (l : List Pl.Ins) (v : Value) : Prop := ∃ A cap, v = .slice A l.length cap ∧ (l ≠ [] → ∀ a, A = some a → a.block < B) ∧ RowAt 3 insCells w l A cap (fun _ => .nilFunc) ∧ ∀ x ∈ l, Pl.InsW x
theorem InssAt.keep {B : Nat} {w w' : World} {l : List Pl.Ins} {v : Value} (h : InssAt B w l v) (hb : Below B w w') : InssAt B w' l v := by
  obtain ⟨A, cap, rfl, hB, hr, hw⟩ := h
  exact ⟨A, cap, rfl, hB, hr.keep hb hB, hw⟩
theorem InssAt.up {B C : Nat} {w : World} {l : List Pl.Ins} {v : Value} (h : InssAt B w l v) (hC : B ≤ C) : InssAt C w l v := by
  obtain ⟨A, cap, rfl, hB, hr, hw⟩ := h
  exact ⟨A, cap, rfl, fun hn a e => Nat.lt_of_lt_of_le (hB hn a e) hC, hr, hw⟩
/-- units -/
def UntsAt (B : Nat) (w : World) (l : List Pl.Unt) (v : Value) : Prop := ∃ A cap V, v = .slice A l.length cap ∧ (l ≠ [] → ∀ a, A = some a → a.block < B) ∧ RowAt 5 untCells w l A cap V ∧ (∀ x ∈ l, Pl.UntW x) ∧ ∀ (i : Nat) (x : Pl.Unt), l[i]? = some x → InssAt B w x.code (V i)
theorem UntsAt.keep {B : Nat} {w w' : World} {l : List Pl.Unt} {v : Value} (h : UntsAt B w l v) (hb : Below B w w') : UntsAt B w' l v := by
  obtain ⟨A, cap, V, rfl, hB, hr, hw, hi⟩ := h
  exact ⟨A, cap, V, rfl, hB, hr.keep hb hB, hw, fun i x hx => (hi i x hx).keep hb⟩
theorem UntsAt.up {B C : Nat} {w : World} {l : List Pl.Unt} {v : Value} (h : UntsAt B w l v) (hC : B ≤ C) : UntsAt C w l v := by
  obtain ⟨A, cap, V, rfl, hB, hr, hw, hi⟩ := h
  exact ⟨A, cap, V, rfl, fun hn a e => Nat.lt_of_lt_of_le (hB hn a e) hC, hr, hw, fun i x hx => (hi i x hx).up hC⟩
/-! the cells, one by one -/
theorem RowAt.lit {w : World} {l : List Pl.Lit} {b o cap : Nat} {V : Nat → Value} (h : RowAt 5 litCells w l (some ⟨b, o, none⟩) cap V) {i : Nat} {x : Pl.Lit} (hx : l[i]? = some x) :
    w.cell? ⟨b, o + i * 5, none⟩ = some (.int .u8 x.kind) ∧ w.cell? ⟨b, o + i * 5 + 1, none⟩ = some (.int .i64 x.n) ∧ w.cell? ⟨b, o + i * 5 + 2, none⟩ = some (.int .u64 x.bits) ∧
    w.cell? ⟨b, o + i * 5 + 3, none⟩ = some (.string x.text) ∧ w.cell? ⟨b, o + i * 5 + 4, none⟩ = some (V i) :=
  ⟨h.cells b o rfl i x hx 0 _ rfl, h.cells b o rfl i x hx 1 _ rfl, h.cells b o rfl i x hx 2 _ rfl, h.cells b o rfl i x hx 3 _ rfl, h.cells b o rfl i x hx 4 _ rfl⟩
theorem RowAt.ins {w : World} {l : List Pl.Ins} {b o cap : Nat} {V : Nat → Value} (h : RowAt 3 insCells w l (some ⟨b, o, none⟩) cap V) {i : Nat} {x : Pl.Ins} (hx : l[i]? = some x) :
    w.cell? ⟨b, o + i * 3, none⟩ = some (.int .u8 x.op) ∧ w.cell? ⟨b, o + i * 3 + 1, none⟩ = some (.int .i64 x.a) ∧ w.cell? ⟨b, o + i * 3 + 2, none⟩ = some (.int .i64 x.b) :=
  ⟨h.cells b o rfl i x hx 0 _ rfl, h.cells b o rfl i x hx 1 _ rfl, h.cells b o rfl i x hx 2 _ rfl⟩
theorem RowAt.unt {w : World} {l : List Pl.Unt} {b o cap : Nat} {V : Nat → Value} (h : RowAt 5 untCells w l (some ⟨b, o, none⟩) cap V) {i : Nat} {x : Pl.Unt} (hx : l[i]? = some x) :
    w.cell? ⟨b, o + i * 5, none⟩ = some (.int .i64 x.args) ∧ w.cell? ⟨b, o + i * 5 + 1, none⟩ = some (.int .i64 x.copied) ∧ w.cell? ⟨b, o + i * 5 + 2, none⟩ = some (.int .i64 x.locals) ∧
    w.cell? ⟨b, o + i * 5 + 3, none⟩ = some (.int .i64 x.stack) ∧ w.cell? ⟨b, o + i * 5 + 4, none⟩ = some (V i) :=
  ⟨h.cells b o rfl i x hx 0 _ rfl, h.cells b o rfl i x hx 1 _ rfl, h.cells b o rfl i x hx 2 _ rfl, h.cells b o rfl i x hx 3 _ rfl, h.cells b o rfl i x hx 4 _ rfl⟩
end Go.Proofs.YtoklnpoacckbfaaGreatDoor
