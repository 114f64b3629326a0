/- Plain: a code's bytes, and how they are read again. -/
import Derived.Test.YtoklnpoacckbfaaGreatDoorKaac
namespace Go.Proofs.YtoklnpoacckbfaaGreatDoor
namespace Pl
structure Unt where
  args : Int
  copied : Int
  locals : Int
  stack : Int
  code : List Ins
def known (op : Nat) : Prop := 1 ≤ op ∧ op ≤ 25
instance (op : Nat) : Decidable (known op) := by unfold known; infer_instance
/-- how many bytes an A has -/
def bytesA (op : Nat) : Nat :=
  if 18 ≤ op ∧ op ≤ 20 then 2 else if 1 ≤ op ∧ op ≤ 4 ∨ op = 14 ∨ op = 15 ∨ op = 21 ∨ op = 22 then 0 else 1
def two (op : Nat) : Bool := decide (op = 7 ∨ op = 11 ∨ op = 16 ∨ op = 17 ∨ op = 25)
def byte (n : Int) : Nat := (n % 256).toNat
theorem byte_lt (n : Int) : byte n < 256 := by unfold byte; omega
def encA (op : Nat) (a : Int) : List Nat := if bytesA op = 0 then [] else if bytesA op = 1 then [byte a] else [byte a, byte (a / 256)]
def encB (op : Nat) (b : Int) : List Nat := if two op = true then [byte b] else []
def encIns (x : Ins) : List Nat := byte x.op :: (encA x.op x.a ++ encB x.op x.b)
def encUnt (u : Unt) : List Nat := [byte u.args, byte u.copied, byte u.locals, byte u.stack, byte (u.code.length : Int), byte ((u.code.length : Int) / 256)] ++ u.code.flatMap encIns
def enc (prim : Int) (l : List Unt) : List Nat := [byte prim, byte (l.length : Int)] ++ l.flatMap encUnt
/-- reading -/
def rdA (op : Nat) (l : List Nat) : Option (Int × List Nat) :=
  if bytesA op = 0 then some (0, l) else if bytesA op = 1 then (match l with | a :: r => some ((a : Int), r) | [] => none)
  else (match l with | a :: b :: r => some ((a : Int) + 256 * b, r) | _ => none)
def rdB (op : Nat) (l : List Nat) : Option (Int × List Nat) :=
  if two op = true then (match l with | a :: r => some ((a : Int), r) | [] => none) else some (0, l)
def rdIns (q : Nat → Bool) (l : List Nat) : Option (Ins × List Nat) :=
  match l with
  | [] => none
  | op :: r => if q op = true then (match rdA op r with
      | none => none
      | some (a, r1) => (match rdB op r1 with
        | none => none
        | some (b, r2) => some (⟨op, a, b⟩, r2))) else none
def rdMany {α : Type} (rd : List Nat → Option (α × List Nat)) : Nat → List Nat → Option (List α × List Nat)
  | 0, l => some ([], l)
  | n + 1, l => (match rd l with
      | none => none
      | some (x, r) => (match rdMany rd n r with
        | none => none
        | some (xs, r1) => some (x :: xs, r1)))
def rdUnt (q : Nat → Bool) (l : List Nat) : Option (Unt × List Nat) :=
  match l with
  | a :: c :: o :: s :: m :: n :: r => (match rdMany (rdIns q) (m + 256 * n) r with
      | none => none
      | some (xs, r1) => some (⟨a, c, o, s, xs⟩, r1))
  | _ => none
def rdUnts (q : Nat → Bool) (l : List Nat) : Option ((Int × List Unt) × List Nat) :=
  match l with
  | p :: n :: r => (match rdMany (rdUnt q) n r with
      | none => none
      | some (us, r1) => some (((p : Int), us), r1))
  | _ => none
/-- the code that has these bytes -/
def rdQ (q : Nat → Bool) (l : List Nat) : Option (Int × List Unt) :=
  match rdUnts q l with
  | some (x, []) => some x
  | _ => none
def knownB (op : Nat) : Bool := decide (known op)
def rd (l : List Nat) : Option (Int × List Unt) := rdQ knownB l
/-! what is written is read -/
def InByte (n : Int) : Prop := 0 ≤ n ∧ n ≤ 255
theorem byte_in {n : Int} (h : InByte n) : ((byte n : Nat) : Int) = n := by unfold InByte at h; unfold byte; omega
structure InsOk (x : Ins) : Prop where
  op : known x.op
  a0 : bytesA x.op = 0 → x.a = 0
  a1 : bytesA x.op = 1 → InByte x.a
  a2 : bytesA x.op = 2 → 0 ≤ x.a ∧ x.a ≤ 65535
  b0 : two x.op = false → x.b = 0
  b1 : two x.op = true → InByte x.b
theorem bytesA_le (op : Nat) : bytesA op = 0 ∨ bytesA op = 1 ∨ bytesA op = 2 := by
  unfold bytesA; split
  · exact .inr (.inr rfl)
  · split
    · exact .inl rfl
    · exact .inr (.inl rfl)
theorem rd_encA {x : Ins} (h : InsOk x) (r : List Nat) : rdA x.op (encA x.op x.a ++ r) = some (x.a, r) := by
  unfold rdA encA
  rcases bytesA_le x.op with e | e | e
  · rw [if_pos e, if_pos e, h.a0 e]; rfl
  · rw [if_neg (by omega), if_pos e, if_neg (by omega), if_pos e]
    simp only [List.cons_append, List.nil_append]
    rw [byte_in (h.a1 e)]
  · rw [if_neg (by omega), if_neg (by omega), if_neg (by omega), if_neg (by omega)]
    simp only [List.cons_append, List.nil_append]
    have := h.a2 e
    have e2 : ((byte x.a : Nat) : Int) + 256 * ((byte (x.a / 256) : Nat) : Int) = x.a := by unfold byte; omega
    rw [e2]
theorem rd_encB {x : Ins} (h : InsOk x) (r : List Nat) : rdB x.op (encB x.op x.b ++ r) = some (x.b, r) := by
  unfold rdB encB
  cases e : two x.op
  · rw [h.b0 e]; rfl
  · simp only [if_true, List.cons_append, List.nil_append]
    rw [byte_in (h.b1 e)]
theorem rd_encIns {x : Ins} (h : InsOk x) (r : List Nat) : rdIns knownB (encIns x ++ r) = some (x, r) := by
  have ho : byte x.op = x.op := by have := h.op; unfold known at this; unfold byte; omega
  unfold rdIns encIns
  rw [List.cons_append, List.append_assoc]
  simp only [ho]
  rw [if_pos (show knownB x.op = true by unfold knownB; simpa using h.op), rd_encA h]
  simp only
  rw [rd_encB h]
theorem rd_many {α : Type} {rd : List Nat → Option (α × List Nat)} {en : α → List Nat} {p : α → Prop} (h : ∀ x r, p x → rd (en x ++ r) = some (x, r)) :
    ∀ (l : List α) (r : List Nat), (∀ x ∈ l, p x) → rdMany rd l.length (l.flatMap en ++ r) = some (l, r)
  | [], r, _ => rfl
  | x :: l, r, hp => by
    rw [List.flatMap_cons, List.append_assoc, List.length_cons]
    unfold rdMany
    rw [h x _ (hp x (List.mem_cons_self ..))]
    simp only
    rw [rd_many h l r (fun y hy => hp y (List.mem_cons_of_mem _ hy))]
structure UntOk (u : Unt) : Prop where
  a : InByte u.args
  c : InByte u.copied
  l : InByte u.locals
  s : InByte u.stack
  n : u.code.length ≤ 65535
  i : ∀ x ∈ u.code, InsOk x
theorem rd_encUnt {u : Unt} (h : UntOk u) (r : List Nat) : rdUnt knownB (encUnt u ++ r) = some (u, r) := by
  unfold encUnt
  rw [List.append_assoc]
  simp only [List.cons_append, List.nil_append]
  unfold rdUnt
  simp only
  have hn := h.n
  have e : byte (u.code.length : Int) + 256 * byte ((u.code.length : Int) / 256) = u.code.length := by unfold byte; omega
  rw [e, rd_many (p := InsOk) (fun x r hx => rd_encIns hx r) u.code r h.i]
  simp only
  rw [byte_in h.a, byte_in h.c, byte_in h.l, byte_in h.s]
theorem rd_enc {prim : Int} {l : List Unt} (hp : InByte prim) (hl : l.length ≤ 255) (h : ∀ u ∈ l, UntOk u) : rd (enc prim l) = some (prim, l) := by
  unfold enc rd rdQ
  simp only [List.cons_append, List.nil_append]
  unfold rdUnts
  simp only
  have e : byte (l.length : Int) = l.length := by unfold byte; omega
  have := rd_many (p := UntOk) (fun x r hx => rd_encUnt hx r) l [] h
  rw [List.append_nil] at this
  rw [e, this]
  simp only
  rw [byte_in hp]
/-! what is read is written -/
theorem encA_rd {op : Nat} {l r : List Nat} {a : Int} (hl : ∀ x ∈ l, x < 256) (h : rdA op l = some (a, r)) : l = encA op a ++ r ∧ (bytesA op = 0 → a = 0) ∧ (bytesA op = 1 → InByte a) ∧ (bytesA op = 2 → 0 ≤ a ∧ a ≤ 65535) := by
  unfold rdA at h; unfold encA InByte
  rcases bytesA_le op with e | e | e
  · rw [if_pos e] at h
    injection h with h; injection h with h1 h2
    subst h1 h2
    rw [if_pos e]
    exact ⟨rfl, fun _ => rfl, fun h => by omega, fun h => by omega⟩
  · rw [if_neg (by omega), if_pos e] at h
    cases l with
    | nil => simp at h
    | cons x t =>
      simp only [Option.some.injEq, Prod.mk.injEq] at h
      obtain ⟨rfl, rfl⟩ := h
      have hx := hl x (List.mem_cons_self ..)
      rw [if_neg (by omega), if_pos e]
      refine ⟨?_, fun h => by omega, fun _ => by omega, fun h => by omega⟩
      simp only [List.cons_append, List.nil_append]
      congr 1
      unfold byte; omega
  · rw [if_neg (by omega), if_neg (by omega)] at h
    cases l with
    | nil => simp at h
    | cons x t =>
      cases t with
      | nil => simp at h
      | cons y t =>
        simp only [Option.some.injEq, Prod.mk.injEq] at h
        obtain ⟨rfl, rfl⟩ := h
        have hx := hl x (List.mem_cons_self ..)
        have hy := hl y (List.mem_cons_of_mem _ (List.mem_cons_self ..))
        rw [if_neg (by omega), if_neg (by omega)]
        refine ⟨?_, fun h => by omega, fun h => by omega, fun _ => by omega⟩
        simp only [List.cons_append, List.nil_append]
        congr 1
        · unfold byte; omega
        · congr 1; unfold byte; omega
theorem encB_rd {op : Nat} {l r : List Nat} {b : Int} (hl : ∀ x ∈ l, x < 256) (h : rdB op l = some (b, r)) : l = encB op b ++ r ∧ (two op = false → b = 0) ∧ (two op = true → InByte b) := by
  unfold rdB at h; unfold encB InByte
  cases e : two op
  · rw [e] at h
    simp only [Bool.false_eq_true, if_false, Option.some.injEq, Prod.mk.injEq] at h
    obtain ⟨rfl, rfl⟩ := h
    exact ⟨rfl, (fun _ => rfl), (fun h => by cases h)⟩
  · rw [e] at h
    simp only [if_true] at h
    cases l with
    | nil => simp at h
    | cons x t =>
      simp only [Option.some.injEq, Prod.mk.injEq] at h
      obtain ⟨rfl, rfl⟩ := h
      have hx := hl x (List.mem_cons_self ..)
      refine ⟨?_, (fun h => by cases h), (fun _ => by omega)⟩
      simp only [if_true, List.cons_append, List.nil_append]
      congr 1
      unfold byte; omega
theorem encIns_rd {l r : List Nat} {x : Ins} (hl : ∀ x ∈ l, x < 256) (h : rdIns knownB l = some (x, r)) : l = encIns x ++ r ∧ InsOk x := by
  unfold rdIns at h
  cases l with
  | nil => cases h
  | cons op t =>
    simp only at h
    by_cases hk' : knownB op = true
    · rw [if_pos hk'] at h
      have hk : known op := by unfold knownB at hk'; simpa using hk'
      cases ha : rdA op t with
      | none => rw [ha] at h; cases h
      | some p =>
        obtain ⟨a, r1⟩ := p
        rw [ha] at h
        simp only at h
        have ht : ∀ x ∈ t, x < 256 := fun x hx => hl x (List.mem_cons_of_mem _ hx)
        obtain ⟨e1, a0, a1, a2⟩ := encA_rd ht ha
        cases hb : rdB op r1 with
        | none => rw [hb] at h; cases h
        | some p =>
          obtain ⟨b, r2⟩ := p
          rw [hb] at h
          simp only [Option.some.injEq, Prod.mk.injEq] at h
          obtain ⟨rfl, rfl⟩ := h
          obtain ⟨e2, b0, b1⟩ := encB_rd (fun x hx => ht x (by rw [e1]; exact List.mem_append_right _ hx)) hb
          refine ⟨?_, ⟨hk, a0, a1, a2, b0, b1⟩⟩
          unfold encIns
          rw [List.cons_append, List.append_assoc, ← e2, ← e1]
          congr 1
          have := hl op (List.mem_cons_self ..)
          show op = byte (op : Int)
          unfold byte; omega
    · rw [if_neg hk'] at h; cases h
theorem many_rd {α : Type} {rd : List Nat → Option (α × List Nat)} {en : α → List Nat} {p : α → Prop} (h : ∀ l x r, (∀ x ∈ l, x < 256) → rd l = some (x, r) → l = en x ++ r ∧ p x) :
    ∀ (n : Nat) (l r : List Nat) (xs : List α), (∀ x ∈ l, x < 256) → rdMany rd n l = some (xs, r) → l = xs.flatMap en ++ r ∧ (∀ x ∈ xs, p x) ∧ xs.length = n
  | 0, l, r, xs, _, e => by
    unfold rdMany at e
    simp only [Option.some.injEq, Prod.mk.injEq] at e
    obtain ⟨rfl, rfl⟩ := e
    exact ⟨rfl, (fun x hx => by cases hx), rfl⟩
  | n + 1, l, r, xs, hl, e => by
    unfold rdMany at e
    cases h1 : rd l with
    | none => rw [h1] at e; cases e
    | some q =>
      obtain ⟨x, r1⟩ := q
      rw [h1] at e
      simp only at e
      obtain ⟨e1, p1⟩ := h l x r1 hl h1
      have hl1 : ∀ x ∈ r1, x < 256 := fun y hy => hl y (by rw [e1]; exact List.mem_append_right _ hy)
      cases h2 : rdMany rd n r1 with
      | none => rw [h2] at e; cases e
      | some q =>
        obtain ⟨ys, r2⟩ := q
        rw [h2] at e
        simp only [Option.some.injEq, Prod.mk.injEq] at e
        obtain ⟨rfl, rfl⟩ := e
        obtain ⟨e2, p2, n2⟩ := many_rd h n r1 r2 ys hl1 h2
        refine ⟨by rw [List.flatMap_cons, List.append_assoc, ← e2, ← e1], ?_, by rw [List.length_cons, n2]⟩
        intro y hy
        rcases List.mem_cons.1 hy with rfl | hy
        · exact p1
        · exact p2 y hy
theorem encUnt_rd {l r : List Nat} {u : Unt} (hl : ∀ x ∈ l, x < 256) (h : rdUnt knownB l = some (u, r)) : l = encUnt u ++ r ∧ UntOk u := by
  unfold rdUnt at h
  match l, hl, h with
  | a :: c :: o :: s :: m :: n :: t, hl, h =>
    simp only at h
    have ha := hl a (by simp)
    have hc := hl c (by simp)
    have ho := hl o (by simp)
    have hs := hl s (by simp)
    have hm := hl m (by simp)
    have hn := hl n (by simp)
    cases h1 : rdMany (rdIns knownB) (m + 256 * n) t with
    | none => rw [h1] at h; cases h
    | some q =>
      obtain ⟨xs, r1⟩ := q
      rw [h1] at h
      simp only [Option.some.injEq, Prod.mk.injEq] at h
      obtain ⟨rfl, rfl⟩ := h
      obtain ⟨e1, p1, n1⟩ := many_rd (en := encIns) (p := InsOk) (fun l x r hl h => encIns_rd hl h) _ _ _ _ (fun x hx => hl x (by simp [hx])) h1
      refine ⟨?_, ⟨?_, ?_, ?_, ?_, by show xs.length ≤ 65535; omega, p1⟩⟩
      · unfold encUnt
        rw [List.append_assoc, ← e1]
        simp only [List.cons_append, List.nil_append, n1]
        have b1 : ∀ k : Nat, k < 256 → byte (k : Int) = k := fun k hk => by unfold byte; omega
        rw [b1 a ha, b1 c hc, b1 o ho, b1 s hs]
        have b2 : byte (((m + 256 * n : Nat) : Int)) = m := by unfold byte; omega
        have b3 : byte (((m + 256 * n : Nat) : Int) / 256) = n := by unfold byte; omega
        rw [b2, b3]
      all_goals (unfold InByte; simp only; omega)
theorem enc_rd {l : List Nat} {prim : Int} {us : List Unt} (hl : ∀ x ∈ l, x < 256) (h : rd l = some (prim, us)) : l = enc prim us ∧ InByte prim ∧ us.length ≤ 255 ∧ ∀ u ∈ us, UntOk u := by
  unfold rd rdQ at h
  cases h0 : rdUnts knownB l with
  | none => rw [h0] at h; cases h
  | some q =>
    obtain ⟨x, r⟩ := q
    rw [h0] at h
    cases r with
    | cons y t => cases h
    | nil =>
      simp only [Option.some.injEq] at h
      subst h
      unfold rdUnts at h0
      match l, hl, h0 with
      | p :: n :: t, hl, h0 =>
        simp only at h0
        have hp := hl p (by simp)
        have hn := hl n (by simp)
        cases h1 : rdMany (rdUnt knownB) n t with
        | none => rw [h1] at h0; cases h0
        | some q =>
          obtain ⟨ys, r1⟩ := q
          rw [h1] at h0
          simp only [Option.some.injEq, Prod.mk.injEq] at h0
          obtain ⟨⟨rfl, rfl⟩, rfl⟩ := h0
          obtain ⟨e1, p1, n1⟩ := many_rd (en := encUnt) (p := UntOk) (fun l x r hl h => encUnt_rd hl h) _ _ _ _ (fun x hx => hl x (by simp [hx])) h1
          rw [List.append_nil] at e1
          refine ⟨?_, ?_, by omega, p1⟩
          · unfold enc
            rw [← e1, n1]
            have b1 : ∀ k : Nat, k < 256 → byte (k : Int) = k := fun k hk => by unfold byte; omega
            simp only [List.cons_append, List.nil_append]
            rw [b1 p hp, b1 n hn]
          · unfold InByte; omega
/-! reading without a look at what is an operation -/
theorem rdIns_any {l r : List Nat} {x : Ins} {q : Nat → Bool} (h : rdIns q l = some (x, r)) : rdIns (fun _ => true) l = some (x, r) ∧ q x.op = true := by
  cases l with
  | nil => simp [rdIns] at h
  | cons op t =>
    unfold rdIns at h ⊢
    simp only at h ⊢
    by_cases hk : q op = true
    · rw [if_pos hk] at h
      rw [if_pos trivial]
      refine ⟨h, ?_⟩
      cases ha : rdA op t with
      | none => rw [ha] at h; cases h
      | some p =>
        rw [ha] at h
        simp only at h
        cases hb : rdB op p.2 with
        | none => rw [hb] at h; cases h
        | some p2 =>
          rw [hb] at h
          simp only [Option.some.injEq, Prod.mk.injEq] at h
          rw [← h.1]; exact hk
    · rw [if_neg hk] at h; cases h
theorem rdIns_of {l r : List Nat} {x : Ins} {q : Nat → Bool} (h : rdIns (fun _ => true) l = some (x, r)) (hq : q x.op = true) : rdIns q l = some (x, r) := by
  cases l with
  | nil => simp [rdIns] at h
  | cons op t =>
    unfold rdIns at h ⊢
    simp only at h ⊢
    rw [if_pos trivial] at h
    have hop : x.op = op := by
      cases ha : rdA op t with
      | none => rw [ha] at h; cases h
      | some p =>
        rw [ha] at h
        simp only at h
        cases hb : rdB op p.2 with
        | none => rw [hb] at h; cases h
        | some p2 =>
          rw [hb] at h
          simp only [Option.some.injEq, Prod.mk.injEq] at h
          rw [← h.1]
    rw [if_pos (by rw [← hop]; exact hq)]
    exact h
theorem rdMany_congr {α : Type} {rd rd' : List Nat → Option (α × List Nat)} {p : α → Prop} (h : ∀ l x r, rd l = some (x, r) → p x → rd' l = some (x, r)) :
    ∀ (n : Nat) (l : List Nat) (xs : List α) (r : List Nat), rdMany rd n l = some (xs, r) → (∀ x ∈ xs, p x) → rdMany rd' n l = some (xs, r)
  | 0, l, xs, r, e, _ => e
  | n + 1, l, xs, r, e, hp => by
    unfold rdMany at e ⊢
    cases h1 : rd l with
    | none => rw [h1] at e; cases e
    | some q =>
      rw [h1] at e
      simp only at e
      cases h2 : rdMany rd n q.2 with
      | none => rw [h2] at e; cases e
      | some q2 =>
        rw [h2] at e
        simp only [Option.some.injEq, Prod.mk.injEq] at e
        obtain ⟨rfl, rfl⟩ := e
        rw [h l q.1 q.2 h1 (hp _ (List.mem_cons_self ..))]
        simp only
        rw [rdMany_congr h n q.2 q2.1 q2.2 h2 (fun x hx => hp x (List.mem_cons_of_mem _ hx))]
theorem rdMany_prop {α : Type} {rd rd' : List Nat → Option (α × List Nat)} {p : α → Prop} (h : ∀ l x r, rd l = some (x, r) → rd' l = some (x, r) ∧ p x) :
    ∀ (n : Nat) (l : List Nat) (xs : List α) (r : List Nat), rdMany rd n l = some (xs, r) → rdMany rd' n l = some (xs, r) ∧ ∀ x ∈ xs, p x
  | 0, l, xs, r, e => by
    refine ⟨e, ?_⟩
    unfold rdMany at e
    simp only [Option.some.injEq, Prod.mk.injEq] at e
    rw [← e.1]; intro x hx; cases hx
  | n + 1, l, xs, r, e => by
    unfold rdMany at e ⊢
    cases h1 : rd l with
    | none => rw [h1] at e; cases e
    | some q =>
      rw [h1] at e
      simp only at e
      cases h2 : rdMany rd n q.2 with
      | none => rw [h2] at e; cases e
      | some q2 =>
        rw [h2] at e
        simp only [Option.some.injEq, Prod.mk.injEq] at e
        obtain ⟨rfl, rfl⟩ := e
        obtain ⟨a1, a2⟩ := h l q.1 q.2 h1
        obtain ⟨b1, b2⟩ := rdMany_prop h n q.2 q2.1 q2.2 h2
        rw [a1]
        simp only
        rw [b1]
        refine ⟨rfl, ?_⟩
        intro x hx
        rcases List.mem_cons.1 hx with rfl | hx
        · exact a2
        · exact b2 x hx
def AllKnown (us : List Unt) : Prop := ∀ u ∈ us, ∀ x ∈ u.code, known x.op
theorem rdUnt_any {l r : List Nat} {u : Unt} {q : Nat → Bool} (h : rdUnt q l = some (u, r)) : rdUnt (fun _ => true) l = some (u, r) ∧ ∀ x ∈ u.code, q x.op = true := by
  unfold rdUnt at h ⊢
  match l, h with
  | a :: c :: o :: s :: m :: n :: t, h =>
    simp only at h ⊢
    cases h1 : rdMany (rdIns q) (m + 256 * n) t with
    | none => rw [h1] at h; cases h
    | some p =>
      rw [h1] at h
      simp only [Option.some.injEq, Prod.mk.injEq] at h
      obtain ⟨rfl, rfl⟩ := h
      obtain ⟨e1, e2⟩ := rdMany_prop (p := fun x => q x.op = true) (fun l x r h => rdIns_any h) _ _ _ _ h1
      rw [e1]
      exact ⟨rfl, e2⟩
theorem rdUnt_of {l r : List Nat} {u : Unt} {q : Nat → Bool} (h : rdUnt (fun _ => true) l = some (u, r)) (hq : ∀ x ∈ u.code, q x.op = true) : rdUnt q l = some (u, r) := by
  unfold rdUnt at h ⊢
  match l, h with
  | a :: c :: o :: s :: m :: n :: t, h =>
    simp only at h ⊢
    cases h1 : rdMany (rdIns (fun _ => true)) (m + 256 * n) t with
    | none => rw [h1] at h; cases h
    | some p =>
      rw [h1] at h
      simp only [Option.some.injEq, Prod.mk.injEq] at h
      obtain ⟨rfl, rfl⟩ := h
      rw [rdMany_congr (rd' := rdIns q) (p := fun x => q x.op = true) (fun l x r h hp => rdIns_of h hp) _ _ _ _ h1 hq]
theorem knownB_iff {op : Nat} : knownB op = true ↔ known op := by unfold knownB; simp
theorem rd_any {l : List Nat} {x : Int × List Unt} : rd l = some x ↔ rdQ (fun _ => true) l = some x ∧ AllKnown x.2 := by
  unfold rd rdQ AllKnown
  constructor
  · intro h
    cases h0 : rdUnts knownB l with
    | none => rw [h0] at h; cases h
    | some q =>
      rw [h0] at h
      obtain ⟨y, r⟩ := q
      cases r with
      | cons _ _ => cases h
      | nil =>
        simp only [Option.some.injEq] at h
        subst h
        unfold rdUnts at h0 ⊢
        match l, h0 with
        | p :: n :: t, h0 =>
          simp only at h0 ⊢
          cases h1 : rdMany (rdUnt knownB) n t with
          | none => rw [h1] at h0; cases h0
          | some q =>
            rw [h1] at h0
            simp only [Option.some.injEq, Prod.mk.injEq] at h0
            obtain ⟨rfl, h2⟩ := h0
            obtain ⟨e1, e2⟩ := rdMany_prop (p := fun (u : Unt) => ∀ x ∈ u.code, knownB x.op = true) (fun l x r h => rdUnt_any h) _ _ _ _ h1
            rw [e1, h2]
            exact ⟨rfl, fun u hu x hx => knownB_iff.1 (e2 u hu x hx)⟩
  · rintro ⟨h, hk⟩
    cases h0 : rdUnts (fun _ => true) l with
    | none => rw [h0] at h; cases h
    | some q =>
      rw [h0] at h
      obtain ⟨y, r⟩ := q
      cases r with
      | cons _ _ => cases h
      | nil =>
        simp only [Option.some.injEq] at h
        subst h
        unfold rdUnts at h0 ⊢
        match l, h0 with
        | p :: n :: t, h0 =>
          simp only at h0 ⊢
          cases h1 : rdMany (rdUnt (fun _ => true)) n t with
          | none => rw [h1] at h0; cases h0
          | some q =>
            rw [h1] at h0
            simp only [Option.some.injEq, Prod.mk.injEq] at h0
            obtain ⟨rfl, h2⟩ := h0
            rw [rdMany_congr (rd' := rdUnt knownB) (p := fun (u : Unt) => ∀ x ∈ u.code, knownB x.op = true) (fun l x r h hp => rdUnt_of h hp) _ _ _ _ h1 (fun u hu x hx => knownB_iff.2 (hk u hu x hx)), h2]
end Pl
end Go.Proofs.YtoklnpoacckbfaaGreatDoor
