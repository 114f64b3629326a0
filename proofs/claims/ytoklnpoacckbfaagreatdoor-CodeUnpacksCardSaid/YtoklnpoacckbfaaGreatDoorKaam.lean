/- Stores into rows that a call owns; lists of lists: nothing of a program. Rows of numbers that a call owns: made, popped, noted in. Nothing of a program. Plain: a code's bytes, bit by bit; bytes appended. Plain: one place of a unit is looked at: what is noted, what lies on the stack of places. -/
import Derived.Test.YtoklnpoacckbfaaGreatDoorKaal
import Derived.Test.YtoklnpoacckbfaaGreatDoorKaah
namespace Go.Proofs.YtoklnpoacckbfaaGreatDoor
open Go Go.RowKit Go.Lib
section
variable {w : World} {base : Nat} {e : TypeId} {size : Nat} {v : Value} {n : Nat} {xs : List Value}

theorem heap_setCell_at (w : World) (g j : Nat) (u : Value) {cur : Array Value} {e : TypeId} {fz : Nat × Nat} (h : w.heap[g]? = some (.cells cur e fz)) :
    (w.setCell ⟨g, j, none⟩ u).heap[g]? = some (.cells (cur.setIfInBounds j u) e fz) := by
  simp only [World.setCell, Array.getElem?_modify, if_pos, h]
  rfl
/-- A store into an owned row. -/
theorem Owns.stored {g cap : Nat} (h : Owns w base e size (.slice (some ⟨g, 0, none⟩) n cap) n xs) {j : Nat} (u : Value) :
    Owns (w.setCell ⟨g, j, none⟩ u) base e size (.slice (some ⟨g, 0, none⟩) n cap) n (xs.set j u) := by
  refine ⟨by rw [List.length_set]; exact h.1, ?_⟩
  rcases h.2 with ⟨h1, _⟩ | ⟨g', cap', cur, fz, h1, hb, hg, hfz, hnc, hcm, hcs, ht⟩
  · cases h1
  · injection h1 with h1 _ h2
    injection h1 with h1
    injection h1 with h1
    subst h1 h2
    refine .inr ⟨g, cap, _, fz, rfl, hb, heap_setCell_at w g j u hg, hfz, hnc, hcm, by simpa using hcs, ?_⟩
    rw [Array.toList_setIfInBounds, List.take_set, ht]
/-- A store elsewhere. -/
theorem Owns.elsewhere (h : Owns w base e size v n xs) {a : Addr} (u : Value) (hne : v.ownBlock ≠ some a.block) : Owns (w.setCell a u) base e size v n xs := by
  refine ⟨h.1, ?_⟩
  rcases h.2 with hn | ⟨g, cap, cur, fz, rfl, hb, hgg, rest⟩
  · exact .inl hn
  · refine .inr ⟨g, cap, cur, fz, rfl, hb, ?_, rest⟩
    rw [Below.heap_setCell _ _ _ _ (fun e => hne (by simp [Value.ownBlock, e]))]
    exact hgg
/-- No cell of it is frozen. -/
theorem Owns.free {g cap : Nat} (h : Owns w base e size (.slice (some ⟨g, 0, none⟩) n cap) n xs) {j : Nat} (hj : j < cap * size) : w.frozen? ⟨g, j, none⟩ = false := by
  rcases h.2 with ⟨h1, _⟩ | ⟨g', cap', cur, fz, h1, hb, hg, hfz, hnc, hcm, hcs, ht⟩
  · cases h1
  · injection h1 with h1 _ h2
    injection h1 with h1
    injection h1 with h1
    subst h1 h2
    obtain ⟨lo, hi⟩ := fz
    simp only [World.frozen?, hg, Bool.and_eq_false_iff, decide_eq_false_iff_not]
    simp only at hfz
    omega
/-- Its cells. -/
theorem Owns.cellAt {g cap : Nat} (h : Owns w base e size (.slice (some ⟨g, 0, none⟩) n cap) n xs) {j : Nat} {u : Value} (hu : xs[j]? = some u) : w.cell? ⟨g, j, none⟩ = some u := by
  have := h.cells (g := g) rfl j u hu
  rw [Addr.add_lit, Nat.zero_add] at this
  exact this
/-- An owner of something is no nil. -/
theorem Owns.some_of (h : Owns w base e size v n xs) (hn : 0 < n) : ∃ g cap, v = .slice (some ⟨g, 0, none⟩) n cap ∧ base ≤ g ∧ g < w.heap.size ∧ n ≤ cap := by
  rcases h.2 with ⟨_, h0⟩ | ⟨g, cap, cur, fz, rfl, hb, hg, _, hnc, _⟩
  · omega
  · exact ⟨g, cap, rfl, hb, (Array.getElem?_eq_some_iff.1 hg).1, hnc⟩
end
/-- What a slice value at its block's head reads as. -/
def Reads (w : World) (v : Value) (xs : List Value) : Prop := ∀ g n cap, v = .slice (some ⟨g, 0, none⟩) n cap → ∀ j u, xs[j]? = some u → w.cell? ⟨g, j, none⟩ = some u
section
variable {P : Program} {w : World} {base : Nat} {e : TypeId} {size : Nat} {v : Value} {n : Nat} {xs : List Value}
theorem Owns.reads (h : Owns w base e size v n xs) : Reads w v xs := by
  intro g n' cap hv j u hu
  subst hv
  have := h.cells (g := g) rfl j u hu
  rw [Addr.add_lit, Nat.zero_add] at this
  exact this
theorem Reads.block {w' : World} (h : Reads w v xs) (hb : ∀ g, v.ownBlock = some g → w'.heap[g]? = w.heap[g]?) : Reads w' v xs := by
  intro g n cap hv j u hu
  rw [← h g n cap hv j u hu]
  exact World.cell?_of_block (hb g (by rw [hv]; rfl))
theorem Reads.of_same {u : Value} {ys : List Value} (h : Reads w u ys) (hu : ∀ g, v.ownBlock = some g → ∃ n cap, u = .slice (some ⟨g, 0, none⟩) n cap) (hx : ∀ (j : Nat) (x : Value), xs[j]? = some x → ys[j]? = some x) : Reads w v xs := by
  intro g n cap hv j x hj
  obtain ⟨n', cap', hu'⟩ := hu g (by rw [hv]; rfl)
  exact h g n' cap' hu' j x (hx j x hj)
/-- Appending leaves what the old value reads as. -/
theorem run_append_owns_reads (t ty : TypeId) (i : TypeInfo) (z : Value) (bytes : Nat) (ht : P.underlying t = some (.slice e)) (hi : P.info? e = some i) (hz : i.zero = some z)
    (hsize : i.size = size) (hby : i.bytes = bytes) (hzs : z.cells.size = size) (hown : Owns w base e size v n xs)
    (a : Addr) (m c : Nat) (news : List Value) (hl : news.length = m * size) (hnews : ∀ j u, news[j]? = some u → w.cell? (a.add j) = some u) (h1 : ∀ u ∈ news, u.oneCell' = true)
    (h63 : n + m ≤ maxLen) (hbytes : (n + m) * bytes ≤ 140737488355328) (hbase : base ≤ w.heap.size) :
    ∃ v' w', (Builtin.append_ #[t, t] ty #[v, .slice (some a) m c]).run P w = .ok v' w' ∧ Owns w' base e size v' (n + m) (xs ++ news) ∧ Grow w v w' v' ∧ Reads w' v xs := by
  obtain ⟨v', w', hr, ho, hg⟩ := run_append_owns (P := P) t ty i z bytes ht hi hz hsize hby hzs hown a m c news hl hnews h1 h63 hbytes hbase
  refine ⟨v', w', hr, ho, hg, ?_⟩
  subst hsize
  subst hby
  have hsmall : n + m ≤ 9223372036854775807 := by simp only [maxLen] at h63; omega
  rcases hown.2 with ⟨rfl, rfl⟩ | ⟨g, cap, cur, fz, rfl, hbg, hgg, hfz, hnc, hcm, hcs, htake⟩
  · intro g n cap hv; cases hv
  · by_cases hroom : n + m ≤ cap
    · have hle : (n + m) * i.size ≤ cap * i.size := Nat.mul_le_mul_right _ hroom
      have ha : n * i.size + m * i.size = (n + m) * i.size := (Nat.add_mul n m i.size).symm
      have hf := run_firstCells_some (P := P) w i.size m a m c news hl hnews
      have hst := run_storeCells_free P g (n * i.size) e fz news 0 cur w hgg (by omega) (by omega) h1
      simp only [Nat.add_zero] at hst
      have hr2 : (Builtin.append_ #[t, t] ty #[.slice (some ⟨g, 0, none⟩) n cap, .slice (some a) m c]).run P w = .ok (.slice (some ⟨g, 0, none⟩) (n + m) cap) (w.setRow g (cur.toList.take (n * i.size) ++ news ++ cur.toList.drop (n * i.size + news.length)).toArray) := by
        simp [Builtin.append_, run_underlying ht, sizeOf, typeInfo, hi, Builtin.lenOf, hroom, hf, Addr.add_lit, hst]
      rw [hr] at hr2
      injection hr2 with hv hw
      subst hv hw
      intro g' n' cap' hv' j u hu
      injection hv' with hv' _ _
      injection hv' with hv'
      injection hv' with hv'
      subst hv'
      rw [cell_of_row _ g j _ e fz (setRow_heap w g cur _ e _ hgg)]
      have hj : j < xs.length := (List.getElem?_eq_some_iff.1 hu).1
      rw [htake]
      simp only [List.getElem?_toArray, List.append_assoc]
      rw [List.getElem?_append_left hj]; exact hu
    · have holds : ∀ j u, xs[j]? = some u → w.cell? ((⟨g, 0, none⟩ : Addr).add j) = some u := hown.cells (g := g) rfl
      have hr2 := run_append_grow (P := P) w t ty e i z ht hi hz ⟨g, 0, none⟩ n cap xs hown.1 holds a m c news hl hnews (by omega) (by omega) (growslice_fits (by omega) hbytes)
      rw [hr] at hr2
      injection hr2 with hv hw
      subst hv hw
      exact (Owns.reads hown).block (fun k hk => Below.heap_alloc w.drew _ k (hown.lt k hk).2)
variable {ops : Array Oper} {rest : List Oper} {o : Oper} {a : Act} {Q : Exit → Act → World → Prop}
theorem wpList_append_owns_reads (hgd : o.guard = none) (s x : Operand) (t : TypeId)
    (ho : o.op = .call { callee := .builtin .append, args := #[s, x], argTypes := #[t, t] })
    (base : Nat) (e : TypeId) (i : TypeInfo) (z : Value) (size bytes : Nat) (ht : P.underlying t = some (.slice e)) (hi : P.info? e = some i) (hz : i.zero = some z)
    (hsize : i.size = size) (hby : i.bytes = bytes) (hzs : z.cells.size = size)
    (v : Value) (n : Nat) (xs : List Value) (hs : a.eval s = v) (hown : Owns w base e size v n xs)
    (ad : Addr) (m c : Nat) (news : List Value) (hx : a.eval x = .slice (some ad) m c) (hl : news.length = m * size) (hnews : ∀ j u, news[j]? = some u → w.cell? (ad.add j) = some u) (h1 : ∀ u ∈ news, u.oneCell' = true)
    (h63 : n + m ≤ maxLen) (hbytes : (n + m) * bytes ≤ 140737488355328) (hbase : base ≤ w.heap.size)
    (h : ∀ v' w', Owns w' base e size v' (n + m) (xs ++ news) → Grow w v w' v' → Reads w' v xs → wpList P ops Q rest (a.put o.dst v') w') : wpList P ops Q (o :: rest) a w := by
  refine wpList_plain hgd fun K hK => ?_
  obtain ⟨v', w', hr, h2, h3, h4⟩ := run_append_owns_reads (P := P) t o.type i z bytes ht hi hz hsize hby hzs hown ad m c news hl hnews h1 h63 hbytes hbase
  unfold Oper.wp execOp
  simp only [ho, resolve, invoke, builtin, Sem.run_bind, Sem.run_pure, Result.andThen_ok, List.map_toArray, List.map_cons, List.map_nil, hs, hx, hr]
  exact hK _ _ (h v' w' h2 h3 h4)
end
end Go.Proofs.YtoklnpoacckbfaaGreatDoor
namespace Go.Proofs.YtoklnpoacckbfaaGreatDoor
open Go Go.RowKit Go.Lib
section
variable {w : World} {base : Nat} {e : TypeId} {n : Nat}
theorem Owns.made (w : World) (base : Nat) (e : TypeId) (size : Nat) (cs : Array Value) (n : Nat) (hb : base ≤ w.heap.size) (hm : n ≤ maxLen) (hs : cs.size = n * size) : Owns (w.alloc (.cells cs e)) base e size (.slice (some ⟨w.heap.size, 0, none⟩) n n) n cs.toList :=
  Owns.of_row (World.ownsRow_lit w cs n hb hm hs)
theorem Owns.pop {size g cap : Nat} {xs last : List Value} (hx : xs.length = n * size) (h : Owns w base e size (.slice (some ⟨g, 0, none⟩) (n + 1) cap) (n + 1) (xs ++ last)) : Owns w base e size (.slice (some ⟨g, 0, none⟩) n cap) n xs := by
  obtain ⟨_, h2⟩ := h
  rcases h2 with ⟨h0, _⟩ | ⟨g', cap', cur, fz, hv, hg, hh, hfz, hn, hcap, hsz, htake⟩
  · cases h0
  · cases hv
    refine ⟨hx, .inr ⟨g, cap, cur, fz, rfl, hg, hh, hfz, by omega, hcap, hsz, ?_⟩⟩
    have h3 : (cur.toList.take ((n + 1) * size)).take (n * size) = (xs ++ last).take (n * size) := by rw [htake]
    rw [List.take_take, Nat.min_eq_left (Nat.mul_le_mul_right _ (by omega))] at h3
    rw [h3, ← hx, List.take_left]
/-- numbers as cells -/
def nums (k : IntKind) (l : List Nat) : List Value := l.map fun (n : Nat) => .int k n
theorem nums_set (k : IntKind) (l : List Nat) (i v : Nat) : (nums k l).set i (.int k v) = nums k (l.set i v) := by unfold nums; rw [List.map_set]
theorem nums_append (k : IntKind) (l m : List Nat) : nums k (l ++ m) = nums k l ++ nums k m := by unfold nums; rw [List.map_append]
theorem nums_at (k : IntKind) {l : List Nat} {i v : Nat} (h : l[i]? = some v) : (nums k l)[i]? = some (.int k v) := by unfold nums; rw [List.getElem?_map, h]; rfl
theorem nums_length (k : IntKind) (l : List Nat) : (nums k l).length = l.length := by unfold nums; rw [List.length_map]
theorem nums_replicate (k : IntKind) (n : Nat) : (Array.replicate n (Value.int k 0)).toList = nums k (List.replicate n 0) := by unfold nums; simp
theorem nums_made (k : IntKind) (n : Nat) : (madeCells #[Value.int k 0] n).toList = nums k (List.replicate n 0) := by
  unfold nums
  apply List.ext_getElem
  · simp [madeCells]
  · intro i h1 h2; simp [madeCells, Nat.mod_one]
theorem one_new (w : World) (u : Value) (t : TypeId) : ∀ j x, [u][j]? = some x → (w.alloc (.cells #[u] t)).cell? ((⟨w.heap.size, 0, none⟩ : Addr).add j) = some x := by
  intro j x h
  cases j with
  | zero => cases h; simp [go_sem, Addr.add]
  | succ j => simp at h
end
end Go.Proofs.YtoklnpoacckbfaaGreatDoor
namespace Go.Proofs.YtoklnpoacckbfaaGreatDoor
open Go Go.RowKit Go.Lib
namespace Pl
theorem encA_len (op : Nat) (a : Int) : (encA op a).length ≤ 2 := by unfold encA; split; simp; split <;> simp
theorem encB_len (op : Nat) (a : Int) : (encB op a).length ≤ 1 := by unfold encB; split <;> simp
theorem encIns_len (x : Ins) : (encIns x).length ≤ 4 := by
  have h1 := encA_len x.op x.a; have h2 := encB_len x.op x.b
  unfold encIns; simp; omega
theorem flat_len {α : Type} (f : α → List Nat) (n : Nat) (h : ∀ x, (f x).length ≤ n) : ∀ l : List α, (l.flatMap f).length ≤ l.length * n
  | [] => by simp
  | x :: l => by
    have h1 := h x; have h2 := flat_len f n h l
    simp only [List.flatMap_cons, List.length_append, List.length_cons, Nat.add_mul, Nat.one_mul]; omega
theorem encIns_lt (x : Ins) : ∀ b ∈ encIns x, b < 256 := by
  intro b hb
  unfold encIns at hb
  rcases List.mem_cons.1 hb with rfl | hb
  · exact byte_lt _
  · rcases List.mem_append.1 hb with hb | hb
    · unfold encA at hb; split at hb
      · cases hb
      · split at hb <;> (simp at hb; rcases hb with rfl | rfl <;> exact byte_lt _)
    · unfold encB at hb; split at hb
      · simp at hb; subst hb; exact byte_lt _
      · cases hb
theorem encUnt_lt (u : Unt) : ∀ b ∈ encUnt u, b < 256 := by
  intro b hb
  unfold encUnt at hb
  rcases List.mem_append.1 hb with hb | hb
  · simp at hb; rcases hb with rfl | rfl | rfl | rfl | rfl | rfl <;> exact byte_lt _
  · obtain ⟨x, _, hx⟩ := List.mem_flatMap.1 hb; exact encIns_lt x b hx
theorem enc_lt (p : Int) (l : List Unt) : ∀ b ∈ enc p l, b < 256 := by
  intro b hb
  unfold enc at hb
  rcases List.mem_append.1 hb with hb | hb
  · simp at hb; rcases hb with rfl | rfl <;> exact byte_lt _
  · obtain ⟨x, _, hx⟩ := List.mem_flatMap.1 hb; exact encUnt_lt x b hx
/-- bytes as a string -/
def bs (l : List Nat) : ByteArray := ⟨(l.map UInt8.ofNat).toArray⟩
theorem bs_size (l : List Nat) : (bs l).size = l.length := by unfold bs; simp [ByteArray.size]
/-- the head of a code's bytes: as far as unit i -/
def encTo (c : Cod) (i : Nat) : List Nat := [byte c.prim, byte (c.units.length : Int)] ++ (c.units.take i).flatMap encUnt
def untHead (u : Unt) : List Nat := [byte u.args, byte u.copied, byte u.locals, byte u.stack, byte (u.code.length : Int), byte ((u.code.length : Int) / 256)]
def encIn (c : Cod) (i : Nat) (u : Unt) (k : Nat) : List Nat := encTo c i ++ untHead u ++ (u.code.take k).flatMap encIns
theorem take_flat {α : Type} (f : α → List Nat) {l : List α} {i : Nat} {x : α} (h : l[i]? = some x) : (l.take (i + 1)).flatMap f = (l.take i).flatMap f ++ f x := by
  rw [List.take_add_one, h]; simp
theorem encTo_zero (c : Cod) : encTo c 0 = [byte c.prim, byte (c.units.length : Int)] := by unfold encTo; simp
theorem encTo_all (c : Cod) : encTo c c.units.length = enc c.prim c.units := by unfold encTo enc; rw [List.take_length]
theorem encIn_zero (c : Cod) (i : Nat) (u : Unt) : encIn c i u 0 = encTo c i ++ untHead u := by unfold encIn; simp
theorem encIn_all {c : Cod} {i : Nat} {u : Unt} (h : c.units[i]? = some u) : encIn c i u u.code.length = encTo c (i + 1) := by
  unfold encIn encTo; rw [take_flat _ h, List.take_length]; unfold encUnt untHead; simp only [List.append_assoc]
theorem encIn_step {c : Cod} {i : Nat} {u : Unt} {k : Nat} {x : Ins} (h : u.code[k]? = some x) : encIn c i u (k + 1) = encIn c i u k ++ encIns x := by
  unfold encIn; rw [take_flat _ h]; simp only [List.append_assoc]
theorem encTo_len {c : Cod} (hu : ∀ u ∈ c.units, u.code.length ≤ 65535) (i : Nat) : (encTo c i).length ≤ 2 + i * 262146 := by
  unfold encTo
  have : ∀ l : List Unt, (∀ u ∈ l, u.code.length ≤ 65535) → (l.flatMap encUnt).length ≤ l.length * 262146 := by
    intro l
    induction l with
    | nil => intro _; simp
    | cons x l ih =>
      intro h
      have h1 := ih (fun u hu => h u (List.mem_cons_of_mem _ hu))
      have h2 := h x (List.mem_cons_self ..)
      have h3 := flat_len encIns 4 encIns_len x.code
      simp only [List.flatMap_cons, List.length_append, List.length_cons]
      have h4 : (encUnt x).length = 6 + (x.code.flatMap encIns).length := by unfold encUnt; simp; omega
      omega
  have h := this (c.units.take i) (fun u h => hu u (List.mem_of_mem_take h))
  have h2 : (c.units.take i).length ≤ i := by simp; omega
  have h3 := Nat.mul_le_mul_right 262146 h2
  simp only [List.length_append, List.length_cons, List.length_nil]; omega
theorem encIn_len {c : Cod} (hu : ∀ u ∈ c.units, u.code.length ≤ 65535) (i : Nat) (u : Unt) (k : Nat) : (encIn c i u k).length ≤ 8 + i * 262146 + k * 4 := by
  unfold encIn
  have h1 := encTo_len hu i
  have h2 := flat_len encIns 4 encIns_len (u.code.take k)
  have h3 : (u.code.take k).length ≤ k := by simp; omega
  have h4 := Nat.mul_le_mul_right 4 h3
  have h5 : (untHead u).length = 6 := by unfold untHead; rfl
  simp only [List.length_append]; omega
/-- an A's first bytes -/
def encAt (a : Int) (j : Nat) : List Nat := if j = 0 then [] else if j = 1 then [byte a] else [byte a, byte (a / 256)]
theorem encAt_all (op : Nat) (a : Int) : encAt a (bytesA op) = encA op a := rfl
end Pl
/-- what Pack answers -/
noncomputable def packS (c : Pl.Cod) : ByteArray := if Pl.check c = 0 then Pl.bs (Pl.enc c.prim c.units) else ⟨#[]⟩
theorem nums_bs {l : List Nat} (h : ∀ b ∈ l, b < 256) : nums .u8 l = (l.map UInt8.ofNat).map fun b => Value.int .u8 b.toNat := by
  unfold nums
  rw [List.map_map]
  apply List.map_congr_left
  intro b hb
  have := h b hb
  simp only [Function.comp, UInt8.toNat_ofNat']
  rw [Nat.mod_eq_of_lt (by omega)]
theorem byte_nums (n : Int) : Value.int .u8 (n % 256) = Value.int .u8 (Pl.byte n : Nat) := by
  congr 1; unfold Pl.byte; omega
theorem Grow.cell_of {w w' : World} {v v' : Value} {b : Nat} (h : Grow w v w' v') (hb : b < w.heap.size) (hv : v.ownBlock ≠ some b) (o : Nat) : w'.cell? ⟨b, o, none⟩ = w.cell? ⟨b, o, none⟩ := by
  rw [World.cell?_of_block (h.1.block b hb (fun e => hv e.symm))]
theorem Grow.own_of {w w' : World} {v v' : Value} {b : Nat} (h : Grow w v w' v') (hb : b < w.heap.size) (hv : v.ownBlock ≠ some b) : v'.ownBlock ≠ some b := by
  rcases h.2 with e | e
  · rw [e]; exact hv
  · intro hk; have := e b hk; omega
theorem Owns.not_new {w : World} {base : Nat} {e : TypeId} {size : Nat} {v : Value} {n : Nat} {xs : List Value} (h : Owns w base e size v n xs) {b : Nat} (hb : w.heap.size ≤ b) : v.ownBlock ≠ some b := by
  intro hk; have := (h.lt b hk).2; omega
theorem Grow.below2 {w0 w w' : World} {v v' : Value} {B base : Nat} {e : TypeId} {size n : Nat} {xs : List Value} (h : Grow w v w' v') (ho : Owns w base e size v n xs) (hb : Below B w0 w) (hB : B ≤ w.heap.size) (hbase : B ≤ base) : Below B w0 w' :=
  h.below hb hB (fun k hk => Nat.le_trans hbase (ho.lt k hk).1)
end Go.Proofs.YtoklnpoacckbfaaGreatDoor
namespace Go.Proofs.YtoklnpoacckbfaaGreatDoor
namespace Pl
/-- place p is being looked at, its height is h; the places of t are left; n: what is left to do -/
structure Vis (l : List Ins) (st : Int) (p : Nat) (h : Int) (hs : List Nat) (t : List Nat) (most : Int) (n : Nat) : Prop where
  inv : Inv l st hs (fun q => q = p ∨ q ∈ t) most
  hp : ht hs p = h
  cnt : hs.count 0 + t.length ≤ n
variable {l : List Ins} {st : Int} {p : Nat} {h : Int} {hs t : List Nat} {most : Int} {n : Nat}
theorem Inv.pop (I : Inv l st hs (fun q => q ∈ t ++ [p]) most) (hn : hs.count 0 + (t ++ [p]).length ≤ n + 1) : Vis l st p (ht hs p) hs t most n :=
  ⟨I.congr (fun q => by simp [or_comm]), rfl, by simp at hn; omega⟩
theorem Vis.lt (V : Vis l st p h hs t most n) : p < l.length := (V.inv.todos p (.inl rfl)).1
theorem Vis.set (V : Vis l st p h hs t most n) : Set hs p := (V.inv.todos p (.inl rfl)).2
theorem Vis.len (V : Vis l st p h hs t most n) : hs.length = l.length := V.inv.len
theorem Vis.h0 (V : Vis l st p h hs t most n) : 0 ≤ h := by rw [← V.hp]; exact nonneg V.set
theorem Vis.h250 (V : Vis l st p h hs t most n) : h ≤ 250 := by rw [← V.hp]; exact V.inv.high p
theorem Vis.le (V : Vis l st p h hs t most n) : h ≤ most := by rw [← V.hp]; exact V.inv.le p V.lt V.set
theorem Vis.cell (V : Vis l st p h hs t most n) : hs[p]? = some (h.toNat + 1) := by
  have h1 := V.set
  have h2 := V.hp
  have h3 : p < hs.length := by rw [V.len]; exact V.lt
  unfold Set at h1
  unfold ht at h2
  rw [List.getD_eq_getElem?_getD, List.getElem?_eq_getElem h3] at h1 h2
  simp only [Option.getD_some] at h1 h2
  rw [List.getElem?_eq_getElem h3]
  congr 1; omega
theorem Vis.low (V : Vis l st p h hs t most n) (hl : h < off (ins l p)) : ¬ Fits l st := V.inv.low (p := p) (.inl rfl) (by rw [V.hp]; exact hl)
theorem Vis.bad (V : Vis l st p h hs t most n) {k : Nat} (hk : Follows l p k) (hb : l.length ≤ k ∨ 250 < now l p h ∨ hs.getD k 0 ≠ 0 ∧ (hs.getD k 0 : Int) ≠ now l p h + 1) : ¬ Fits l st := by
  refine V.inv.bad (p := p) (.inl rfl) hk ?_
  rw [V.hp]
  rcases hb with hb | hb | ⟨h1, h2⟩
  · exact .inl hb
  · exact .inr (.inl hb)
  · exact .inr (.inr ⟨h1, by unfold ht; omega⟩)
theorem Vis.raise (V : Vis l st p h hs t most n) : Vis l st p h hs t (max most (now l p h)) n :=
  ⟨V.inv.raise (p := p) (.inl rfl) (by rw [V.hp]; rcases Int.le_total most (now l p h) with e | e
                                       · exact .inr (.inl (Int.max_eq_right e))
                                       · exact .inl (Int.max_eq_left e)) (Int.le_max_left _ _), V.hp, V.cnt⟩
/-- a place that is come to for the first time -/
theorem Vis.new (V : Vis l st p h hs t most n) {k : Nat} (hk : Follows l p k) (hlt : k < l.length) (hn : now l p h ≤ 250) (hm : now l p h ≤ most) (hn0 : 0 ≤ now l p h) (h0 : hs.getD k 0 = 0) :
    Vis l st p h (hs.set k ((now l p h).toNat + 1)) (t ++ [k]) most n ∧ (∀ q, Set hs q → Set (hs.set k ((now l p h).toNat + 1)) q ∧ ht (hs.set k ((now l p h).toNat + 1)) q = ht hs q) ∧
    Set (hs.set k ((now l p h).toNat + 1)) k ∧ ht (hs.set k ((now l p h).toNat + 1)) k = now l p h := by
  have I := V.inv.come (p := p) (.inl rfl) hk hlt (by rw [V.hp]; exact hn) (by rw [V.hp]; exact hm) (by rw [V.hp]; exact hn0) h0
  rw [V.hp] at I
  have hkl : k < hs.length := by rw [V.len]; exact hlt
  have hold : ∀ q, Set hs q → Set (hs.set k ((now l p h).toNat + 1)) q ∧ ht (hs.set k ((now l p h).toNat + 1)) q = ht hs q := by
    intro q hq
    refine ⟨hq.keep (by omega), ?_⟩
    rw [ht_set, if_neg]
    rintro ⟨rfl, _⟩; exact hq h0
  refine ⟨⟨I.congr (fun q => by simp only [List.mem_append, List.mem_singleton]; constructor
                                · rintro (rfl | rfl | hq)
                                  · exact .inr (.inr rfl)
                                  · exact .inl rfl
                                  · exact .inr (.inl hq)
                                · rintro (rfl | hq | rfl)
                                  · exact .inr (.inl rfl)
                                  · exact .inr (.inr hq)
                                  · exact .inl rfl), ?_, ?_⟩, hold, ?_, ?_⟩
  · rw [(hold p V.set).2, V.hp]
  · have := count_set (hs := hs) (k := k) (v := (now l p h).toNat + 1) hkl h0 (by omega)
    have hc := V.cnt
    simp; omega
  · unfold Set; rw [getD_set, if_pos ⟨rfl, hkl⟩]; omega
  · rw [ht_set, if_pos ⟨rfl, hkl⟩]; omega
/-- what follows has been come to -/
def Come (l : List Ins) (p : Nat) (h : Int) (hs : List Nat) (k : Nat) : Prop := k < l.length ∧ now l p h ≤ 250 ∧ Set hs k ∧ ht hs k = now l p h
theorem Come.keep {hs' : List Nat} {k : Nat} (c : Come l p h hs k) (hk : ∀ q, Set hs q → Set hs' q ∧ ht hs' q = ht hs q) : Come l p h hs' k :=
  ⟨c.1, c.2.1, (hk k c.2.2.1).1, by rw [(hk k c.2.2.1).2]; exact c.2.2.2⟩
theorem Come.old {k : Nat} (hlt : k < l.length) (hn : now l p h ≤ 250) (h0 : hs.getD k 0 ≠ 0) (he : (hs.getD k 0 : Int) = now l p h + 1) : Come l p h hs k :=
  ⟨hlt, hn, h0, by unfold ht; omega⟩
theorem Vis.done (V : Vis l st p h hs t most n) (hoff : off (ins l p) ≤ h) (hm : now l p h ≤ most) (hall : ∀ k, Follows l p k → Come l p h hs k) : Inv l st hs (fun q => q ∈ t) most := by
  refine V.inv.drop (p := p) ⟨by rw [V.hp]; exact hoff, by rw [V.hp]; exact hm, fun k hk => ?_⟩ (fun q hq => hq) (fun q hq => .inr hq)
  obtain ⟨h1, h2, h3, h4⟩ := hall k hk
  rw [V.hp]
  exact ⟨h1, h2, h3, h4⟩
/-- on to the next place, without laying it down -/
theorem Vis.step (V : Vis l st p h hs (t ++ [p + 1]) most n) (hoff : off (ins l p) ≤ h) (hm : now l p h ≤ most) (hall : ∀ k, Follows l p k → Come l p h hs k) (hn : ht hs (p + 1) = now l p h) : 0 < n ∧ Vis l st (p + 1) (now l p h) hs t most (n - 1) := by
  have I := V.done hoff hm hall
  have := V.cnt
  simp at this
  exact ⟨by omega, I.congr (fun q => by simp [or_comm]), hn, by omega⟩
open Classical in
noncomputable def fitsB (u : Unt) : Bool := decide (Fits u.code u.stack)
theorem fitsB_no {u : Unt} (h : ¬ Fits u.code u.stack) : fitsB u = false := by unfold fitsB; simpa using h
theorem fitsB_end {u : Unt} (I : Inv u.code u.stack hs (fun q => q ∈ ([] : List Nat)) most) : fitsB u = decide (most ≤ u.stack) := by
  unfold fitsB
  rw [decide_eq_decide]
  exact I.end (fun q hq => by cases hq)
end Pl
end Go.Proofs.YtoklnpoacckbfaaGreatDoor
