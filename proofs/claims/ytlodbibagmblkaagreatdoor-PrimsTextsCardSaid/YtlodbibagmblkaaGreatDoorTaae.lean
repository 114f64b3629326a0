/- The text of digits with a power: the contract of fmtEFG at the format e. -/
import Derived.Test.YtlodbibagmblkaaGreatDoorTaad
import Derived.LoopN
namespace Go.Proofs.YtlodbibagmblkaaGreatDoor
open Go.RowKit Go.Lib
def bc (l : List UInt8) : List Value := l.map fun b => Value.int .u8 b.toNat
theorem bc_app (a b : List UInt8) : bc (a ++ b) = bc a ++ bc b := by simp [bc]
theorem bc_len (a : List UInt8) : (bc a).length = a.length := by simp [bc]
theorem info5 : (Tryz.prog.info? 5).map (fun i => (i.zero, i.size, i.bytes)) = some (some (.int .u8 0), 1, 1) := by kernel_rfl
theorem ones {news : List Int} : ∀ u ∈ news.map (Value.int .u8), u.oneCell' = true := by
  intro u hu; obtain ⟨x, _, rfl⟩ := List.mem_map.1 hu; rfl
theorem wpList_app {ops : Array Oper} {rest : List Oper} {o : Oper} {a : Act} {Q : Exit → Act → World → Prop} {w : World} (hgd : o.guard = none) (s x : Operand)
    (ho : o.op = .call { callee := .builtin .append, args := #[s, x], argTypes := #[85, 85] }) (base : Nat) (v : Value) (n : Nat) (xs : List Value) (hs : a.eval s = v) (hown : Owns w base 5 1 v n xs)
    (news : List Value) (hx : a.eval x = .slice (some ⟨w.heap.size, 0, none⟩) news.length news.length) (h1 : ∀ u ∈ news, u.oneCell' = true) (hlen : n + news.length ≤ 1000000) (hbase : base ≤ w.heap.size)
    (h : ∀ v' w', Owns w' base 5 1 v' (n + news.length) (xs ++ news) → Grow w v w' v' → wpList Tryz.prog ops Q rest (a.put o.dst v') w') : wpList Tryz.prog ops Q (o :: rest) a (w.alloc (.cells news.toArray 5)) := by
  obtain ⟨i0, hi, hz0, hz1, hz2⟩ := info_parts info5
  refine wpList_append_owns hgd s x 85 ho base 5 i0 (.int .u8 0) 1 1 Tryz.underlying85 hi hz0 hz1 hz2 rfl v n xs hs (hown.alloc _) ⟨w.heap.size, 0, none⟩ news.length news.length news hx (by simp) ?_ h1 (by unfold maxLen; omega) (by omega) (by simp; omega) ?_
  · intro j u hj
    rw [add_plain, Nat.zero_add, World.cell?_alloc_new]
    simpa using hj
  · intro v' w' ho' hg'
    exact h v' w' ho' ((Grow.alloc w v _).trans hg')
namespace Pl
/-- A power behind its letter: a sign, two digits or three. -/
def expo (x : Int) : List UInt8 :=
  (if x < 0 then 45 else 43) :: (if x.natAbs < 10 then [48, UInt8.ofNat (48 + x.natAbs)] else if x.natAbs < 100 then [UInt8.ofNat (48 + x.natAbs / 10), UInt8.ofNat (48 + x.natAbs % 10)] else [UInt8.ofNat (48 + x.natAbs / 100), UInt8.ofNat (48 + x.natAbs / 10 % 10), UInt8.ofNat (48 + x.natAbs % 10)])
def fmtE (neg : Bool) (ds : List UInt8) (x : Int) : List UInt8 :=
  (if neg then [45] else []) ++ ds.take 1 ++ (if ds.length ≤ 1 then [] else 46 :: ds.drop 1) ++ [101] ++ expo x
theorem fmtE_many (neg : Bool) (d0 : UInt8) (r : List UInt8) (x : Int) (h : 0 < r.length) : fmtE neg (d0 :: r) x = (if neg then [45] else []) ++ [d0] ++ 46 :: r ++ [101] ++ expo x := by
  cases r with
  | nil => simp at h
  | cons a t => simp [fmtE]
theorem fmtE_one (neg : Bool) (d0 : UInt8) (r : List UInt8) (x : Int) (h : r.length = 0) : fmtE neg (d0 :: r) x = (if neg then [45] else []) ++ [d0] ++ [101] ++ expo x := by
  cases r with
  | nil => simp [fmtE]
  | cons a t => simp at h
end Pl
theorem Grow.block_of {w w' : World} {v v' : Value} {b : Nat} (h : Grow w v w' v') (hb : b < w.heap.size) (hv : v.ownBlock ≠ some b) : w'.heap[b]? = w.heap[b]? ∧ v'.ownBlock ≠ some b ∧ b < w'.heap.size := by
  refine ⟨h.1.block b hb (fun e => hv e.symm), ?_, Nat.lt_of_lt_of_le hb h.1.size⟩
  rcases h.2 with e | e
  · rw [e]; exact hv
  · intro hk; have := e b hk; omega
theorem bc_expo (x : Int) (c : UInt8) (n : Nat) (hn : n ≤ 999) (hx : (x < 0 ∧ x = -n ∧ c = 45) ∨ (0 ≤ x ∧ x = n ∧ c = 43)) :
    (n < 10 → bc (Pl.expo x) = [.int .u8 c.toNat, .int .u8 48, .int .u8 ((n : Int) + 48)]) ∧ (¬ n < 10 → n < 100 → bc (Pl.expo x) = [.int .u8 c.toNat, .int .u8 ((n : Int) / 10 + 48), .int .u8 ((n : Int) % 10 + 48)]) ∧
    (¬ n < 10 → ¬ n < 100 → bc (Pl.expo x) = [.int .u8 c.toNat, .int .u8 ((n : Int) / 100 + 48), .int .u8 ((n : Int) / 10 % 10 + 48), .int .u8 ((n : Int) % 10 + 48)]) := by
  have hna : x.natAbs = n := by omega
  have hc : (if x < 0 then (45 : UInt8) else 43) = c := by
    rcases hx with ⟨h, _, rfl⟩ | ⟨h, _, rfl⟩
    · rw [if_pos h]
    · rw [if_neg (by omega)]
  have key : ∀ m : Nat, m < 256 → (UInt8.ofNat m).toNat = m := fun m hm => by simp; omega
  unfold Pl.expo
  rw [hna, hc]
  refine ⟨fun h => ?_, fun h h2 => ?_, fun h h2 => ?_⟩
  · rw [if_pos h]
    simp only [bc, List.map_cons, List.map_nil, key (48 + n) (by omega)]
    simp; omega
  · rw [if_neg h, if_pos h2]
    simp only [bc, List.map_cons, List.map_nil, key (48 + n / 10) (by omega), key (48 + n % 10) (by omega)]
    simp; omega
  · rw [if_neg h, if_neg h2]
    simp only [bc, List.map_cons, List.map_nil, key (48 + n / 100) (by omega), key (48 + n / 10 % 10) (by omega), key (48 + n % 10) (by omega)]
    simp; omega
theorem Owns.close {w : World} {base n : Nat} {v : Value} {xs : List Value} {l : List UInt8} (h : Owns w base 5 1 v n xs) (hx : xs = bc l) : Owns w base 5 1 v l.length (bc l) := by
  subst hx
  have := h.1
  rw [bc_len] at this
  rw [this, Nat.mul_one]; exact h
/-- What lays bytes leaves: a value that owns them. -/
def LaidOk (base : Nat) (v : Value) (w : World) (l : List UInt8) (e : Ending) (w' : World) : Prop :=
  ∃ v', e = .returned v' ∧ Owns w' base 5 1 v' l.length (bc l) ∧ Grow w v w' v'

set_option maxHeartbeats 4000000 in
set_option maxRecDepth 100000 in
theorem fmtE_neg_many (base b : Nat) (v : Value) (d0 : UInt8) (r : List UInt8) (dp : Int) (w : World) (hown : Owns w base 5 1 v 0 []) (hb : base ≤ w.heap.size) (hl : 0 < r.length) (hl2 : r.length ≤ 20) (hdp : -400 ≤ dp ∧ dp ≤ 400)
    (hc : ∀ j (h : j < (d0 :: r).length), w.cell? ⟨b, j, none⟩ = some (enc8 (d0 :: r)[j])) (hvb : v.ownBlock ≠ some b) (hbs : b < w.heap.size) :
    Calls Tryz.prog 229 #[v, .bool true, .slice (some ⟨b, 0, none⟩) 32 32, .int .i64 dp, .int .i64 (r.length + 1), .int .i64 r.length, .int .u8 101, .bool true] w (LaidOk base v w (Pl.fmtE true (d0 :: r) (dp - 1))) := by
  obtain ⟨a0, c0, rfl⟩ := hown.form
  have HC := Lib.hid hc
  have HVB := Lib.hid hvb
  have HO := Lib.hid hown
  clear hc hvb hown
  have hd0 := d0.toNat_lt
  have cd : w.cell? ⟨b, 0, none⟩ = some (.int .u8 (d0.toNat : Int)) := HC.out 0 (by simp)
  go_enter Tryz.func229, Tryz.ntmps229
  go_wp2_with (at_builtin; refine wpList_app rfl (.tmp 79) (.tmp 80) rfl base _ _ _ rfl HO.out [.int .u8 (45)] rfl (ones (news := [45])) (by simp only [List.length_cons, List.length_nil]; omega) (by omega) ?_)
  intro v1 w1 g1o g1g
  have G1O := Lib.hid g1o
  have G1G := Lib.hid g1g
  have g1z := g1g.1.size
  obtain ⟨v1a, v1c, rfl⟩ := g1o.form
  clear g1o g1g
  obtain ⟨hk1, hv1, hs1⟩ := G1G.out.block_of hbs HVB.out
  have cd : w1.cell? ⟨b, 0, none⟩ = some (.int .u8 (d0.toNat : Int)) := by rw [World.cell?_of_block (w := w) hk1]; exact HC.out 0 (by simp)
  have HK1 := Lib.hid hk1
  have HV1 := Lib.hid hv1
  clear hk1 hv1
  go_wp2_with (at_builtin; refine wpList_app rfl (.tmp 87) (.tmp 89) rfl base _ _ _ rfl G1O.out [.int .u8 (d0.toNat)] rfl (ones (news := [d0.toNat])) (by simp only [List.length_cons, List.length_nil]; omega) (by omega) ?_)
  intro v2 w2 g2o g2g
  have G2O := Lib.hid g2o
  have G2G := Lib.hid g2g
  have g2z := g2g.1.size
  obtain ⟨v2a, v2c, rfl⟩ := g2o.form
  clear g2o g2g
  obtain ⟨hk2, hv2, hs2⟩ := (G1G.out.trans G2G.out).block_of hbs HVB.out
  have HK2 := Lib.hid hk2
  have HV2 := Lib.hid hv2
  clear hk2 hv2
  go_wp2_with (at_builtin; refine wpList_app rfl (.tmp 93) (.tmp 94) rfl base _ _ _ rfl G2O.out [.int .u8 (46)] rfl (ones (news := [46])) (by simp only [List.length_cons, List.length_nil]; omega) (by omega) ?_)
  intro v3 w3 g3o g3g
  have G3O := Lib.hid g3o
  have G3G := Lib.hid g3g
  have g3z := g3g.1.size
  obtain ⟨v3a, v3c, rfl⟩ := g3o.form
  clear g3o g3g
  obtain ⟨hk3, hv3, hs3⟩ := G3G.out.block_of hs2 HV2.out
  have HN := Lib.hid (show ∀ (j : Nat) (u : Value), (bc r)[j]? = some u → w3.cell? ((⟨b, 1, none⟩ : Addr).add j) = some u from by
    intro j u hj
    have hj2 : j < r.length := by
      have := (List.getElem?_eq_some_iff.1 hj).1; rwa [bc_len] at this
    rw [add_plain, World.cell?_of_block (w := w) (show w3.heap[b]? = w.heap[b]? by rw [hk3]; exact HK2.out), Nat.add_comm, HC.out (j + 1) (by simp; omega)]
    have : (bc r)[j]? = some (enc8 r[j]) := by simp [bc, hj2]
    rw [this] at hj
    simpa using hj)
  clear hk3 hv3
  have hmin : min ((r.length : Int) + 1) ((r.length : Int) + 1) = (r.length : Int) + 1 := by omega
  obtain ⟨i0, hi, hz0, hz1, hz2⟩ := info_parts info5
  clear cd
  go_wp2_with (at_builtin; refine wpList_append_owns rfl (.tmp 103) (.tmp 107) 85 rfl base 5 i0 (.int .u8 0) 1 1 Tryz.underlying85 hi hz0 hz1 hz2 rfl _ _ _ rfl G3O.out ⟨b, 1, none⟩ r.length 31 (bc r) rfl ?_ HN.out ?_ ?_ ?_ ?_ ?_)
  · simp [bc]
  · exact fun u hu => by obtain ⟨x, _, rfl⟩ := List.mem_map.1 hu; rfl
  · unfold maxLen; omega
  · omega
  · omega
  intro v4 w4 g4o g4g
  have G4O := Lib.hid g4o
  have G4G := Lib.hid g4g
  have g4z := g4g.1.size
  obtain ⟨v4a, v4c, rfl⟩ := g4o.form
  clear g4o g4g hi hz0 hz1 hz2 HN
  go_wp2_with fail
  refine wp_loop_rounds 1 ?_
  rw [rounds_succ]
  have GA := Lib.hid (((G1G.out.trans G2G.out).trans G3G.out).trans G4G.out)
  obtain ⟨XS, G4Q, HXS⟩ : ∃ XS, Hid (Owns w4 base 5 1 (.slice v4a (3 + r.length) v4c) (3 + r.length) XS) ∧ Hid (XS = bc ((if true = true then [45] else []) ++ [d0] ++ 46 :: r)) := ⟨_, G4O, Lib.hid (by simp [bc])⟩
  clear G4O
  obtain ⟨N, hN⟩ : ∃ N, 3 + r.length = N := ⟨_, rfl⟩
  rw [hN] at G4Q GA ⊢
  have hN2 : N ≤ 30 := by omega
  clear hN
  go_wp2_with (at_builtin; refine wpList_app rfl (.tmp 120) (.tmp 122) rfl base _ _ _ rfl G4Q.out [.int .u8 (101)] rfl (ones (news := [101])) (by simp only [List.length_cons, List.length_nil]; omega) (by omega) ?_)
  intro v5 w5 g5o g5g
  have G5O := Lib.hid g5o
  have G5G := Lib.hid g5g
  have g5z := g5g.1.size
  obtain ⟨v5a, v5c, rfl⟩ := g5o.form
  clear g5o g5g
  by_cases hx : dp - 1 < 0
  · go_wp2_with (at_builtin; refine wpList_app rfl (.tmp 132) (.tmp 134) rfl base _ _ _ rfl G5O.out [.int .u8 (45)] rfl (ones (news := [45])) (by simp only [List.length_cons, List.length_nil]; omega) (by omega) ?_)
    intro v6 w6 g6o g6g
    have G6O := Lib.hid g6o
    have G6G := Lib.hid g6g
    have g6z := g6g.1.size
    obtain ⟨v6a, v6c, rfl⟩ := g6o.form
    clear g6o g6g
    obtain ⟨n, hn⟩ : ∃ n : Nat, -(dp - 1) = n := ⟨(1 - dp).toNat, by omega⟩
    rw [hn]
    have hn2 : n ≤ 999 := by omega
    by_cases h10 : n < 10
    · go_wp2_with (at_builtin; refine wpList_app rfl (.tmp 155) (.tmp 159) rfl base _ _ _ rfl G6O.out [.int .u8 (48), .int .u8 ((n : Int) + 48)] rfl (ones (news := [48, (n : Int) + 48])) (by simp only [List.length_cons, List.length_nil]; omega) (by omega) ?_)
      intro v7 w7 g7o g7g
      have G7O := Lib.hid g7o
      have G7G := Lib.hid g7g
      have g7z := g7g.1.size
      obtain ⟨v7a, v7c, rfl⟩ := g7o.form
      clear g7o g7g
      go_wp2_with fail
      go_ret
      refine ⟨_, rfl, G7O.out.close ?_, ((GA.out.trans G5G.out).trans G6G.out).trans G7G.out⟩
      rw [HXS.out]
      rw [Pl.fmtE_many _ _ _ _ hl]
      simp only [bc_app]
      rw [(bc_expo (dp - 1) 45 n (by omega) (.inl ⟨hx, by omega, rfl⟩)).1 h10]
      simp [bc]
    · by_cases h100 : n < 100
      · go_wp2_with (at_builtin; refine wpList_app rfl (.tmp 164) (.tmp 173) rfl base _ _ _ rfl G6O.out [.int .u8 ((n : Int) / 10 + 48), .int .u8 ((n : Int) % 10 + 48)] rfl (ones (news := [(n : Int) / 10 + 48, (n : Int) % 10 + 48])) (by simp only [List.length_cons, List.length_nil]; omega) (by omega) ?_)
        intro v7 w7 g7o g7g
        have G7O := Lib.hid g7o
        have G7G := Lib.hid g7g
        have g7z := g7g.1.size
        obtain ⟨v7a, v7c, rfl⟩ := g7o.form
        clear g7o g7g
        go_wp2_with fail
        go_ret
        refine ⟨_, rfl, G7O.out.close ?_, ((GA.out.trans G5G.out).trans G6G.out).trans G7G.out⟩
        rw [HXS.out]
        rw [Pl.fmtE_many _ _ _ _ hl]
        simp only [bc_app]
        rw [(bc_expo (dp - 1) 45 n (by omega) (.inl ⟨hx, by omega, rfl⟩)).2.1 h10 h100]
        simp [bc]
      · go_wp2_with (at_builtin; refine wpList_app rfl (.tmp 136) (.tmp 150) rfl base _ _ _ rfl G6O.out [.int .u8 ((n : Int) / 100 + 48), .int .u8 ((n : Int) / 10 % 10 + 48), .int .u8 ((n : Int) % 10 + 48)] rfl (ones (news := [(n : Int) / 100 + 48, (n : Int) / 10 % 10 + 48, (n : Int) % 10 + 48])) (by simp only [List.length_cons, List.length_nil]; omega) (by omega) ?_)
        intro v7 w7 g7o g7g
        have G7O := Lib.hid g7o
        have G7G := Lib.hid g7g
        have g7z := g7g.1.size
        obtain ⟨v7a, v7c, rfl⟩ := g7o.form
        clear g7o g7g
        go_wp2_with fail
        go_ret
        refine ⟨_, rfl, G7O.out.close ?_, ((GA.out.trans G5G.out).trans G6G.out).trans G7G.out⟩
        rw [HXS.out]
        rw [Pl.fmtE_many _ _ _ _ hl]
        simp only [bc_app]
        rw [(bc_expo (dp - 1) 45 n (by omega) (.inl ⟨hx, by omega, rfl⟩)).2.2 h10 h100]
        simp [bc]
  · go_wp2_with (at_builtin; refine wpList_app rfl (.tmp 132) (.tmp 134) rfl base _ _ _ rfl G5O.out [.int .u8 (43)] rfl (ones (news := [43])) (by simp only [List.length_cons, List.length_nil]; omega) (by omega) ?_)
    intro v6 w6 g6o g6g
    have G6O := Lib.hid g6o
    have G6G := Lib.hid g6g
    have g6z := g6g.1.size
    obtain ⟨v6a, v6c, rfl⟩ := g6o.form
    clear g6o g6g
    obtain ⟨n, hn⟩ : ∃ n : Nat, dp - 1 = n := ⟨(dp - 1).toNat, by omega⟩
    rw [hn]
    have hn2 : n ≤ 999 := by omega
    by_cases h10 : n < 10
    · go_wp2_with (at_builtin; refine wpList_app rfl (.tmp 155) (.tmp 159) rfl base _ _ _ rfl G6O.out [.int .u8 (48), .int .u8 ((n : Int) + 48)] rfl (ones (news := [48, (n : Int) + 48])) (by simp only [List.length_cons, List.length_nil]; omega) (by omega) ?_)
      intro v7 w7 g7o g7g
      have G7O := Lib.hid g7o
      have G7G := Lib.hid g7g
      have g7z := g7g.1.size
      obtain ⟨v7a, v7c, rfl⟩ := g7o.form
      clear g7o g7g
      go_wp2_with fail
      go_ret
      refine ⟨_, rfl, G7O.out.close ?_, ((GA.out.trans G5G.out).trans G6G.out).trans G7G.out⟩
      rw [HXS.out]
      rw [Pl.fmtE_many _ _ _ _ hl]
      simp only [bc_app]
      rw [(bc_expo (dp - 1) 43 n (by omega) (.inr ⟨by omega, by omega, rfl⟩)).1 h10]
      simp [bc]
    · by_cases h100 : n < 100
      · go_wp2_with (at_builtin; refine wpList_app rfl (.tmp 164) (.tmp 173) rfl base _ _ _ rfl G6O.out [.int .u8 ((n : Int) / 10 + 48), .int .u8 ((n : Int) % 10 + 48)] rfl (ones (news := [(n : Int) / 10 + 48, (n : Int) % 10 + 48])) (by simp only [List.length_cons, List.length_nil]; omega) (by omega) ?_)
        intro v7 w7 g7o g7g
        have G7O := Lib.hid g7o
        have G7G := Lib.hid g7g
        have g7z := g7g.1.size
        obtain ⟨v7a, v7c, rfl⟩ := g7o.form
        clear g7o g7g
        go_wp2_with fail
        go_ret
        refine ⟨_, rfl, G7O.out.close ?_, ((GA.out.trans G5G.out).trans G6G.out).trans G7G.out⟩
        rw [HXS.out]
        rw [Pl.fmtE_many _ _ _ _ hl]
        simp only [bc_app]
        rw [(bc_expo (dp - 1) 43 n (by omega) (.inr ⟨by omega, by omega, rfl⟩)).2.1 h10 h100]
        simp [bc]
      · go_wp2_with (at_builtin; refine wpList_app rfl (.tmp 136) (.tmp 150) rfl base _ _ _ rfl G6O.out [.int .u8 ((n : Int) / 100 + 48), .int .u8 ((n : Int) / 10 % 10 + 48), .int .u8 ((n : Int) % 10 + 48)] rfl (ones (news := [(n : Int) / 100 + 48, (n : Int) / 10 % 10 + 48, (n : Int) % 10 + 48])) (by simp only [List.length_cons, List.length_nil]; omega) (by omega) ?_)
        intro v7 w7 g7o g7g
        have G7O := Lib.hid g7o
        have G7G := Lib.hid g7g
        have g7z := g7g.1.size
        obtain ⟨v7a, v7c, rfl⟩ := g7o.form
        clear g7o g7g
        go_wp2_with fail
        go_ret
        refine ⟨_, rfl, G7O.out.close ?_, ((GA.out.trans G5G.out).trans G6G.out).trans G7G.out⟩
        rw [HXS.out]
        rw [Pl.fmtE_many _ _ _ _ hl]
        simp only [bc_app]
        rw [(bc_expo (dp - 1) 43 n (by omega) (.inr ⟨by omega, by omega, rfl⟩)).2.2 h10 h100]
        simp [bc]

set_option maxHeartbeats 4000000 in
set_option maxRecDepth 100000 in
theorem fmtE_pos_many (base b : Nat) (v : Value) (d0 : UInt8) (r : List UInt8) (dp : Int) (w : World) (hown : Owns w base 5 1 v 0 []) (hb : base ≤ w.heap.size) (hl : 0 < r.length) (hl2 : r.length ≤ 20) (hdp : -400 ≤ dp ∧ dp ≤ 400)
    (hc : ∀ j (h : j < (d0 :: r).length), w.cell? ⟨b, j, none⟩ = some (enc8 (d0 :: r)[j])) (hvb : v.ownBlock ≠ some b) (hbs : b < w.heap.size) :
    Calls Tryz.prog 229 #[v, .bool false, .slice (some ⟨b, 0, none⟩) 32 32, .int .i64 dp, .int .i64 (r.length + 1), .int .i64 r.length, .int .u8 101, .bool true] w (LaidOk base v w (Pl.fmtE false (d0 :: r) (dp - 1))) := by
  obtain ⟨a0, c0, rfl⟩ := hown.form
  have HC := Lib.hid hc
  have HVB := Lib.hid hvb
  have HO := Lib.hid hown
  clear hc hvb hown
  have hd0 := d0.toNat_lt
  have cd : w.cell? ⟨b, 0, none⟩ = some (.int .u8 (d0.toNat : Int)) := HC.out 0 (by simp)
  go_enter Tryz.func229, Tryz.ntmps229
  go_wp2_with (at_builtin; refine wpList_app rfl (.tmp 87) (.tmp 89) rfl base _ _ _ rfl HO.out [.int .u8 (d0.toNat)] rfl (ones (news := [d0.toNat])) (by simp only [List.length_cons, List.length_nil]; omega) (by omega) ?_)
  intro v2 w2 g2o g2g
  have G2O := Lib.hid g2o
  have G2G := Lib.hid g2g
  have g2z := g2g.1.size
  obtain ⟨v2a, v2c, rfl⟩ := g2o.form
  clear g2o g2g
  obtain ⟨hk2, hv2, hs2⟩ := (G2G.out).block_of hbs HVB.out
  have HK2 := Lib.hid hk2
  have HV2 := Lib.hid hv2
  clear hk2 hv2
  go_wp2_with (at_builtin; refine wpList_app rfl (.tmp 93) (.tmp 94) rfl base _ _ _ rfl G2O.out [.int .u8 (46)] rfl (ones (news := [46])) (by simp only [List.length_cons, List.length_nil]; omega) (by omega) ?_)
  intro v3 w3 g3o g3g
  have G3O := Lib.hid g3o
  have G3G := Lib.hid g3g
  have g3z := g3g.1.size
  obtain ⟨v3a, v3c, rfl⟩ := g3o.form
  clear g3o g3g
  obtain ⟨hk3, hv3, hs3⟩ := G3G.out.block_of hs2 HV2.out
  have HN := Lib.hid (show ∀ (j : Nat) (u : Value), (bc r)[j]? = some u → w3.cell? ((⟨b, 1, none⟩ : Addr).add j) = some u from by
    intro j u hj
    have hj2 : j < r.length := by
      have := (List.getElem?_eq_some_iff.1 hj).1; rwa [bc_len] at this
    rw [add_plain, World.cell?_of_block (w := w) (show w3.heap[b]? = w.heap[b]? by rw [hk3]; exact HK2.out), Nat.add_comm, HC.out (j + 1) (by simp; omega)]
    have : (bc r)[j]? = some (enc8 r[j]) := by simp [bc, hj2]
    rw [this] at hj
    simpa using hj)
  clear hk3 hv3
  have hmin : min ((r.length : Int) + 1) ((r.length : Int) + 1) = (r.length : Int) + 1 := by omega
  obtain ⟨i0, hi, hz0, hz1, hz2⟩ := info_parts info5
  clear cd
  go_wp2_with (at_builtin; refine wpList_append_owns rfl (.tmp 103) (.tmp 107) 85 rfl base 5 i0 (.int .u8 0) 1 1 Tryz.underlying85 hi hz0 hz1 hz2 rfl _ _ _ rfl G3O.out ⟨b, 1, none⟩ r.length 31 (bc r) rfl ?_ HN.out ?_ ?_ ?_ ?_ ?_)
  · simp [bc]
  · exact fun u hu => by obtain ⟨x, _, rfl⟩ := List.mem_map.1 hu; rfl
  · unfold maxLen; omega
  · omega
  · omega
  intro v4 w4 g4o g4g
  have G4O := Lib.hid g4o
  have G4G := Lib.hid g4g
  have g4z := g4g.1.size
  obtain ⟨v4a, v4c, rfl⟩ := g4o.form
  clear g4o g4g hi hz0 hz1 hz2 HN
  go_wp2_with fail
  refine wp_loop_rounds 1 ?_
  rw [rounds_succ]
  have GA := Lib.hid ((G2G.out.trans G3G.out).trans G4G.out)
  obtain ⟨XS, G4Q, HXS⟩ : ∃ XS, Hid (Owns w4 base 5 1 (.slice v4a (2 + r.length) v4c) (2 + r.length) XS) ∧ Hid (XS = bc ((if false = true then [45] else []) ++ [d0] ++ 46 :: r)) := ⟨_, G4O, Lib.hid (by simp [bc])⟩
  clear G4O
  obtain ⟨N, hN⟩ : ∃ N, 2 + r.length = N := ⟨_, rfl⟩
  rw [hN] at G4Q GA ⊢
  have hN2 : N ≤ 30 := by omega
  clear hN
  go_wp2_with (at_builtin; refine wpList_app rfl (.tmp 120) (.tmp 122) rfl base _ _ _ rfl G4Q.out [.int .u8 (101)] rfl (ones (news := [101])) (by simp only [List.length_cons, List.length_nil]; omega) (by omega) ?_)
  intro v5 w5 g5o g5g
  have G5O := Lib.hid g5o
  have G5G := Lib.hid g5g
  have g5z := g5g.1.size
  obtain ⟨v5a, v5c, rfl⟩ := g5o.form
  clear g5o g5g
  by_cases hx : dp - 1 < 0
  · go_wp2_with (at_builtin; refine wpList_app rfl (.tmp 132) (.tmp 134) rfl base _ _ _ rfl G5O.out [.int .u8 (45)] rfl (ones (news := [45])) (by simp only [List.length_cons, List.length_nil]; omega) (by omega) ?_)
    intro v6 w6 g6o g6g
    have G6O := Lib.hid g6o
    have G6G := Lib.hid g6g
    have g6z := g6g.1.size
    obtain ⟨v6a, v6c, rfl⟩ := g6o.form
    clear g6o g6g
    obtain ⟨n, hn⟩ : ∃ n : Nat, -(dp - 1) = n := ⟨(1 - dp).toNat, by omega⟩
    rw [hn]
    have hn2 : n ≤ 999 := by omega
    by_cases h10 : n < 10
    · go_wp2_with (at_builtin; refine wpList_app rfl (.tmp 155) (.tmp 159) rfl base _ _ _ rfl G6O.out [.int .u8 (48), .int .u8 ((n : Int) + 48)] rfl (ones (news := [48, (n : Int) + 48])) (by simp only [List.length_cons, List.length_nil]; omega) (by omega) ?_)
      intro v7 w7 g7o g7g
      have G7O := Lib.hid g7o
      have G7G := Lib.hid g7g
      have g7z := g7g.1.size
      obtain ⟨v7a, v7c, rfl⟩ := g7o.form
      clear g7o g7g
      go_wp2_with fail
      go_ret
      refine ⟨_, rfl, G7O.out.close ?_, ((GA.out.trans G5G.out).trans G6G.out).trans G7G.out⟩
      rw [HXS.out]
      rw [Pl.fmtE_many _ _ _ _ hl]
      simp only [bc_app]
      rw [(bc_expo (dp - 1) 45 n (by omega) (.inl ⟨hx, by omega, rfl⟩)).1 h10]
      simp [bc]
    · by_cases h100 : n < 100
      · go_wp2_with (at_builtin; refine wpList_app rfl (.tmp 164) (.tmp 173) rfl base _ _ _ rfl G6O.out [.int .u8 ((n : Int) / 10 + 48), .int .u8 ((n : Int) % 10 + 48)] rfl (ones (news := [(n : Int) / 10 + 48, (n : Int) % 10 + 48])) (by simp only [List.length_cons, List.length_nil]; omega) (by omega) ?_)
        intro v7 w7 g7o g7g
        have G7O := Lib.hid g7o
        have G7G := Lib.hid g7g
        have g7z := g7g.1.size
        obtain ⟨v7a, v7c, rfl⟩ := g7o.form
        clear g7o g7g
        go_wp2_with fail
        go_ret
        refine ⟨_, rfl, G7O.out.close ?_, ((GA.out.trans G5G.out).trans G6G.out).trans G7G.out⟩
        rw [HXS.out]
        rw [Pl.fmtE_many _ _ _ _ hl]
        simp only [bc_app]
        rw [(bc_expo (dp - 1) 45 n (by omega) (.inl ⟨hx, by omega, rfl⟩)).2.1 h10 h100]
        simp [bc]
      · go_wp2_with (at_builtin; refine wpList_app rfl (.tmp 136) (.tmp 150) rfl base _ _ _ rfl G6O.out [.int .u8 ((n : Int) / 100 + 48), .int .u8 ((n : Int) / 10 % 10 + 48), .int .u8 ((n : Int) % 10 + 48)] rfl (ones (news := [(n : Int) / 100 + 48, (n : Int) / 10 % 10 + 48, (n : Int) % 10 + 48])) (by simp only [List.length_cons, List.length_nil]; omega) (by omega) ?_)
        intro v7 w7 g7o g7g
        have G7O := Lib.hid g7o
        have G7G := Lib.hid g7g
        have g7z := g7g.1.size
        obtain ⟨v7a, v7c, rfl⟩ := g7o.form
        clear g7o g7g
        go_wp2_with fail
        go_ret
        refine ⟨_, rfl, G7O.out.close ?_, ((GA.out.trans G5G.out).trans G6G.out).trans G7G.out⟩
        rw [HXS.out]
        rw [Pl.fmtE_many _ _ _ _ hl]
        simp only [bc_app]
        rw [(bc_expo (dp - 1) 45 n (by omega) (.inl ⟨hx, by omega, rfl⟩)).2.2 h10 h100]
        simp [bc]
  · go_wp2_with (at_builtin; refine wpList_app rfl (.tmp 132) (.tmp 134) rfl base _ _ _ rfl G5O.out [.int .u8 (43)] rfl (ones (news := [43])) (by simp only [List.length_cons, List.length_nil]; omega) (by omega) ?_)
    intro v6 w6 g6o g6g
    have G6O := Lib.hid g6o
    have G6G := Lib.hid g6g
    have g6z := g6g.1.size
    obtain ⟨v6a, v6c, rfl⟩ := g6o.form
    clear g6o g6g
    obtain ⟨n, hn⟩ : ∃ n : Nat, dp - 1 = n := ⟨(dp - 1).toNat, by omega⟩
    rw [hn]
    have hn2 : n ≤ 999 := by omega
    by_cases h10 : n < 10
    · go_wp2_with (at_builtin; refine wpList_app rfl (.tmp 155) (.tmp 159) rfl base _ _ _ rfl G6O.out [.int .u8 (48), .int .u8 ((n : Int) + 48)] rfl (ones (news := [48, (n : Int) + 48])) (by simp only [List.length_cons, List.length_nil]; omega) (by omega) ?_)
      intro v7 w7 g7o g7g
      have G7O := Lib.hid g7o
      have G7G := Lib.hid g7g
      have g7z := g7g.1.size
      obtain ⟨v7a, v7c, rfl⟩ := g7o.form
      clear g7o g7g
      go_wp2_with fail
      go_ret
      refine ⟨_, rfl, G7O.out.close ?_, ((GA.out.trans G5G.out).trans G6G.out).trans G7G.out⟩
      rw [HXS.out]
      rw [Pl.fmtE_many _ _ _ _ hl]
      simp only [bc_app]
      rw [(bc_expo (dp - 1) 43 n (by omega) (.inr ⟨by omega, by omega, rfl⟩)).1 h10]
      simp [bc]
    · by_cases h100 : n < 100
      · go_wp2_with (at_builtin; refine wpList_app rfl (.tmp 164) (.tmp 173) rfl base _ _ _ rfl G6O.out [.int .u8 ((n : Int) / 10 + 48), .int .u8 ((n : Int) % 10 + 48)] rfl (ones (news := [(n : Int) / 10 + 48, (n : Int) % 10 + 48])) (by simp only [List.length_cons, List.length_nil]; omega) (by omega) ?_)
        intro v7 w7 g7o g7g
        have G7O := Lib.hid g7o
        have G7G := Lib.hid g7g
        have g7z := g7g.1.size
        obtain ⟨v7a, v7c, rfl⟩ := g7o.form
        clear g7o g7g
        go_wp2_with fail
        go_ret
        refine ⟨_, rfl, G7O.out.close ?_, ((GA.out.trans G5G.out).trans G6G.out).trans G7G.out⟩
        rw [HXS.out]
        rw [Pl.fmtE_many _ _ _ _ hl]
        simp only [bc_app]
        rw [(bc_expo (dp - 1) 43 n (by omega) (.inr ⟨by omega, by omega, rfl⟩)).2.1 h10 h100]
        simp [bc]
      · go_wp2_with (at_builtin; refine wpList_app rfl (.tmp 136) (.tmp 150) rfl base _ _ _ rfl G6O.out [.int .u8 ((n : Int) / 100 + 48), .int .u8 ((n : Int) / 10 % 10 + 48), .int .u8 ((n : Int) % 10 + 48)] rfl (ones (news := [(n : Int) / 100 + 48, (n : Int) / 10 % 10 + 48, (n : Int) % 10 + 48])) (by simp only [List.length_cons, List.length_nil]; omega) (by omega) ?_)
        intro v7 w7 g7o g7g
        have G7O := Lib.hid g7o
        have G7G := Lib.hid g7g
        have g7z := g7g.1.size
        obtain ⟨v7a, v7c, rfl⟩ := g7o.form
        clear g7o g7g
        go_wp2_with fail
        go_ret
        refine ⟨_, rfl, G7O.out.close ?_, ((GA.out.trans G5G.out).trans G6G.out).trans G7G.out⟩
        rw [HXS.out]
        rw [Pl.fmtE_many _ _ _ _ hl]
        simp only [bc_app]
        rw [(bc_expo (dp - 1) 43 n (by omega) (.inr ⟨by omega, by omega, rfl⟩)).2.2 h10 h100]
        simp [bc]

set_option maxHeartbeats 4000000 in
set_option maxRecDepth 100000 in
theorem fmtE_neg_one (base b : Nat) (v : Value) (d0 : UInt8) (r : List UInt8) (dp : Int) (w : World) (hown : Owns w base 5 1 v 0 []) (hb : base ≤ w.heap.size) (hl : r.length = 0) (_hl2 : r.length ≤ 20) (hdp : -400 ≤ dp ∧ dp ≤ 400)
    (hc : ∀ j (h : j < (d0 :: r).length), w.cell? ⟨b, j, none⟩ = some (enc8 (d0 :: r)[j])) (hvb : v.ownBlock ≠ some b) (hbs : b < w.heap.size) :
    Calls Tryz.prog 229 #[v, .bool true, .slice (some ⟨b, 0, none⟩) 32 32, .int .i64 dp, .int .i64 (r.length + 1), .int .i64 r.length, .int .u8 101, .bool true] w (LaidOk base v w (Pl.fmtE true (d0 :: r) (dp - 1))) := by
  obtain ⟨a0, c0, rfl⟩ := hown.form
  have HC := Lib.hid hc
  have HVB := Lib.hid hvb
  have HO := Lib.hid hown
  clear hc hvb hown
  have hd0 := d0.toNat_lt
  have cd : w.cell? ⟨b, 0, none⟩ = some (.int .u8 (d0.toNat : Int)) := HC.out 0 (by simp)
  go_enter Tryz.func229, Tryz.ntmps229
  go_wp2_with (at_builtin; refine wpList_app rfl (.tmp 79) (.tmp 80) rfl base _ _ _ rfl HO.out [.int .u8 (45)] rfl (ones (news := [45])) (by simp only [List.length_cons, List.length_nil]; omega) (by omega) ?_)
  intro v1 w1 g1o g1g
  have G1O := Lib.hid g1o
  have G1G := Lib.hid g1g
  have g1z := g1g.1.size
  obtain ⟨v1a, v1c, rfl⟩ := g1o.form
  clear g1o g1g
  obtain ⟨hk1, hv1, hs1⟩ := G1G.out.block_of hbs HVB.out
  have cd : w1.cell? ⟨b, 0, none⟩ = some (.int .u8 (d0.toNat : Int)) := by rw [World.cell?_of_block (w := w) hk1]; exact HC.out 0 (by simp)
  have HK1 := Lib.hid hk1
  have HV1 := Lib.hid hv1
  clear hk1 hv1
  go_wp2_with (at_builtin; refine wpList_app rfl (.tmp 87) (.tmp 89) rfl base _ _ _ rfl G1O.out [.int .u8 (d0.toNat)] rfl (ones (news := [d0.toNat])) (by simp only [List.length_cons, List.length_nil]; omega) (by omega) ?_)
  intro v2 w2 g2o g2g
  have G2O := Lib.hid g2o
  have G2G := Lib.hid g2g
  have g2z := g2g.1.size
  obtain ⟨v2a, v2c, rfl⟩ := g2o.form
  clear g2o g2g
  clear cd
  have GA := Lib.hid (G1G.out.trans G2G.out)
  obtain ⟨XS, G4Q, HXS⟩ : ∃ XS, Hid (Owns w2 base 5 1 (.slice v2a (2) v2c) (2) XS) ∧ Hid (XS = bc ((if true = true then [45] else []) ++ [d0])) := ⟨_, G2O, Lib.hid (by simp [bc])⟩
  clear G2O
  go_wp2_with (at_builtin; refine wpList_app rfl (.tmp 120) (.tmp 122) rfl base _ _ _ rfl G4Q.out [.int .u8 (101)] rfl (ones (news := [101])) (by simp only [List.length_cons, List.length_nil]; omega) (by omega) ?_)
  intro v5 w5 g5o g5g
  have G5O := Lib.hid g5o
  have G5G := Lib.hid g5g
  have g5z := g5g.1.size
  obtain ⟨v5a, v5c, rfl⟩ := g5o.form
  clear g5o g5g
  by_cases hx : dp - 1 < 0
  · go_wp2_with (at_builtin; refine wpList_app rfl (.tmp 132) (.tmp 134) rfl base _ _ _ rfl G5O.out [.int .u8 (45)] rfl (ones (news := [45])) (by simp only [List.length_cons, List.length_nil]; omega) (by omega) ?_)
    intro v6 w6 g6o g6g
    have G6O := Lib.hid g6o
    have G6G := Lib.hid g6g
    have g6z := g6g.1.size
    obtain ⟨v6a, v6c, rfl⟩ := g6o.form
    clear g6o g6g
    obtain ⟨n, hn⟩ : ∃ n : Nat, -(dp - 1) = n := ⟨(1 - dp).toNat, by omega⟩
    rw [hn]
    have hn2 : n ≤ 999 := by omega
    by_cases h10 : n < 10
    · go_wp2_with (at_builtin; refine wpList_app rfl (.tmp 155) (.tmp 159) rfl base _ _ _ rfl G6O.out [.int .u8 (48), .int .u8 ((n : Int) + 48)] rfl (ones (news := [48, (n : Int) + 48])) (by simp only [List.length_cons, List.length_nil]; omega) (by omega) ?_)
      intro v7 w7 g7o g7g
      have G7O := Lib.hid g7o
      have G7G := Lib.hid g7g
      have g7z := g7g.1.size
      obtain ⟨v7a, v7c, rfl⟩ := g7o.form
      clear g7o g7g
      go_wp2_with fail
      go_ret
      refine ⟨_, rfl, G7O.out.close ?_, ((GA.out.trans G5G.out).trans G6G.out).trans G7G.out⟩
      rw [HXS.out]
      rw [Pl.fmtE_one _ _ _ _ hl]
      simp only [bc_app]
      rw [(bc_expo (dp - 1) 45 n (by omega) (.inl ⟨hx, by omega, rfl⟩)).1 h10]
      simp [bc]
    · by_cases h100 : n < 100
      · go_wp2_with (at_builtin; refine wpList_app rfl (.tmp 164) (.tmp 173) rfl base _ _ _ rfl G6O.out [.int .u8 ((n : Int) / 10 + 48), .int .u8 ((n : Int) % 10 + 48)] rfl (ones (news := [(n : Int) / 10 + 48, (n : Int) % 10 + 48])) (by simp only [List.length_cons, List.length_nil]; omega) (by omega) ?_)
        intro v7 w7 g7o g7g
        have G7O := Lib.hid g7o
        have G7G := Lib.hid g7g
        have g7z := g7g.1.size
        obtain ⟨v7a, v7c, rfl⟩ := g7o.form
        clear g7o g7g
        go_wp2_with fail
        go_ret
        refine ⟨_, rfl, G7O.out.close ?_, ((GA.out.trans G5G.out).trans G6G.out).trans G7G.out⟩
        rw [HXS.out]
        rw [Pl.fmtE_one _ _ _ _ hl]
        simp only [bc_app]
        rw [(bc_expo (dp - 1) 45 n (by omega) (.inl ⟨hx, by omega, rfl⟩)).2.1 h10 h100]
        simp [bc]
      · go_wp2_with (at_builtin; refine wpList_app rfl (.tmp 136) (.tmp 150) rfl base _ _ _ rfl G6O.out [.int .u8 ((n : Int) / 100 + 48), .int .u8 ((n : Int) / 10 % 10 + 48), .int .u8 ((n : Int) % 10 + 48)] rfl (ones (news := [(n : Int) / 100 + 48, (n : Int) / 10 % 10 + 48, (n : Int) % 10 + 48])) (by simp only [List.length_cons, List.length_nil]; omega) (by omega) ?_)
        intro v7 w7 g7o g7g
        have G7O := Lib.hid g7o
        have G7G := Lib.hid g7g
        have g7z := g7g.1.size
        obtain ⟨v7a, v7c, rfl⟩ := g7o.form
        clear g7o g7g
        go_wp2_with fail
        go_ret
        refine ⟨_, rfl, G7O.out.close ?_, ((GA.out.trans G5G.out).trans G6G.out).trans G7G.out⟩
        rw [HXS.out]
        rw [Pl.fmtE_one _ _ _ _ hl]
        simp only [bc_app]
        rw [(bc_expo (dp - 1) 45 n (by omega) (.inl ⟨hx, by omega, rfl⟩)).2.2 h10 h100]
        simp [bc]
  · go_wp2_with (at_builtin; refine wpList_app rfl (.tmp 132) (.tmp 134) rfl base _ _ _ rfl G5O.out [.int .u8 (43)] rfl (ones (news := [43])) (by simp only [List.length_cons, List.length_nil]; omega) (by omega) ?_)
    intro v6 w6 g6o g6g
    have G6O := Lib.hid g6o
    have G6G := Lib.hid g6g
    have g6z := g6g.1.size
    obtain ⟨v6a, v6c, rfl⟩ := g6o.form
    clear g6o g6g
    obtain ⟨n, hn⟩ : ∃ n : Nat, dp - 1 = n := ⟨(dp - 1).toNat, by omega⟩
    rw [hn]
    have hn2 : n ≤ 999 := by omega
    by_cases h10 : n < 10
    · go_wp2_with (at_builtin; refine wpList_app rfl (.tmp 155) (.tmp 159) rfl base _ _ _ rfl G6O.out [.int .u8 (48), .int .u8 ((n : Int) + 48)] rfl (ones (news := [48, (n : Int) + 48])) (by simp only [List.length_cons, List.length_nil]; omega) (by omega) ?_)
      intro v7 w7 g7o g7g
      have G7O := Lib.hid g7o
      have G7G := Lib.hid g7g
      have g7z := g7g.1.size
      obtain ⟨v7a, v7c, rfl⟩ := g7o.form
      clear g7o g7g
      go_wp2_with fail
      go_ret
      refine ⟨_, rfl, G7O.out.close ?_, ((GA.out.trans G5G.out).trans G6G.out).trans G7G.out⟩
      rw [HXS.out]
      rw [Pl.fmtE_one _ _ _ _ hl]
      simp only [bc_app]
      rw [(bc_expo (dp - 1) 43 n (by omega) (.inr ⟨by omega, by omega, rfl⟩)).1 h10]
      simp [bc]
    · by_cases h100 : n < 100
      · go_wp2_with (at_builtin; refine wpList_app rfl (.tmp 164) (.tmp 173) rfl base _ _ _ rfl G6O.out [.int .u8 ((n : Int) / 10 + 48), .int .u8 ((n : Int) % 10 + 48)] rfl (ones (news := [(n : Int) / 10 + 48, (n : Int) % 10 + 48])) (by simp only [List.length_cons, List.length_nil]; omega) (by omega) ?_)
        intro v7 w7 g7o g7g
        have G7O := Lib.hid g7o
        have G7G := Lib.hid g7g
        have g7z := g7g.1.size
        obtain ⟨v7a, v7c, rfl⟩ := g7o.form
        clear g7o g7g
        go_wp2_with fail
        go_ret
        refine ⟨_, rfl, G7O.out.close ?_, ((GA.out.trans G5G.out).trans G6G.out).trans G7G.out⟩
        rw [HXS.out]
        rw [Pl.fmtE_one _ _ _ _ hl]
        simp only [bc_app]
        rw [(bc_expo (dp - 1) 43 n (by omega) (.inr ⟨by omega, by omega, rfl⟩)).2.1 h10 h100]
        simp [bc]
      · go_wp2_with (at_builtin; refine wpList_app rfl (.tmp 136) (.tmp 150) rfl base _ _ _ rfl G6O.out [.int .u8 ((n : Int) / 100 + 48), .int .u8 ((n : Int) / 10 % 10 + 48), .int .u8 ((n : Int) % 10 + 48)] rfl (ones (news := [(n : Int) / 100 + 48, (n : Int) / 10 % 10 + 48, (n : Int) % 10 + 48])) (by simp only [List.length_cons, List.length_nil]; omega) (by omega) ?_)
        intro v7 w7 g7o g7g
        have G7O := Lib.hid g7o
        have G7G := Lib.hid g7g
        have g7z := g7g.1.size
        obtain ⟨v7a, v7c, rfl⟩ := g7o.form
        clear g7o g7g
        go_wp2_with fail
        go_ret
        refine ⟨_, rfl, G7O.out.close ?_, ((GA.out.trans G5G.out).trans G6G.out).trans G7G.out⟩
        rw [HXS.out]
        rw [Pl.fmtE_one _ _ _ _ hl]
        simp only [bc_app]
        rw [(bc_expo (dp - 1) 43 n (by omega) (.inr ⟨by omega, by omega, rfl⟩)).2.2 h10 h100]
        simp [bc]

set_option maxHeartbeats 4000000 in
set_option maxRecDepth 100000 in
theorem fmtE_pos_one (base b : Nat) (v : Value) (d0 : UInt8) (r : List UInt8) (dp : Int) (w : World) (hown : Owns w base 5 1 v 0 []) (hb : base ≤ w.heap.size) (hl : r.length = 0) (_hl2 : r.length ≤ 20) (hdp : -400 ≤ dp ∧ dp ≤ 400)
    (hc : ∀ j (h : j < (d0 :: r).length), w.cell? ⟨b, j, none⟩ = some (enc8 (d0 :: r)[j])) (hvb : v.ownBlock ≠ some b) (_hbs : b < w.heap.size) :
    Calls Tryz.prog 229 #[v, .bool false, .slice (some ⟨b, 0, none⟩) 32 32, .int .i64 dp, .int .i64 (r.length + 1), .int .i64 r.length, .int .u8 101, .bool true] w (LaidOk base v w (Pl.fmtE false (d0 :: r) (dp - 1))) := by
  obtain ⟨a0, c0, rfl⟩ := hown.form
  have HC := Lib.hid hc
  have HVB := Lib.hid hvb
  have HO := Lib.hid hown
  clear hc hvb hown
  have hd0 := d0.toNat_lt
  have cd : w.cell? ⟨b, 0, none⟩ = some (.int .u8 (d0.toNat : Int)) := HC.out 0 (by simp)
  go_enter Tryz.func229, Tryz.ntmps229
  go_wp2_with (at_builtin; refine wpList_app rfl (.tmp 87) (.tmp 89) rfl base _ _ _ rfl HO.out [.int .u8 (d0.toNat)] rfl (ones (news := [d0.toNat])) (by simp only [List.length_cons, List.length_nil]; omega) (by omega) ?_)
  intro v2 w2 g2o g2g
  have G2O := Lib.hid g2o
  have G2G := Lib.hid g2g
  have g2z := g2g.1.size
  obtain ⟨v2a, v2c, rfl⟩ := g2o.form
  clear g2o g2g
  clear cd
  have GA := Lib.hid (G2G.out)
  obtain ⟨XS, G4Q, HXS⟩ : ∃ XS, Hid (Owns w2 base 5 1 (.slice v2a (1) v2c) (1) XS) ∧ Hid (XS = bc ((if false = true then [45] else []) ++ [d0])) := ⟨_, G2O, Lib.hid (by simp [bc])⟩
  clear G2O
  go_wp2_with (at_builtin; refine wpList_app rfl (.tmp 120) (.tmp 122) rfl base _ _ _ rfl G4Q.out [.int .u8 (101)] rfl (ones (news := [101])) (by simp only [List.length_cons, List.length_nil]; omega) (by omega) ?_)
  intro v5 w5 g5o g5g
  have G5O := Lib.hid g5o
  have G5G := Lib.hid g5g
  have g5z := g5g.1.size
  obtain ⟨v5a, v5c, rfl⟩ := g5o.form
  clear g5o g5g
  by_cases hx : dp - 1 < 0
  · go_wp2_with (at_builtin; refine wpList_app rfl (.tmp 132) (.tmp 134) rfl base _ _ _ rfl G5O.out [.int .u8 (45)] rfl (ones (news := [45])) (by simp only [List.length_cons, List.length_nil]; omega) (by omega) ?_)
    intro v6 w6 g6o g6g
    have G6O := Lib.hid g6o
    have G6G := Lib.hid g6g
    have g6z := g6g.1.size
    obtain ⟨v6a, v6c, rfl⟩ := g6o.form
    clear g6o g6g
    obtain ⟨n, hn⟩ : ∃ n : Nat, -(dp - 1) = n := ⟨(1 - dp).toNat, by omega⟩
    rw [hn]
    have hn2 : n ≤ 999 := by omega
    by_cases h10 : n < 10
    · go_wp2_with (at_builtin; refine wpList_app rfl (.tmp 155) (.tmp 159) rfl base _ _ _ rfl G6O.out [.int .u8 (48), .int .u8 ((n : Int) + 48)] rfl (ones (news := [48, (n : Int) + 48])) (by simp only [List.length_cons, List.length_nil]; omega) (by omega) ?_)
      intro v7 w7 g7o g7g
      have G7O := Lib.hid g7o
      have G7G := Lib.hid g7g
      have g7z := g7g.1.size
      obtain ⟨v7a, v7c, rfl⟩ := g7o.form
      clear g7o g7g
      go_wp2_with fail
      go_ret
      refine ⟨_, rfl, G7O.out.close ?_, ((GA.out.trans G5G.out).trans G6G.out).trans G7G.out⟩
      rw [HXS.out]
      rw [Pl.fmtE_one _ _ _ _ hl]
      simp only [bc_app]
      rw [(bc_expo (dp - 1) 45 n (by omega) (.inl ⟨hx, by omega, rfl⟩)).1 h10]
      simp [bc]
    · by_cases h100 : n < 100
      · go_wp2_with (at_builtin; refine wpList_app rfl (.tmp 164) (.tmp 173) rfl base _ _ _ rfl G6O.out [.int .u8 ((n : Int) / 10 + 48), .int .u8 ((n : Int) % 10 + 48)] rfl (ones (news := [(n : Int) / 10 + 48, (n : Int) % 10 + 48])) (by simp only [List.length_cons, List.length_nil]; omega) (by omega) ?_)
        intro v7 w7 g7o g7g
        have G7O := Lib.hid g7o
        have G7G := Lib.hid g7g
        have g7z := g7g.1.size
        obtain ⟨v7a, v7c, rfl⟩ := g7o.form
        clear g7o g7g
        go_wp2_with fail
        go_ret
        refine ⟨_, rfl, G7O.out.close ?_, ((GA.out.trans G5G.out).trans G6G.out).trans G7G.out⟩
        rw [HXS.out]
        rw [Pl.fmtE_one _ _ _ _ hl]
        simp only [bc_app]
        rw [(bc_expo (dp - 1) 45 n (by omega) (.inl ⟨hx, by omega, rfl⟩)).2.1 h10 h100]
        simp [bc]
      · go_wp2_with (at_builtin; refine wpList_app rfl (.tmp 136) (.tmp 150) rfl base _ _ _ rfl G6O.out [.int .u8 ((n : Int) / 100 + 48), .int .u8 ((n : Int) / 10 % 10 + 48), .int .u8 ((n : Int) % 10 + 48)] rfl (ones (news := [(n : Int) / 100 + 48, (n : Int) / 10 % 10 + 48, (n : Int) % 10 + 48])) (by simp only [List.length_cons, List.length_nil]; omega) (by omega) ?_)
        intro v7 w7 g7o g7g
        have G7O := Lib.hid g7o
        have G7G := Lib.hid g7g
        have g7z := g7g.1.size
        obtain ⟨v7a, v7c, rfl⟩ := g7o.form
        clear g7o g7g
        go_wp2_with fail
        go_ret
        refine ⟨_, rfl, G7O.out.close ?_, ((GA.out.trans G5G.out).trans G6G.out).trans G7G.out⟩
        rw [HXS.out]
        rw [Pl.fmtE_one _ _ _ _ hl]
        simp only [bc_app]
        rw [(bc_expo (dp - 1) 45 n (by omega) (.inl ⟨hx, by omega, rfl⟩)).2.2 h10 h100]
        simp [bc]
  · go_wp2_with (at_builtin; refine wpList_app rfl (.tmp 132) (.tmp 134) rfl base _ _ _ rfl G5O.out [.int .u8 (43)] rfl (ones (news := [43])) (by simp only [List.length_cons, List.length_nil]; omega) (by omega) ?_)
    intro v6 w6 g6o g6g
    have G6O := Lib.hid g6o
    have G6G := Lib.hid g6g
    have g6z := g6g.1.size
    obtain ⟨v6a, v6c, rfl⟩ := g6o.form
    clear g6o g6g
    obtain ⟨n, hn⟩ : ∃ n : Nat, dp - 1 = n := ⟨(dp - 1).toNat, by omega⟩
    rw [hn]
    have hn2 : n ≤ 999 := by omega
    by_cases h10 : n < 10
    · go_wp2_with (at_builtin; refine wpList_app rfl (.tmp 155) (.tmp 159) rfl base _ _ _ rfl G6O.out [.int .u8 (48), .int .u8 ((n : Int) + 48)] rfl (ones (news := [48, (n : Int) + 48])) (by simp only [List.length_cons, List.length_nil]; omega) (by omega) ?_)
      intro v7 w7 g7o g7g
      have G7O := Lib.hid g7o
      have G7G := Lib.hid g7g
      have g7z := g7g.1.size
      obtain ⟨v7a, v7c, rfl⟩ := g7o.form
      clear g7o g7g
      go_wp2_with fail
      go_ret
      refine ⟨_, rfl, G7O.out.close ?_, ((GA.out.trans G5G.out).trans G6G.out).trans G7G.out⟩
      rw [HXS.out]
      rw [Pl.fmtE_one _ _ _ _ hl]
      simp only [bc_app]
      rw [(bc_expo (dp - 1) 43 n (by omega) (.inr ⟨by omega, by omega, rfl⟩)).1 h10]
      simp [bc]
    · by_cases h100 : n < 100
      · go_wp2_with (at_builtin; refine wpList_app rfl (.tmp 164) (.tmp 173) rfl base _ _ _ rfl G6O.out [.int .u8 ((n : Int) / 10 + 48), .int .u8 ((n : Int) % 10 + 48)] rfl (ones (news := [(n : Int) / 10 + 48, (n : Int) % 10 + 48])) (by simp only [List.length_cons, List.length_nil]; omega) (by omega) ?_)
        intro v7 w7 g7o g7g
        have G7O := Lib.hid g7o
        have G7G := Lib.hid g7g
        have g7z := g7g.1.size
        obtain ⟨v7a, v7c, rfl⟩ := g7o.form
        clear g7o g7g
        go_wp2_with fail
        go_ret
        refine ⟨_, rfl, G7O.out.close ?_, ((GA.out.trans G5G.out).trans G6G.out).trans G7G.out⟩
        rw [HXS.out]
        rw [Pl.fmtE_one _ _ _ _ hl]
        simp only [bc_app]
        rw [(bc_expo (dp - 1) 43 n (by omega) (.inr ⟨by omega, by omega, rfl⟩)).2.1 h10 h100]
        simp [bc]
      · go_wp2_with (at_builtin; refine wpList_app rfl (.tmp 136) (.tmp 150) rfl base _ _ _ rfl G6O.out [.int .u8 ((n : Int) / 100 + 48), .int .u8 ((n : Int) / 10 % 10 + 48), .int .u8 ((n : Int) % 10 + 48)] rfl (ones (news := [(n : Int) / 100 + 48, (n : Int) / 10 % 10 + 48, (n : Int) % 10 + 48])) (by simp only [List.length_cons, List.length_nil]; omega) (by omega) ?_)
        intro v7 w7 g7o g7g
        have G7O := Lib.hid g7o
        have G7G := Lib.hid g7g
        have g7z := g7g.1.size
        obtain ⟨v7a, v7c, rfl⟩ := g7o.form
        clear g7o g7g
        go_wp2_with fail
        go_ret
        refine ⟨_, rfl, G7O.out.close ?_, ((GA.out.trans G5G.out).trans G6G.out).trans G7G.out⟩
        rw [HXS.out]
        rw [Pl.fmtE_one _ _ _ _ hl]
        simp only [bc_app]
        rw [(bc_expo (dp - 1) 43 n (by omega) (.inr ⟨by omega, by omega, rfl⟩)).2.2 h10 h100]
        simp [bc]

theorem fmtE_any (neg : Bool) (base b : Nat) (v : Value) (d0 : UInt8) (r : List UInt8) (dp : Int) (w : World) (hown : Owns w base 5 1 v 0 []) (hb : base ≤ w.heap.size) (hl2 : r.length ≤ 20) (hdp : -400 ≤ dp ∧ dp ≤ 400)
    (hc : ∀ j (h : j < (d0 :: r).length), w.cell? ⟨b, j, none⟩ = some (enc8 (d0 :: r)[j])) (hvb : v.ownBlock ≠ some b) (hbs : b < w.heap.size) :
    Calls Tryz.prog 229 #[v, .bool neg, .slice (some ⟨b, 0, none⟩) 32 32, .int .i64 dp, .int .i64 (r.length + 1), .int .i64 r.length, .int .u8 101, .bool true] w (LaidOk base v w (Pl.fmtE neg (d0 :: r) (dp - 1))) := by
  rcases Nat.eq_zero_or_pos r.length with h | h <;> cases neg
  · exact fmtE_pos_one base b v d0 r dp w hown hb h hl2 hdp hc hvb hbs
  · exact fmtE_neg_one base b v d0 r dp w hown hb h hl2 hdp hc hvb hbs
  · exact fmtE_pos_many base b v d0 r dp w hown hb h hl2 hdp hc hvb hbs
  · exact fmtE_neg_many base b v d0 r dp w hown hb h hl2 hdp hc hvb hbs
end Go.Proofs.YtlodbibagmblkaaGreatDoor
