/- Plain: a long quotient of words, word by word from the top. -/
import Derived.Test.YtlodbibagmblkaaGreatDoorPaap
import Derived.Test.YtlodbibagmblkaaGreatDoorPaae
namespace Go.Proofs.YtlodbibagmblkaaGreatDoor
namespace Pl
theorem num_split (xs : List Nat) {k : Nat} (h : k ≤ xs.length) : num xs = num (xs.take k) + 4294967296 ^ k * num (xs.drop k) := by
  have := num_append (xs.take k) (xs.drop k)
  rwa [List.take_append_drop, List.length_take, Nat.min_eq_left h] at this
/-- what stands while a long quotient is made: the words below k are as they were, those from k on are what is left, the quotient's words from k on are made -/
structure Lq (us cur qs : List Nat) (V k : Nat) : Prop where
  ws : Ws cur
  len : cur.length = us.length
  low : cur.take k = us.take k
  rest : num (cur.drop k) = num (us.drop k) % V
  quo : num (qs.drop k) = num (us.drop k) / V
theorem Lq.start {us qs : List Nat} {V k : Nat} (hw : Ws us) (h : num (us.drop k) < V) (hq : num (qs.drop k) = 0) : Lq us us qs V k :=
  ⟨hw, rfl, rfl, (Nat.mod_eq_of_lt h).symm, by rw [hq, Nat.div_eq_of_lt h]⟩
/-- a round: the words that the next word is taken from -/
theorem Lq.open {us cur qs : List Nat} {V j n : Nat} (h : Lq us cur qs V (j + 1)) (hu : Ws us) (hV : V < 4294967296 ^ n) (hV0 : 0 < V) (hj : j + n < us.length) :
    ∃ pre mid post, cur = pre ++ (mid ++ post) ∧ pre.length = j ∧ mid.length = n + 1 ∧ j + (n + 1) + post.length = us.length ∧ Ws mid ∧ num post = 0 ∧ Ws post ∧ pre = us.take j ∧ num mid = us.getD j 0 + 4294967296 * (num (us.drop (j + 1)) % V) ∧ num mid < V * 4294967296 := by
  have hl := h.len
  have hjl : j < cur.length := by omega
  have hgj : cur.getD j 0 = us.getD j 0 := by
    have h1 := congrArg (fun l => l.getD j 0) h.low
    simpa [List.getD_eq_getElem?_getD, List.getElem?_take] using h1
  have e1 := num_dropw cur j hjl
  rw [h.rest, hgj] at e1
  have hr : num (us.drop (j + 1)) % V < V := Nat.mod_lt _ hV0
  have hx := getD_ws hu j
  -- the words above the window are noughts
  have e2 := num_split (cur.drop (j + 1)) (k := n) (by rw [List.length_drop]; omega)
  rw [List.drop_drop, h.rest] at e2
  have hz : num (cur.drop (j + 1 + n)) = 0 := by
    rcases Nat.eq_zero_or_pos (num (cur.drop (j + 1 + n))) with h0 | h0
    · exact h0
    · have := Nat.mul_le_mul_left (4294967296 ^ n) h0
      omega
  have e3 := num_split (cur.drop j) (k := n + 1) (by rw [List.length_drop]; omega)
  rw [List.drop_drop, show j + (n + 1) = j + 1 + n by omega, hz, Nat.mul_zero, Nat.add_zero, e1] at e3
  refine ⟨cur.take j, (cur.drop j).take (n + 1), cur.drop (j + 1 + n), ?_, ?_, ?_, ?_, (h.ws.drop _).take _, hz, h.ws.drop _, ?_, e3.symm, ?_⟩
  · have : (cur.drop j).drop (n + 1) = cur.drop (j + 1 + n) := by rw [List.drop_drop]; congr 1; omega
    rw [← this, List.take_append_drop, List.take_append_drop]
  · rw [List.length_take]; omega
  · rw [List.length_take, List.length_drop]; omega
  · rw [List.length_drop]; omega
  · have h1 := congrArg (List.take j) h.low
    rwa [List.take_take, List.take_take, Nat.min_eq_left (by omega)] at h1
  · rw [← e3]
    have h3 : (num (us.drop (j + 1)) % V + 1) * 4294967296 ≤ V * 4294967296 := Nat.mul_le_mul_right _ hr
    omega
/-- a round is over -/
theorem Lq.next {us cur qs pre mid post mid' : List Nat} {V j n : Nat} (h : Lq us cur qs V (j + 1)) (hV0 : 0 < V) (hj : j + n < us.length) (hq : j < qs.length) (e : cur = pre ++ (mid ++ post)) (hp : pre.length = j) (hp2 : pre = us.take j) (hm : mid.length = n + 1) (hz : num post = 0)
    (hn : num mid = us.getD j 0 + 4294967296 * (num (us.drop (j + 1)) % V)) (hm2 : mid'.length = n + 1) (hw : Ws mid') (hn2 : num mid' = num mid % V) :
    Lq us (pre ++ (mid' ++ post)) (qs.set j (num mid / V)) V j := by
  have hl := h.len
  have hwp : Ws post := fun x hx => h.ws x (by rw [e]; simp [hx])
  have hwpre : Ws pre := fun x hx => h.ws x (by rw [e]; simp [hx])
  have hjl : j < us.length := by omega
  have e1 := num_dropw us j hjl
  have hd : num (us.drop j) = V * (4294967296 * (num (us.drop (j + 1)) / V)) + num mid := by
    have := Nat.div_add_mod (num (us.drop (j + 1))) V
    rw [hn, e1]
    have h2 : 4294967296 * (V * (num (us.drop (j + 1)) / V) + num (us.drop (j + 1)) % V) = V * (4294967296 * (num (us.drop (j + 1)) / V)) + 4294967296 * (num (us.drop (j + 1)) % V) := by
      rw [Nat.mul_add]; congr 1; ac_rfl
    rw [this] at h2
    omega
  refine ⟨?_, ?_, ?_, ?_, ?_⟩
  · intro x hx
    simp only [List.mem_append] at hx
    rcases hx with hx | hx | hx
    · exact hwpre x hx
    · exact hw x hx
    · exact hwp x hx
  · rw [← hl, e]; simp [hm, hm2]
  · rw [List.take_append_of_le_length (by omega), List.take_of_length_le (by omega), hp2]
  · rw [List.drop_append_of_le_length (by omega), List.drop_eq_nil_of_le (by omega), List.nil_append, num_append, hz, Nat.mul_zero, Nat.add_zero, hn2, hd, Nat.mul_add_mod]
  · rw [num_dropw _ j (by rw [List.length_set]; exact hq), show (qs.set j (num mid / V)).drop (j + 1) = qs.drop (j + 1) from List.drop_set_of_lt (by omega), h.quo, List.getD_eq_getElem?_getD, List.getElem?_set_self hq, hd, Nat.mul_add_div hV0]
    simp only [Option.getD_some]
    omega
theorem word_quo {V m : Nat} (hV0 : 0 < V) (hm : m < V * 4294967296) : m / V < 4294967296 := by
  rw [Nat.div_lt_iff_lt_mul hV0, Nat.mul_comm]; exact hm
/-- the end: quotient and rest -/
theorem Lq.done {us cur qs : List Nat} {V n U : Nat} (h : Lq us cur qs V 0) (hU : num us = U) (hV : V < 4294967296 ^ n) (hV0 : 0 < V) (hn : n ≤ cur.length) : num qs = U / V ∧ num (cur.take n) = U % V := by
  have h1 := h.rest
  have h2 := h.quo
  simp only [List.drop_zero] at h1 h2
  rw [hU] at h1 h2
  refine ⟨h2, ?_⟩
  have e := num_split cur hn
  have hr : U % V < V := Nat.mod_lt _ hV0
  have hz : num (cur.drop n) = 0 := by
    rcases Nat.eq_zero_or_pos (num (cur.drop n)) with h0 | h0
    · exact h0
    · have := Nat.mul_le_mul_left (4294967296 ^ n) h0
      omega
  rw [hz, Nat.mul_zero, Nat.add_zero] at e
  rw [← e, h1]
/-- how many words a number has -/
theorem wd_len_iff {V n : Nat} (h1 : 4294967296 ^ n ≤ V) (h2 : V < 4294967296 ^ (n + 1)) : (wd V).length = n + 1 := by
  have h0 : wd V ≠ [] := fun e => by
    have := wd_num V
    rw [e] at this
    simp [num] at this
    have := Nat.pow_pos (n := n) (show 0 < 4294967296 by decide)
    omega
  have ha := tr_ge (wd_tr V) h0
  have hb := num_ws (wd_ws V)
  rw [wd_num] at ha hb
  have hl : 0 < (wd V).length := List.length_pos_iff.2 h0
  have q1 : (wd V).length - 1 < n + 1 := (Nat.pow_lt_pow_iff_right (a := 4294967296) (by decide)).1 (Nat.lt_of_le_of_lt ha h2)
  have q2 : n < (wd V).length := (Nat.pow_lt_pow_iff_right (a := 4294967296) (by decide)).1 (Nat.lt_of_le_of_lt h1 hb)
  omega
/-- a number whose words are shifted so that its top word's top bit is set -/
theorem norm_facts {B n t L : Nat} (hn : (wd B).length = n + 1) (ht : (wd B).getD n 0 = t) (h1 : 2 ^ (L - 1) ≤ t) (h2 : t < 2 ^ L) (hL0 : 0 < L) (hL : L ≤ 32) :
    (wd (B * 2 ^ (32 - L))).length = n + 1 ∧ 2147483648 ≤ (wd (B * 2 ^ (32 - L))).getD n 0 ∧ B * 2 ^ (32 - L) < 4294967296 ^ (n + 1) ∧ 4294967296 ^ n * 2 ^ (32 - L) ≤ B * 2 ^ (32 - L) := by
  have e := num_split (wd B) (k := n) (by omega)
  have ed := num_dropw (wd B) n (by omega)
  rw [show (wd B).drop (n + 1) = [] from List.drop_eq_nil_of_le (by omega), ht] at ed
  rw [ed, wd_num] at e
  simp only [num, Nat.mul_zero, Nat.add_zero] at e
  have hlo := num_ws ((wd_ws B).take n)
  rw [List.length_take, Nat.min_eq_left (by omega)] at hlo
  obtain ⟨P, hP⟩ : ∃ P, 4294967296 ^ n = P := ⟨_, rfl⟩
  obtain ⟨s, hs⟩ : ∃ s, 2 ^ (32 - L) = s := ⟨_, rfl⟩
  have hP0 : 0 < P := by rw [← hP]; exact Nat.pow_pos (by decide)
  have hs0 : 0 < s := by rw [← hs]; exact Nat.two_pow_pos _
  have hs1 : 2 ^ L * s = 4294967296 := by rw [← hs, ← Nat.pow_add, show L + (32 - L) = 32 by omega]
  have hs2 : 2 ^ (L - 1) * s = 2147483648 := by rw [← hs, ← Nat.pow_add, show L - 1 + (32 - L) = 31 by omega]
  rw [hP] at e hlo
  rw [hs, hP, Nat.pow_succ, hP]
  have ht1 : 1 ≤ t := by have := Nat.two_pow_pos (L - 1); omega
  -- bounds
  have b1 : P * t ≤ B := by omega
  have b2 : B < P * (t + 1) := by rw [Nat.mul_add]; omega
  have c1 : P * 2147483648 ≤ B * s := by
    calc P * 2147483648 = P * (2 ^ (L - 1) * s) := by rw [hs2]
      _ ≤ P * (t * s) := Nat.mul_le_mul_left _ (Nat.mul_le_mul_right _ h1)
      _ = P * t * s := (Nat.mul_assoc _ _ _).symm
      _ ≤ B * s := Nat.mul_le_mul_right _ b1
  have c2 : B * s < P * 4294967296 := by
    calc B * s < P * (t + 1) * s := Nat.mul_lt_mul_of_pos_right b2 hs0
      _ = P * ((t + 1) * s) := Nat.mul_assoc _ _ _
      _ ≤ P * (2 ^ L * s) := Nat.mul_le_mul_left _ (Nat.mul_le_mul_right _ h2)
      _ = P * 4294967296 := by rw [hs1]
  have hlen : (wd (B * s)).length = n + 1 := wd_len_iff (by rw [hP]; exact Nat.le_trans (by omega) c1) (by rw [Nat.pow_succ, hP]; exact c2)
  refine ⟨hlen, ?_, c2, ?_⟩
  · have f := num_split (wd (B * s)) (k := n) (by omega)
    have fd := num_dropw (wd (B * s)) n (by omega)
    rw [show (wd (B * s)).drop (n + 1) = [] from List.drop_eq_nil_of_le (by omega)] at fd
    rw [fd, wd_num, hP] at f
    simp only [num, Nat.mul_zero, Nat.add_zero] at f
    have glo := num_ws ((wd_ws (B * s)).take n)
    rw [List.length_take, Nat.min_eq_left (by omega), hP] at glo
    generalize (wd (B * s)).getD n 0 = x at *
    rcases Nat.lt_or_ge x 2147483648 with hx | hx
    · have := Nat.mul_le_mul_left P (show x + 1 ≤ 2147483648 from hx)
      rw [Nat.mul_add] at this
      omega
    · exact hx
  · have : P * s ≤ P * t * s := by
      rw [Nat.mul_assoc]
      exact Nat.mul_le_mul_left _ (Nat.le_mul_of_pos_left _ ht1)
    exact Nat.le_trans this (Nat.mul_le_mul_right _ b1)
/-- at first what lies above the quotient's words is less than the divisor -/
theorem top_less {A B s k nA nB : Nat} {us : List Nat} (hk : k + nB = nA + 1) (h1 : 1 ≤ nB) (hA : A < 4294967296 ^ nA) (hB : 4294967296 ^ (nB - 1) ≤ B) (hs : 0 < s) (hu : num us = A * s) (hl : us.length = nA + 1) : num (us.drop k) < B * s := by
  have e := num_split us (k := k) (by omega)
  rw [hu] at e
  have h2 : 4294967296 ^ k * num (us.drop k) ≤ A * s := by omega
  have h3 : A * s < 4294967296 ^ nA * s := Nat.mul_lt_mul_of_pos_right hA hs
  have h4 : 4294967296 ^ nA = 4294967296 ^ k * 4294967296 ^ (nB - 1) := by rw [← Nat.pow_add]; congr 1; omega
  rw [h4, Nat.mul_assoc] at h3
  have h5 : 4294967296 ^ k * num (us.drop k) < 4294967296 ^ k * (4294967296 ^ (nB - 1) * s) := Nat.lt_of_le_of_lt h2 h3
  have h6 := Nat.lt_of_mul_lt_mul_left h5
  exact Nat.lt_of_lt_of_le h6 (Nat.mul_le_mul_right _ hB)
end Pl
end Go.Proofs.YtlodbibagmblkaaGreatDoor
