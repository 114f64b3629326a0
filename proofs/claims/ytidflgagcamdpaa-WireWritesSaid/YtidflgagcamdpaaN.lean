/- Contracts of the document's lists of numbers: a copy lent, compared, found whole. -/
import Derived.Test.YtidflgagcamdpaaW
namespace Go.Proofs.Ytidflgagcamdpaa
open Go.RowKit Go.Lib
theorem Words.cell {w : World} {a : Option Addr} {zs : List Nat} (h : Words w a zs) {k : Nat} (hk : k < zs.length) :
    ∃ b off, a = some ⟨b, off, none⟩ ∧ w.cell? ⟨b, off + k, none⟩ = some (.int .u64 (zs[k] : Nat)) := by
  obtain ⟨b, off, h1, h2, _⟩ := h.at (Below.refl _ _) hk
  exact ⟨b, off, h1, h2⟩
theorem Words.drewN {w : World} {a : Option Addr} {zs : List Nat} (h : Words w a zs) (n : Nat) : Words (w.drewN n) a zs := by
  rcases h with h | ⟨b, off, h1, h2, h3⟩
  · exact .inl h
  · exact .inr ⟨b, off, h1, h2, h3⟩
set_option maxHeartbeats 400000 in
theorem same_any (a b : Option Addr) (c1 c2 : Nat) (zs : List Nat) (w : World) (ha : Words w a zs) (hb : Words w b zs) (hl : zs.length ≤ 1099511627776) :
    Calls Try.prog 27 #[.slice a zs.length c1, .slice b zs.length c2] w fun e w' => e = .returned (.bool true) ∧ ∃ n, w' = w.drewN n := by
  have HA := Lib.hid ha
  have HB := Lib.hid hb
  clear ha hb
  have hne : ((zs.length : Int) != (zs.length : Int)) = false := by simp
  go_enter Try.func27, Try.ntmps27
  go_wp2
  go_loopw [5] (fun i wr => ∃ k : Nat, k ≤ zs.length ∧ i = .int .i64 k ∧ ∃ n, wr = w.drewN n) (fun i _ => zs.length - (intOf i).toNat)
  case atStart => exact ⟨0, Nat.zero_le _, rfl, 0, rfl⟩
  case round =>
    obtain ⟨k, hk, rfl, n, hW⟩ := hrel
    have HW := Lib.hid hW
    by_cases hlt : k < zs.length
    · obtain ⟨b1, o1, rfl, hc1⟩ := (HA.out.drewN n).cell hlt
      obtain ⟨b2, o2, rfl, hc2⟩ := (HB.out.drewN n).cell hlt
      rw [← hW] at hc1 hc2
      clear hW
      generalize zs[k] = x at hc1 hc2
      have hx : ((x : Int) != (x : Int)) = false := by simp
      have hki : (k : Int) < (zs.length : Int) := by omega
      go_wp2_with fail
      go_quiet (fail)
      go_wp2
      go_roundw
      case rel => exact ⟨k + 1, by omega, by go_num, _, by rw [HW.out, World.drewN_drewN]⟩
      case measure => simp [intOf]; omega
    · clear hW
      go_wp2
      go_ret
      exact ⟨rfl, _, HW.out⟩
def ucells (zs : List Nat) : List Value := zs.map fun z => Value.int .u64 (z : Nat)
theorem info34 : (Try.prog.info? 34).map (fun i => (i.zero, i.size, i.bytes)) = some (some (.int .u64 0), 1, 8) := by kernel_rfl
def LentOk (w : World) (zs : List Nat) (e : Ending) (w' : World) : Prop :=
  ∃ g, e = .returned (.slice (some ⟨g, 0, none⟩) zs.length (zs.length + 2)) ∧ w.heap.size ≤ g ∧ w'.ownsRow w.heap.size 34 1 (.slice (some ⟨g, 0, none⟩) (zs.length + 2) (zs.length + 2)) (zs.length + 2) (ucells zs ++ [.int .u64 8999229, .int .u64 8999228]) ∧ Below w.heap.size w w'
set_option maxHeartbeats 400000 in
theorem lent_any (a : Option Addr) (cap : Nat) (zs : List Nat) (w : World) (ha : Words w a zs) (hnil : a = none → cap = 0) (hl : zs.length ≤ 33554431) :
    Calls Try.prog 9 #[.slice a zs.length cap] w (LentOk w zs) := by
  obtain ⟨i0, hi, hz0, hz1, hz2⟩ := info_parts info34
  have HA := Lib.hid ha
  have HN := Lib.hid hnil
  clear ha hnil
  go_enter Try.func9, Try.ntmps9
  go_wp2_with (at_make; refine wpList_make_own _ rfl _ _ 22 rfl w.heap.size 34 i0 (.int .u64 0) 1 Try.underlying22 hi hz0 hz1 .i64 .i64 _ (zs.length + 2) rfl rfl ?c0 ?c1 ?c2 ?c3 ?_)
  case c0 => omega
  case c1 => rw [hz2]; omega
  case c2 => unfold maxLen; omega
  case c3 => exact Nat.le_refl _
  intro w1 ho1 hg1
  have hs1 := hg1.size
  have HO1 := Lib.hid ho1
  have HB1 := Lib.hid (show Below w.heap.size w w1 from (Below.refl _ _).grown hg1 (Nat.le_refl _) (fun k hk => by cases hk))
  clear ho1 hg1
  go_wp2_with (at_builtin; refine wpList_append_fits_any _ rfl (.tmp 8) (.tmp 9) 22 rfl w.heap.size 34 i0 1 Try.underlying22 hi hz1 w.heap.size 0 (zs.length + 2) [] rfl HO1.out a zs.length cap (ucells zs) rfl ?c0 ?c1 ?c2 ?c3 ?c4 ?_)
  case c0 => simp [ucells]
  case c1 =>
    intro hn
    refine ⟨?_, HN.out hn⟩
    rcases HA.out with h | ⟨b, off, h, _⟩
    · simp [h]
    · rw [hn] at h; cases h
  case c2 =>
    intro ad had j u hu
    have hj : j < zs.length := by
      have := (List.getElem?_eq_some_iff.1 hu).1
      simpa [ucells] using this
    obtain ⟨b, off, h1, h2, _⟩ := HA.out.at HB1.out hj
    rw [had] at h1
    injection h1 with h1
    subst h1
    have hv : u = .int .u64 (zs[j] : Nat) := by
      rw [List.getElem?_eq_getElem (by simpa [ucells] using hj)] at hu
      simpa [ucells] using hu.symm
    rw [hv, ← h2, Addr.add_lit]
  case c3 => intro u hu; simp [ucells] at hu; obtain ⟨z, _, rfl⟩ := hu; rfl
  case c4 => omega
  intro w2 ho2 hg2
  have hs2 := hg2.size
  have HO2 := Lib.hid ho2
  have HB2 := Lib.hid (show Below w.heap.size w w2 from HB1.out.grown hg2 hs1 (fun k hk => by cases hk; exact Nat.le_refl _))
  clear ho2 hg2
  go_wp2_with (at_builtin; refine wpList_append_fits _ rfl (.tmp 11) (.tmp 12) 22 rfl w.heap.size 34 i0 1 Try.underlying22 hi hz1 w.heap.size zs.length (zs.length + 2) (ucells zs) rfl (HO2.out.alloc _) ⟨w2.heap.size, 0, none⟩ 2 2 [.int .u64 8999229, .int .u64 8999228] rfl rfl ?c5 ?c6 ?c7 ?_)
  case c5 =>
    intro j u hj
    match j, hj with
    | 0, hj => simp at hj; subst hj; simp [Addr.add]
    | 1, hj => simp at hj; subst hj; simp [Addr.add]
  case c6 => intro u hu; simp at hu; rcases hu with rfl | rfl <;> rfl
  case c7 => omega
  intro w3 ho3 hg3
  have hs3 := hg3.size
  have HO3 := Lib.hid ho3
  have HB3 := Lib.hid (show Below w.heap.size w w3 from (HB2.out.alloc (by omega) _).grown hg3 (by simp; omega) (fun k hk => by cases hk; exact Nat.le_refl _))
  clear ho3 hg3
  go_wp2_with fail
  go_ret
  exact ⟨w.heap.size, rfl, Nat.le_refl _, HO3.out, HB3.out⟩

set_option maxHeartbeats 400000 in
theorem whole_any (g : Nat) (b : Option Addr) (c2 : Nat) (zs : List Nat) (w : World) (ha : Words w (some ⟨g, 0, none⟩) zs) (hb : Words w b zs) (hl : zs.length ≤ 33554431)
    (h1 : w.cell? ⟨g, zs.length, none⟩ = some (.int .u64 8999229)) (h2 : w.cell? ⟨g, zs.length + 1, none⟩ = some (.int .u64 8999228)) :
    Calls Try.prog 11 #[.slice (some ⟨g, 0, none⟩) zs.length (zs.length + 2), .slice b zs.length c2] w fun e w' => e = .returned (.bool true) ∧ ∃ n, w' = w.drewN n := by
  have HA := Lib.hid ha
  have HB := Lib.hid hb
  clear ha hb
  go_enter Try.func11, Try.ntmps11
  go_wp2_with fail
  refine (same_any _ _ _ _ zs w HA.out HB.out (by omega)).mono ?_
  rintro e w' ⟨rfl, n, rfl⟩
  have h1' : (w.drewN n).cell? ⟨g, zs.length, none⟩ = some (.int .u64 8999229) := h1
  have h2' : (w.drewN n).cell? ⟨g, zs.length + 1, none⟩ = some (.int .u64 8999228) := h2
  go_wp2_with fail
  go_ret
  exact ⟨rfl, n, rfl⟩
end Go.Proofs.Ytidflgagcamdpaa
