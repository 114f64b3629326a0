/- Shift by at most 60 places, walked. Shift right by any number of places, walked: the shape alone. What tells that the slow road's loops end: plain. A scope with labels that are jumped to: what holds at each, and a measure. RoundedInteger, walked. -/
import Derived.Test.YtlodbibagmblkaaGreatDoorTabg
import Derived.ScopeJumps
import Derived.WalkKit
namespace Go.Proofs.YtlodbibagmblkaaGreatDoor
open Go.RowKit Go.Lib
end Go.Proofs.YtlodbibagmblkaaGreatDoor
namespace Go.Proofs.YtlodbibagmblkaaGreatDoor
open Go.RowKit Go.Lib
end Go.Proofs.YtlodbibagmblkaaGreatDoor
namespace Go.Proofs.YtlodbibagmblkaaGreatDoor
open Go.RowKit Go.Lib
namespace Pl
theorem DIs.d0 {D : Dm} {N : Nat} (h : DIs D N) : D.d 0 = N / 10 ^ (D.nd - 1) + 48 ∧ 1 ≤ N / 10 ^ (D.nd - 1) ∧ N / 10 ^ (D.nd - 1) ≤ 9 := by
  have hp := h.pos
  have p0 : 0 < 10 ^ (D.nd - 1) := Nat.pow_pos (by decide)
  have h1 : 1 ≤ N / 10 ^ (D.nd - 1) := (Nat.le_div_iff_mul_le p0).2 (by rw [Nat.one_mul]; exact h.lo)
  have h2 : N / 10 ^ (D.nd - 1) < 10 := by
    rw [Nat.div_lt_iff_lt_mul p0, Nat.mul_comm, ← Nat.pow_succ, show (D.nd - 1).succ = D.nd by omega]; exact h.hi
  refine ⟨?_, h1, by omega⟩
  rw [h.dig 0 hp, Nat.sub_zero, Nat.mod_eq_of_lt h2]
end Pl
end Go.Proofs.YtlodbibagmblkaaGreatDoor
namespace Go.Proofs.YtlodbibagmblkaaGreatDoor
open Go
end Go.Proofs.YtlodbibagmblkaaGreatDoor
namespace Go.Proofs.YtlodbibagmblkaaGreatDoor
open Go.RowKit Go.Lib
/-- one more where the rest says so -/
def Dm.one (D : Dm) (p : Nat) : Bool := if p < D.nd then D.up p else false
end Go.Proofs.YtlodbibagmblkaaGreatDoor
