/- Numbers' texts are read as these numbers: PrimsTexts of literals as they lie in memory. -/
import Derived.Test.YtlodbibagmblkaaGreatDoorTabo
namespace Go.Proofs.YtlodbibagmblkaaGreatDoor
open Go Go.RowKit Go.Lib
theorem primsTexts_any {B : Nat} (x : Pl.Lit) (vx : Value) (n : Nat) (w : World) (hB : B ≤ w.heap.size) (hx : LitsAt B w x.items vx) (hxw : Pl.LitW x) (hn : n < 18446744073709551616) (he : Env w) :
    Calls Tryz.prog 4 #[litV x vx, .int .u64 n] w fun e w' => e = .returned (.bool true) ∧ Below w.heap.size w w' := by
  obtain ⟨Ax, cx, Vx, rfl, _, _, _, _⟩ := hx.out
  have hbs : ∀ s : ByteArray, ∃ l, s = bs l := fun s => ⟨s.data.toList, by apply ByteArray.ext; simp⟩
  obtain ⟨lx, hlx⟩ := hbs x.text
  have key := texts_law x.kind x.n x.bits lx Ax x.items.length cx n w hxw.n0 hxw.n1 hn he (fun W hW => by
    rw [← hlx]
    have hL := LitsAt.one (hx.keep (hW.mono hB)) hxw (Nat.le_trans hB hW.size) 26
    refine (lfar_any _ hL (by simp)).mono fun e w' ⟨⟨t, ht, hq⟩, hb⟩ => ⟨⟨t, ht, fun h => ?_⟩, ((Below.refl _ _).alloc (Nat.le_refl _) _).trans (hb.mono (by simp))⟩
    have h2 := hq h
    have e1 : Pl.litBig x = 1 + x.text.size + Pl.litsBig x.items := by cases x; rfl
    have s1 : x.text.size = lx.length := by rw [hlx]; rfl
    simp only [Pl.litsBig] at h2
    omega)
  rw [← hlx] at key
  exact key
end Go.Proofs.YtlodbibagmblkaaGreatDoor
