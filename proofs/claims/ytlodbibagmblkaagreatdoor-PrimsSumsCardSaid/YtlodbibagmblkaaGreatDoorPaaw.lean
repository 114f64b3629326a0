/- Sums, products, quotients: PrimsSums of literals as they lie in memory. -/
import Derived.Test.YtlodbibagmblkaaGreatDoorPaav
namespace Go.Proofs.YtlodbibagmblkaaGreatDoor
open Go Go.RowKit Go.Lib
theorem primsSums_any {B : Nat} (x y : Pl.Lit) (vx vy : Value) (w : World) (hB : B ≤ w.heap.size) (hx : LitsAt B w x.items vx) (hy : LitsAt B w y.items vy) (hxw : Pl.LitW x) (hyw : Pl.LitW y) :
    Calls Tryz.prog 3 #[litV x vx, litV y vy] w fun e w' => e = .returned (.bool true) ∧ Below w.heap.size w w' := by
  obtain ⟨Ax, cx, Vx, rfl, _, _, _, _⟩ := hx.out
  obtain ⟨Ay, cy, Vy, rfl, _, _, _, _⟩ := hy.out
  have hbs : ∀ s : ByteArray, ∃ l, s = bs l := fun s => ⟨s.data.toList, by apply ByteArray.ext; simp⟩
  obtain ⟨lx, hlx⟩ := hbs x.text
  obtain ⟨ly, hly⟩ := hbs y.text
  have key := sums_any x.kind x.n x.bits y.kind y.n y.bits lx ly Ax Ay x.items.length cx y.items.length cy w hxw.n0 hxw.n1 hyw.n0 hyw.n1 (fun W hW => by
    rw [← hlx, ← hly]
    have hL := LitsAt.two (hx.keep (hW.mono hB)) (hy.keep (hW.mono hB)) hxw hyw (Nat.le_trans hB hW.size) 26
    refine (lfar_any _ hL (by simp)).mono fun e w' ⟨⟨t, ht, hq⟩, hb⟩ => ⟨⟨t, ht, fun h => ?_⟩, ((Below.refl _ _).alloc (Nat.le_refl _) _).trans (hb.mono (by simp))⟩
    have h2 := hq h
    have e1 : Pl.litBig x = 1 + x.text.size + Pl.litsBig x.items := by cases x; rfl
    have e2 : Pl.litBig y = 1 + y.text.size + Pl.litsBig y.items := by cases y; rfl
    have s1 : x.text.size = lx.length := by rw [hlx]; rfl
    have s2 : y.text.size = ly.length := by rw [hly]; rfl
    simp only [Pl.litsBig] at h2
    omega)
  rw [← hlx, ← hly] at key
  exact key
end Go.Proofs.YtlodbibagmblkaaGreatDoor
