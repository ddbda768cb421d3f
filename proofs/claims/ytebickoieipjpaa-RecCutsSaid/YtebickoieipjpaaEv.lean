/- A cell of a world in which a cell was written, without a premise. No program. -/
import Derived.Test.YtebickoieipjpaaRdBase
namespace Go.Gi
open Go.RowKit
set_option maxRecDepth 20000
theorem cellIte (w : World) (g i h j : Nat) (v : Value) : (w.setCell ⟨g, i, none⟩ v).cell? ⟨h, j, none⟩ = if g = h ∧ i = j then (w.cell? ⟨h, j, none⟩).map (fun _ => v) else w.cell? ⟨h, j, none⟩ := by
  by_cases hg : g = h
  · subst hg
    by_cases hi : i = j
    · subst hi
      rw [if_pos ⟨rfl, rfl⟩]
      cases hx : w.cell? ⟨g, i, none⟩ with
      | some x => rw [cellSame (by rw [hx]; rfl)]; rfl
      | none =>
        simp [World.cell?] at hx ⊢
        simp [World.setCell, Array.getElem?_modify]
        cases hh : w.heap[g]? with
        | none => simp
        | some o =>
          rw [hh] at hx
          cases o <;> simp_all
    · rw [if_neg (fun h => hi h.2)]
      exact World.cell?_setCell_other w _ _ v (fun h => hi (by injection h))
  · rw [if_neg (fun h => hg h.1)]
    exact World.cell?_setCell_other w _ _ v (fun h => hg (by injection h))
end Go.Gi
