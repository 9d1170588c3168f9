/-
  Stores into one block of one's own: all else is as it was.
-/
import Derived.Test.YtamilahkdinjkaaDoorIns
import Derived.Below
namespace Go.Proofs.YtamilahkdinjkaaDoor
set_option linter.unusedVariables false
set_option linter.unusedSimpArgs false
open Go.RowKit

theorem free_o {w : World} {B : Nat} {cs : Array Value} {t : TypeId} (h : w.heap[B]? = some (.cells cs t (0, 0))) : ∀ o, w.frozen? ⟨B, o, none⟩ = false := by
  intro o; simp [World.frozen?, h]
/-- One block's cells are new, all else is as it was. -/
structure PutB (B : Nat) (o : Obj) (w w' : World) : Prop where
  os : w'.os = w.os
  tape : w'.tape = w.tape
  output : w'.output = w.output
  size : w'.heap.size = w.heap.size
  here : w'.heap[B]? = some o
  block : ∀ r, r ≠ B → w'.heap[r]? = w.heap[r]?
theorem PutB.set {B : Nat} {c : Array Value} {t : TypeId} {w w' : World} (h : PutB B (.cells c t (0, 0)) w w') (i : Nat) (v : Value) :
    PutB B (.cells (c.setIfInBounds i v) t (0, 0)) w (w'.setCell ⟨B, i, none⟩ v) := by
  refine ⟨h.os, h.tape, h.output, (by simp [h.size]), ?_, fun r hr => ?_⟩
  · have := h.here
    simp [World.setCell, Array.getElem?_modify, this]
  · simp only [World.setCell, Array.getElem?_modify]
    rw [if_neg (by omega)]
    exact h.block r hr
theorem PutB.refl {B : Nat} {o : Obj} {w : World} (h : w.heap[B]? = some o) : PutB B o w w := ⟨rfl, rfl, rfl, rfl, h, fun _ _ => rfl⟩
theorem PutB.below {B D : Nat} {o : Obj} {w w' : World} (h : PutB B o w w') (hD : D ≤ B) : Below D w w' := ⟨h.os, h.tape, h.output, Nat.le_of_eq h.size.symm, fun k hk => h.block k (by omega)⟩
theorem putB_inst {w : World} {B : Nat} {t : TypeId} {c0 c1 c2 c3 c4 c5 c6 : Value} (h : w.heap[B]? = some (.cells #[c0, c1, c2, c3, c4, c5, c6] t (0, 0))) (v0 v1 v2 v3 v4 v5 v6 : Value) :
    PutB B (.cells #[v0, v1, v2, v3, v4, v5, v6] t (0, 0)) w (((((((w.setCell ⟨B, 0, none⟩ v0).setCell ⟨B, 1, none⟩ v1).setCell ⟨B, 2, none⟩ v2).setCell ⟨B, 3, none⟩ v3).setCell ⟨B, 4, none⟩ v4).setCell ⟨B, 5, none⟩ v5).setCell ⟨B, 6, none⟩ v6) := by
  have := ((((((PutB.refl h).set 0 v0).set 1 v1).set 2 v2).set 3 v3).set 4 v4).set 5 v5 |>.set 6 v6
  simpa using this
end Go.Proofs.YtamilahkdinjkaaDoor
