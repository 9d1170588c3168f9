/-
  A slice of instructions that comes in, by its cells.
-/
import Derived.Test.YtamilahkdinjkaaDoorLaw
import Derived.Test.YtamilahkdinjkaaDoorLawEncs
import Derived.OpenShut
namespace Go.Proofs.YtamilahkdinjkaaDoor
set_option linter.unusedVariables false
set_option linter.unusedSimpArgs false
set_option maxRecDepth 100000
open Go.ChangeShapes Go.WideShapes Go.ChangeAt Go.WideMaps Go.WideElems Go.RowKit Go.Joins Go.Deep

section
variable {H : Type} {enc : TypeId × Value → H} {W : World}
theorem instAt_of {a : Addr} {i : Inst} (h : ∀ j, j < 7 → W.cell? (a.add j) = i.val.toList[j]?) : ∃ b off, a = ⟨b, off, none⟩ ∧ InstAt W b off i ∧ b < W.heap.size := by
  obtain ⟨b, off, spot⟩ := a
  have h0 := h 0 (by decide)
  have hspot : spot = none := by simpa [Addr.add] using World.cell?_spot (h0.trans rfl)
  subst hspot
  have c := fun j (hj : j < 7) => (add_plain b off j) ▸ h j hj
  exact ⟨b, off, rfl, ⟨c 0 (by decide), c 1 (by decide), c 2 (by decide), c 3 (by decide), c 4 (by decide), c 5 (by decide), c 6 (by decide)⟩, cell_lt (c 0 (by decide))⟩

theorem open_insts {fuel : Nat} {cs : List Value} {x : DataW H × List MemPlace} (h : DataW.trod enc Tryd.prog W 0 (fun _ => true) true fuel 37 cs = some x) :
    (cs = [.slice none 0 0] ∧ x = (.nil, [])) ∨ ∃ (a : Addr) (len cap : Nat), cs = [.slice (some a) len cap] ∧ len ≤ cap ∧ cap ≤ maxLen ∧
      (0 < cap → ∃ (b off : Nat) (I : Nat → Inst), a = ⟨b, off, none⟩ ∧ b < W.heap.size ∧ ∀ j, j < cap → InstAt W b (off + j * 7) (I j) ∧ 0 ≤ (I j).imm ∧ (I j).imm < 4294967296) := by
  rcases open_slice Tryd.underlying37 h with h0 | ⟨a, len, cap, m, n, D, Pl, hcs, _, hl, hm, hmm, hx, hi⟩
  · exact .inl h0
  · refine .inr ⟨a, len, cap, hcs, hl, hm, fun hp => ?_⟩
    have hmc : m = cap := hmm
    subst hmc
    rw [c_inst] at hi
    have each : ∀ j, ∃ i : Inst, j < m → (∀ q, q < 7 → W.cell? ((a.add (j * 7)).add q) = i.val.toList[q]?) ∧ 0 ≤ i.imm ∧ i.imm < 4294967296 := by
      intro j
      by_cases hj : j < m
      · obtain ⟨cs', hc, ht⟩ := hi j hj
        obtain ⟨i, rfl, h0, h1⟩ := cells_open_inst ht
        exact ⟨i, fun _ => ⟨(World.cells?_some hc).2.2, h0, h1⟩⟩
      · exact ⟨zeroI, fun h => (hj h).elim⟩
    obtain ⟨b, off, rfl, _, hb⟩ := instAt_of (a := a) (i := Classical.choose (each 0)) (fun q hq => by
      have := (Classical.choose_spec (each 0) hp).1 q hq
      rw [add_add] at this
      simpa using this)
    refine ⟨b, off, fun j => Classical.choose (each j), rfl, hb, fun j hj => ?_⟩
    obtain ⟨g0, g1, g2⟩ := Classical.choose_spec (each j) hj
    obtain ⟨b', off', he, hI, _⟩ := instAt_of g0
    rw [add_plain] at he
    simp only [Addr.mk.injEq, and_true] at he
    obtain ⟨rfl, rfl⟩ := he
    exact ⟨hI, g1, g2⟩
end
end Go.Proofs.YtamilahkdinjkaaDoor
