/-
  law03.IsaName.
-/
import Derived.Test.YtamilahkdinjkaaDoorKnown
namespace Go.Proofs.YtamilahkdinjkaaDoor
set_option linter.unusedVariables false
set_option linter.unusedSimpArgs false
open Go.RowKit Go.Shelf
attribute [local go_sem] Oper.semAt_some

theorem nm_get {l : List Value} (hl : l = (List.range 59).map fun j => .string (nameK j)) {k : Nat} (hk : k < l.length) : l[k] = .string (nameK k) := by
  subst hl; simp

set_option maxRecDepth 100000 in
set_option maxHeartbeats 4000000 in
theorem refName_any (op : Int) (w : World) : Calls Tryd.prog 17 #[.int .i64 op] w fun e w' => Below w.heap.size w w' ∧
    ((∃ k : Nat, k < 59 ∧ op = k + 1 ∧ e = .returned (.string (nameK k))) ∨ ((op < 1 ∨ 59 < op) ∧ e = .returned (.string ⟨#[]⟩))) := by
  by_cases h1 : op < 1
  · go_enter Tryd.func17, Tryd.ntmps17
    go_wp2
    go_ret
    exact ⟨(Below.refl _ _).alloc (Nat.le_refl _) _, .inr ⟨.inl h1, rfl⟩⟩
  · by_cases h2 : 60 ≤ op
    · go_enter Tryd.func17, Tryd.ntmps17
      go_wp2
      go_ret
      exact ⟨(Below.refl _ _).alloc (Nat.le_refl _) _, .inr ⟨.inr (by omega), rfl⟩⟩
    · obtain ⟨k, hk, rfl⟩ : ∃ k : Nat, k < 59 ∧ op = k + 1 := ⟨(op - 1).toNat, by omega, by omega⟩
      go_enter Tryd.func17, Tryd.ntmps17
      go_wp2
      have e0 : ((k : Int) + 1).toNat = k + 1 := by omega
      refine bodyPost_ret (v := .string (nameK k)) ?_ rfl ⟨(Below.refl _ _).alloc (Nat.le_refl _) _, .inl ⟨k, hk, rfl, rfl⟩⟩
      simp [results, Tryd.f17, go_sem]
      exact nm_get (by kernel_rfl) _
end Go.Proofs.YtamilahkdinjkaaDoor
