/-
  law03.IsaName, as a call.
-/
import Derived.Test.YtamilahkdinjkaaDoorLName
namespace Go.Proofs.YtamilahkdinjkaaDoor
set_option linter.unusedVariables false
set_option linter.unusedSimpArgs false
open Go.RowKit Go.Shelf
attribute [local go_sem] Oper.semAt_some

theorem nameK_ne {k : Nat} (hk : k < 59) : (nameK k).toList.isEmpty = false := by
  have h : (List.range 59).all (fun j => !(nameK j).toList.isEmpty) = true := by decide +kernel
  simpa using List.all_eq_true.1 h k (List.mem_range.2 hk)

set_option maxRecDepth 100000 in
set_option maxHeartbeats 4000000 in
theorem lawName_any (op : Int) (w : World) (hT : Tab w) : Calls Tryd.prog 7 #[.int .i64 op] w fun e w' => e = .returned (.bool true) ∧ Below w.heap.size w w' := by
  by_cases ho : op < 1 ∨ 59 < op
  · go_enter Tryd.func7, Tryd.ntmps7
    go_wp2_with (first
      | (go_at_call 16; refine (name_any op _ hT).mono ?_; rintro e w1 ⟨hb1, hd⟩
         obtain rfl : e = .returned (.tuple #[.string ⟨#[]⟩, .bool false]) := by
           rcases hd with ⟨k, hk, h, _⟩ | ⟨_, h⟩
           · omega
           · exact h)
      | (go_at_call 17; refine (refName_any op _).mono ?_; rintro e w2 ⟨hb2, hd⟩
         obtain rfl : e = .returned (.string ⟨#[]⟩) := by
           rcases hd with ⟨k, hk, h, _⟩ | ⟨_, h⟩
           · omega
           · exact h)
      | (go_at_call 13; refine (known_any _ ?_).mono ?_; exact (hT.below hb1).below hb2; rintro e w3 ⟨rfl, hb3⟩))
    go_ret
    exact ⟨rfl, (hb1.trans (hb2.mono hb1.size)).trans (hb3.mono (Nat.le_trans hb1.size hb2.size))⟩
  · obtain ⟨k, hk, rfl⟩ : ∃ k : Nat, k < 59 ∧ op = k + 1 := ⟨(op - 1).toNat, by omega, by omega⟩
    have hne := nameK_ne hk
    go_enter Tryd.func7, Tryd.ntmps7
    go_wp2_with (first
      | (go_at_call 16; refine (name_any _ _ hT).mono ?_; rintro e w1 ⟨hb1, hd⟩
         obtain rfl : e = .returned (.tuple #[.string (nameK k), .bool true]) := by
           rcases hd with ⟨j, hj, h, rfl⟩ | ⟨h, _⟩
           · obtain rfl : j = k := by omega
             rfl
           · omega)
      | (go_at_call 17; refine (refName_any _ _).mono ?_; rintro e w2 ⟨hb2, hd⟩
         obtain rfl : e = .returned (.string (nameK k)) := by
           rcases hd with ⟨j, hj, h, rfl⟩ | ⟨h, _⟩
           · obtain rfl : j = k := by omega
             rfl
           · omega)
      | (go_at_call 13; refine (known_any _ ?_).mono ?_; exact (hT.below hb1).below hb2; rintro e w3 ⟨rfl, hb3⟩))
    go_ret
    exact ⟨rfl, (hb1.trans (hb2.mono hb1.size)).trans (hb3.mono (Nat.le_trans hb1.size hb2.size))⟩
end Go.Proofs.YtamilahkdinjkaaDoor
