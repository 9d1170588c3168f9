/-
  law03.known: an instruction that does nothing.
-/
import Derived.Test.YtamilahkdinjkaaDoorEncode
namespace Go.Proofs.YtamilahkdinjkaaDoor
set_option linter.unusedVariables false
set_option linter.unusedSimpArgs false
open Go.RowKit Go.Shelf
attribute [local go_sem] Oper.semAt_some

/-- No row ahead of row k is the word's. -/
def noneB (c : Int) (k : Nat) : Bool := (List.range k).all fun j => !hitK c j
theorem noneB_spec {c : Int} {k : Nat} (h : noneB c k = true) (j : Nat) (hj : j < k) : hitK c j = false := by
  have := List.all_eq_true.1 h j (List.mem_range.2 hj)
  simpa using this

theorem known_hit : hitK 19 18 = true ∧ noneB 19 18 = true := by decide +kernel
theorem known_dec : decI 18 19 = Inst.mk 19 0 0 0 0 false false := by decide +kernel
theorem known_enc : encO 18 (Inst.mk 19 1 0 0 0 false false) = 147 ∧ okI 18 (Inst.mk 19 1 0 0 0 false false) = true := by decide +kernel

set_option maxRecDepth 100000 in
set_option maxHeartbeats 4000000 in
theorem known_any (w : World) (hT : Tab w) :
    Calls Tryd.prog 13 #[] w fun e w' => e = .returned (.bool true) ∧ Below w.heap.size w w' := by
  go_enter Tryd.func13, Tryd.ntmps13
  go_wp2_with (first
    | (go_at_call 10; refine (decode_any 19 _ ?_ (by decide) (by decide)).mono ?_; exact hT; rintro e w1 ⟨hb, hd⟩
       obtain rfl : e = .returned (.tuple #[.agg (Inst.mk 19 0 0 0 0 false false).val, .bool true]) := by
         rcases hd with ⟨k, hk, h1, h2, rfl⟩ | ⟨h1, _⟩
         · have : k = 18 := by
             rcases Nat.lt_trichotomy k 18 with h | h | h
             · have := noneB_spec known_hit.2 k h; rw [h1] at this; cases this
             · exact h
             · have := h2 18 h; rw [known_hit.1] at this; cases this
           subst this; rw [known_dec]
         · have := h1 18 (by decide); rw [known_hit.1] at this; cases this
       unfold Inst.val; simp only [])
    | (go_at_call 12; refine (encode_any (Inst.mk 19 1 0 0 0 false false) _ ?_ (by decide) (by decide)).mono ?_; exact hT.below (hb.alloc hb.size _); rintro e w2 ⟨hb2, hd⟩
       obtain rfl : e = .returned (.tuple #[.int .u32 147, .int .i64 0]) := by
         rcases hd with ⟨k, hk, ho, _, rfl⟩ | ⟨h1, _⟩
         · have : k = 18 := by have ho' : (19 : Int) = k + 1 := ho; omega
           subst this; rw [known_enc.1]
         · have := h1 18 (by decide) rfl; rw [known_enc.2] at this; cases this
       have c2 : w2.heap[w1.heap.size]? = some (.cells (Inst.mk 19 0 0 0 0 false false).val 25 (0, 0)) := (hb2.block _ (by simp)).trans (World.alloc_heap_new w1 _)
       obtain ⟨q0, q1, q2, q3, q4, q5, q6⟩ := cells_inst c2
       simp only at q0 q1 q2 q3 q4 q5 q6))
  go_ret
  exact ⟨rfl, (hb.alloc hb.size _).trans (hb2.mono (by have := hb.size; simp; omega))⟩
end Go.Proofs.YtamilahkdinjkaaDoor
