/-
  The reference's May and Encode at a row of any form.
-/
import Derived.Test.YtamilahkdinjkaaDoorRMay
import Derived.Test.YtamilahkdinjkaaDoorREnc
namespace Go.Proofs.YtamilahkdinjkaaDoor
set_option linter.unusedVariables false
set_option linter.unusedSimpArgs false
open Go.RowKit

theorem rmay_k (i : Inst) (w : World) (k : Nat) (hk : k < 59) (ho : i.op = k + 1) (h0 : 0 ≤ i.imm) (h1 : i.imm < 4294967296) :
    Calls Tryd.prog 14 #[.agg i.val] w fun e w' => e = .returned (.bool (okI k i)) ∧ Below w.heap.size w w' := by
  have h : ∀ f, formK k = f → Calls Tryd.prog 14 #[.agg i.val] w fun e w' => e = .returned (.bool (okF f i)) ∧ Below w.heap.size w w' := by
    intro f hf
    cases f
    · exact rmay_u i w k hk hf ho h0 h1
    · exact rmay_j i w k hk hf ho h0 h1
    · exact rmay_i i w k hk hf ho h0 h1
    · exact rmay_load i w k hk hf ho h0 h1
    · exact rmay_shift i w k hk hf ho h0 h1
    · exact rmay_b i w k hk hf ho h0 h1
    · exact rmay_s i w k hk hf ho h0 h1
    · exact rmay_r i w k hk hf ho h0 h1
    · exact rmay_fence i w k hk hf ho h0 h1
    · exact rmay_all i w k hk hf ho h0 h1
    · exact rmay_lr i w k hk hf ho h0 h1
    · exact rmay_a i w k hk hf ho h0 h1
    · exact rmay_csr i w k hk hf ho h0 h1
  exact h _ rfl
theorem renc_k (i : Inst) (w : World) (k : Nat) (hk : k < 59) (ho : i.op = k + 1) (h0 : 0 ≤ i.imm) (h1 : i.imm < 4294967296) (ok : okI k i = true) :
    Calls Tryd.prog 15 #[.agg i.val] w fun e w' => e = .returned (.int .u32 (encK k i)) ∧ Below w.heap.size w w' := by
  have h : ∀ f, formK k = f → okF f i = true → Calls Tryd.prog 15 #[.agg i.val] w fun e w' => e = .returned (.int .u32 (encF f (bitsK k) i)) ∧ Below w.heap.size w w' := by
    intro f hf ok
    cases f
    · exact renc_u i w k hk hf ho h0 h1 ok
    · exact renc_j i w k hk hf ho h0 h1 ok
    · exact renc_i i w k hk hf ho h0 h1 ok
    · exact renc_load i w k hk hf ho h0 h1 ok
    · exact renc_shift i w k hk hf ho h0 h1 ok
    · exact renc_b i w k hk hf ho h0 h1 ok
    · exact renc_s i w k hk hf ho h0 h1 ok
    · exact renc_r i w k hk hf ho h0 h1 ok
    · exact renc_fence i w k hk hf ho h0 h1 ok
    · exact renc_all i w k hk hf ho h0 h1 ok
    · exact renc_lr i w k hk hf ho h0 h1 ok
    · exact renc_a i w k hk hf ho h0 h1 ok
    · exact renc_csr i w k hk hf ho h0 h1 ok
  exact h _ rfl ok
end Go.Proofs.YtamilahkdinjkaaDoor
