/-
  The reference's Form at a row of a known form.
-/
import Derived.Test.YtamilahkdinjkaaDoorRef2
import Derived.Test.YtamilahkdinjkaaDoorIns
import Derived.Test.YtamilahkdinjkaaDoorPureW
import Derived.Lib.Hide
namespace Go.Proofs.YtamilahkdinjkaaDoor
set_option linter.unusedVariables false
set_option linter.unusedSimpArgs false
open Go.RowKit

theorem form_f (k : Nat) (c : Int) (f : Fm) (hk : k < 59) (hf : formK k = f) (hc : chF f = c) (w : World) : Calls Tryd.prog 22 #[.int .i64 ((k : Int) + 1)] w fun e w' => e = .returned (.int .u8 c) ∧ w = w' := by
  subst hf hc
  exact form_k k w hk
end Go.Proofs.YtamilahkdinjkaaDoor
