/-
  isa.Text: an instruction as a text.
-/
import Derived.Test.YtamilahkdinjkaaDoorTold
import Derived.Test.YtamilahkdinjkaaDoorEncode
import Derived.Test.YtamilahkdinjkaaDoorLawDec
import Derived.BigGuardPart
namespace Go.Proofs.YtamilahkdinjkaaDoor
set_option linter.unusedVariables false
set_option linter.unusedSimpArgs false
open Go.RowKit Go.Shelf Go.Sort Go.Lib
attribute [local go_sem] Oper.semAt_some

def cs : List UInt8 := [44, 32]
def toldL (f : Fm) (i : Inst) : List UInt8 := match f with
  | .u => Lib.join [xL i.rd, Lib.decDigits (i.imm / 4096).toNat] [44, 32]
  | .j => Lib.join [xL i.rd, mL i] [44, 32]
  | .i | .shift => Lib.join [xL i.rd, xL i.rs1, mL i] [44, 32]
  | .load => Lib.join [xL i.rd, mL i ++ [40] ++ xL i.rs1 ++ [41]] [44, 32]
  | .b => Lib.join [xL i.rs1, xL i.rs2, mL i] [44, 32]
  | .s => Lib.join [xL i.rs2, mL i ++ [40] ++ xL i.rs1 ++ [41]] [44, 32]
  | .r => Lib.join [xL i.rd, xL i.rs1, xL i.rs2] [44, 32]
  | .fence => mL i
  | .all => []
  | .lr => Lib.join [xL i.rd, [40] ++ xL i.rs1 ++ [41]] [44, 32]
  | .a => Lib.join [xL i.rd, xL i.rs2, [40] ++ xL i.rs1 ++ [41]] [44, 32]
  | .csr => xL i.rd
def sufL (aq rl : Bool) : List UInt8 := if aq then (if rl then [46, 97, 113, 114, 108] else [46, 97, 113]) else if rl then [46, 114, 108] else []
def nmL (k : Nat) : List UInt8 := (nameK k).data.toList
theorem nameK_bs (k : Nat) : nameK k = bs (nmL k) := rfl
theorem nmL_len (k : Nat) (hk : k < 59) : (nmL k).length ≤ 8 := by
  have h : (List.range 59).all (fun j => decide ((nmL j).length ≤ 8)) = true := by decide +kernel
  exact of_decide_eq_true (List.all_eq_true.1 h k (List.mem_range.2 hk))
def endL (t : List UInt8) : List UInt8 := if t = [] then [] else 32 :: t
def textL (k : Nat) (i : Inst) : List UInt8 := nmL k ++ sufL i.aq i.rl ++ endL (toldL (formK k) i)

set_option maxRecDepth 100000 in
set_option maxHeartbeats 2000000 in
theorem told_all (i : Inst) (w : World) : Calls Tryd.prog 78 #[.agg i.val] w fun e w' => e = .returned (.string (bs [])) ∧ Below w.heap.size w w' := by
  go_enter Tryd.func78, Tryd.ntmps78
  unfold Inst.val
  go_wp2
  go_ret
  exact ⟨rfl, (Below.refl _ _).alloc (Nat.le_refl _) _⟩
set_option maxRecDepth 100000 in
set_option maxHeartbeats 2000000 in
theorem told_csr (i : Inst) (w : World) (r0 : 0 ≤ i.rd ∧ i.rd < 32) : Calls Tryd.prog 79 #[.agg i.val] w fun e w' => e = .returned (.string (bs (xL i.rd))) ∧ Below w.heap.size w w' := by
  obtain ⟨op, rd, rs1, rs2, imm, aq, rl⟩ := i
  simp only at r0
  unfold Inst.val
  go_enter Tryd.func79, Tryd.ntmps79
  go_wp2_with (go_at_call 52; refine (x_any _ _ (by omega) (by omega)).mono ?_; rintro e w' ⟨rfl, rfl⟩)
  go_ret
  exact ⟨rfl, (Below.refl _ _).alloc (Nat.le_refl _) _⟩
theorem told_any (f : Fm) (i : Inst) (w : World) (hP : TabP w) (h0 : 0 ≤ i.imm) (h1 : i.imm < 4294967296) (ok : okF f i = true) :
    Calls Tryd.prog (toldN f) #[.agg i.val] w fun e w' => e = .returned (.string (bs (toldL f i))) ∧ Below w.heap.size w w' := by
  obtain ⟨k1, k2, k3, k4, k5⟩ := (okF_iff f i).1 ok
  have r0 := regB_b k1
  have r1 := regB_b k2
  have r2 := regB_b k3
  cases f
  · exact told_u i w hP h0 h1 r0
  · exact told_j i w hP h0 h1 r0
  · exact told_i i w hP h0 h1 r0 r1
  · exact told_load i w hP h0 h1 r0 r1
  · exact told_i i w hP h0 h1 r0 r1
  · exact told_b i w hP h0 h1 r1 r2
  · exact told_s i w hP h0 h1 r1 r2
  · exact told_r i w hP h0 h1 r0 r1 r2
  · exact imm_any i w hP h0 h1
  · exact told_all i w
  · exact told_lr i w hP h0 h1 r0 r1
  · exact told_a i w hP h0 h1 r0 r1 r2
  · exact told_csr i w r0
theorem toldL_len (f : Fm) (i : Inst) (h0 : 0 ≤ i.imm) (h1 : i.imm < 4294967296) (ok : okF f i = true) : (toldL f i).length ≤ 200 := by
  obtain ⟨k1, k2, k3, k4, k5⟩ := (okF_iff f i).1 ok
  have r0 := regB_b k1
  have r1 := regB_b k2
  have r2 := regB_b k3
  have a0 := xL_len i.rd r0.1 r0.2
  have a1 := xL_len i.rs1 r1.1 r1.2
  have a2 := xL_len i.rs2 r2.1 r2.2
  have am := mL_len i h0 h1
  have au := dec_len (i.imm / 4096).toNat (by omega)
  cases f <;> simp only [toldL, join1, join2, join3, List.length_append, List.length_cons, List.length_nil] <;> omega
theorem enT4 : Enters Tryd.prog 50 := enters_of Tryd.func50 (by kernel_rfl) rfl
theorem enT5 : Enters Tryd.prog 54 := enters_of Tryd.func54 (by kernel_rfl) rfl
theorem enT6 : Enters Tryd.prog 56 := enters_of Tryd.func56 (by kernel_rfl) rfl
theorem enT7 : Enters Tryd.prog 57 := enters_of Tryd.func57 (by kernel_rfl) rfl
theorem enT8 : Enters Tryd.prog 58 := enters_of Tryd.func58 (by kernel_rfl) rfl
theorem enT12 : Enters Tryd.prog 62 := enters_of Tryd.func62 (by kernel_rfl) rfl
theorem enT15 : Enters Tryd.prog 67 := enters_of Tryd.func67 (by kernel_rfl) rfl
theorem enT20 : Enters Tryd.prog 72 := enters_of Tryd.func72 (by kernel_rfl) rfl
theorem enT23 : Enters Tryd.prog 75 := enters_of Tryd.func75 (by kernel_rfl) rfl
theorem enT26 : Enters Tryd.prog 78 := enters_of Tryd.func78 (by kernel_rfl) rfl
theorem enT27 : Enters Tryd.prog 79 := enters_of Tryd.func79 (by kernel_rfl) rfl
theorem enTi : Enters Tryd.prog 53 := enters_of Tryd.func53 (by kernel_rfl) rfl
theorem enTold (f : Fm) : Enters Tryd.prog (toldN f) := by
  cases f
  · exact enT12
  · exact enT15
  · exact enT4
  · exact enT5
  · exact enT4
  · exact enT20
  · exact enT23
  · exact enT6
  · exact enTi
  · exact enT26
  · exact enT8
  · exact enT7
  · exact enT27
end Go.Proofs.YtamilahkdinjkaaDoor
