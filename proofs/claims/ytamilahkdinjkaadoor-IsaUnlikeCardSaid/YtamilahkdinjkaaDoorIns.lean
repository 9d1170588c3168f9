/-
  An instruction as a plain record, and its cells.
-/
import Derived.Test.YtamilahkdinjkaaDoorTab
import Derived.WalkKit
namespace Go.Proofs.YtamilahkdinjkaaDoor
set_option linter.unusedVariables false
set_option linter.unusedSimpArgs false
open Go.RowKit

/-- An instruction. -/
structure Inst where
  op : Int
  rd : Int
  rs1 : Int
  rs2 : Int
  imm : Int
  aq : Bool
  rl : Bool
deriving DecidableEq
def Inst.val (i : Inst) : Array Value := #[.int .i64 i.op, .int .i64 i.rd, .int .i64 i.rs1, .int .i64 i.rs2, .int .u32 i.imm, .bool i.aq, .bool i.rl]
def zeroI : Inst := ⟨0, 0, 0, 0, 0, false, false⟩
theorem cells_inst {w : World} {B : Nat} {i : Inst} {t : TypeId} (h : w.heap[B]? = some (.cells i.val t (0, 0))) :
    w.cell? ⟨B, 0, none⟩ = some (.int .i64 i.op) ∧ w.cell? ⟨B, 1, none⟩ = some (.int .i64 i.rd) ∧ w.cell? ⟨B, 2, none⟩ = some (.int .i64 i.rs1) ∧ w.cell? ⟨B, 3, none⟩ = some (.int .i64 i.rs2) ∧
      w.cell? ⟨B, 4, none⟩ = some (.int .u32 i.imm) ∧ w.cell? ⟨B, 5, none⟩ = some (.bool i.aq) ∧ w.cell? ⟨B, 6, none⟩ = some (.bool i.rl) := by
  simp [World.cell?, h, Inst.val]
/-- What the word c is as the Op of row k. -/
def decI (k : Nat) (c : Int) : Inst :=
  ⟨k + 1, if rdZ (formK k) then c / 128 % 32 else 0, if rs1Z (formK k) then c / 32768 % 32 else 0, if rs2Z (formK k) then c / 1048576 % 32 else 0, takeZ (formK k) c,
    aZ (formK k) && (c / 67108864 % 2 == 1), aZ (formK k) && (c / 33554432 % 2 == 1)⟩
/-- Row k's own bits are the word's. -/
def hitK (c : Int) (k : Nat) : Bool := bits .and .u32 c (maskZ (formK k)) == bitsK k

/-- A power of two, behind a name. -/
def pw (n : Int) : Int := 2 ^ n.toNat
/-- May i be, as the Op of row k? -/
def okI (k : Nat) (i : Inst) : Bool := regB i.rd (rdZ (formK k)) && regB i.rs1 (rs1Z (formK k)) && regB i.rs2 (rs2Z (formK k)) && mayZ (formK k) i.imm && (aZ (formK k) || (!i.aq && !i.rl))

def bitZ (b : Bool) (k : Int) : Int := if b then pw k else 0
/-- The word of i, as the code makes it, for row k. -/
def encO (k : Nat) (i : Inst) : Int :=
  bits .or .u32 (bits .or .u32 (bits .or .u32 (bits .or .u32 (bits .or .u32 (bits .or .u32 (bitsK k) (i.rd % 4294967296 * 128 % 4294967296)) (i.rs1 % 4294967296 * 32768 % 4294967296)) (i.rs2 % 4294967296 * 1048576 % 4294967296))
    (putZ (formK k) i.imm)) (bitZ i.aq 26)) (bitZ i.rl 25)

end Go.Proofs.YtamilahkdinjkaaDoor
