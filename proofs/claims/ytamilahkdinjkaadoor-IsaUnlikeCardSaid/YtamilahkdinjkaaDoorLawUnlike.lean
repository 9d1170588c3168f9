/-
  law03.IsaUnlike, as a call.
-/
import Derived.Test.YtamilahkdinjkaaDoorLawText
import Derived.Test.YtamilahkdinjkaaDoorPureT
namespace Go.Proofs.YtamilahkdinjkaaDoor
set_option linter.unusedVariables false
set_option linter.unusedSimpArgs false
open Go.RowKit Go.Shelf Go.Sort Go.Lib
attribute [local go_sem] Oper.semAt_some

set_option maxRecDepth 100000 in
set_option maxHeartbeats 8000000 in
theorem unl_nn (op rd rs1 rs2 imm : Int) (aq rl : Bool) (op' rd' rs1' rs2' imm' : Int) (aq' rl' : Bool) (va : Int) (ta : ByteArray) (vb : Int) (tb : ByteArray) (w : World) (hT : Tab w) (hP : TabP w)
    (EA : ∀ W, Tab W → Calls Tryd.prog 12 #[.agg (Inst.mk op rd rs1 rs2 imm aq rl).val] W fun e w' => e = .returned (.tuple #[.int .u32 va, .int .i64 2]) ∧ Below W.heap.size W w')
    (TA : ∀ W, Tab W → TabP W → Calls Tryd.prog 18 #[.agg (Inst.mk op rd rs1 rs2 imm aq rl).val] W fun e w' => e = .returned (.tuple #[.string ta, .int .i64 2]) ∧ Below W.heap.size W w')
    (EB : ∀ W, Tab W → Calls Tryd.prog 12 #[.agg (Inst.mk op' rd' rs1' rs2' imm' aq' rl').val] W fun e w' => e = .returned (.tuple #[.int .u32 vb, .int .i64 2]) ∧ Below W.heap.size W w')
    (TB : ∀ W, Tab W → TabP W → Calls Tryd.prog 18 #[.agg (Inst.mk op' rd' rs1' rs2' imm' aq' rl').val] W fun e w' => e = .returned (.tuple #[.string tb, .int .i64 2]) ∧ Below W.heap.size W w') :
    Calls Tryd.prog 9 #[.agg (Inst.mk op rd rs1 rs2 imm aq rl).val, .agg (Inst.mk op' rd' rs1' rs2' imm' aq' rl').val] w fun e w' => e = .returned (.bool true) ∧ Below w.heap.size w w' := by
  replace EA := Lib.hid EA
  replace TA := Lib.hid TA
  replace EB := Lib.hid EB
  replace TB := Lib.hid TB
  have HT := Lib.hid hT
  have HP := Lib.hid hP
  clear hT hP
  have a0 : ((w.alloc (.cells (Inst.mk op rd rs1 rs2 imm aq rl).val 25)).alloc (.cells (Inst.mk op' rd' rs1' rs2' imm' aq' rl').val 25)).heap[w.heap.size]? = some (.cells (Inst.mk op rd rs1 rs2 imm aq rl).val 25 (0, 0)) := (Below.heap_alloc _ _ _ (by rw [World.size_alloc]; omega)).trans (World.alloc_heap_new w _)
  have c0 : ((w.alloc (.cells (Inst.mk op rd rs1 rs2 imm aq rl).val 25)).alloc (.cells (Inst.mk op' rd' rs1' rs2' imm' aq' rl').val 25)).heap[w.heap.size + 1]? = some (.cells (Inst.mk op' rd' rs1' rs2' imm' aq' rl').val 25 (0, 0)) := by
    rw [← World.size_alloc w (.cells (Inst.mk op rd rs1 rs2 imm aq rl).val 25)]; exact World.alloc_heap_new _ _
  have b0 : Below w.heap.size w ((w.alloc (.cells (Inst.mk op rd rs1 rs2 imm aq rl).val 25)).alloc (.cells (Inst.mk op' rd' rs1' rs2' imm' aq' rl').val 25)) := by
    have h := (Below.refl w.heap.size w).alloc (Nat.le_refl _) (.cells (Inst.mk op rd rs1 rs2 imm aq rl).val 25)
    exact h.alloc h.size _
  have z0 : w.heap.size + 1 < ((w.alloc (.cells (Inst.mk op rd rs1 rs2 imm aq rl).val 25)).alloc (.cells (Inst.mk op' rd' rs1' rs2' imm' aq' rl').val 25)).heap.size := by
    rw [World.size_alloc, World.size_alloc]; omega
  unfold Inst.val at a0 c0 b0 z0 ⊢
  go_enter Tryd.func9, Tryd.ntmps9
  go_upto_region 1 with fail
  generalize World.alloc (World.alloc w _) _ = W0 at *
  have A0 := Lib.hid a0
  have C0 := Lib.hid c0
  have B0 := Lib.hid b0
  have Z0 := Lib.hid z0
  obtain ⟨p0, p1, p2, p3, p4, p5, p6⟩ := cells_inst (i := Inst.mk op rd rs1 rs2 imm aq rl) a0
  obtain ⟨q0, q1, q2, q3, q4, q5, q6⟩ := cells_inst (i := Inst.mk op' rd' rs1' rs2' imm' aq' rl') c0
  simp only at p0 p1 p2 p3 p4 p5 p6 q0 q1 q2 q3 q4 q5 q6
  clear a0 c0 b0 z0
  go_upto_region 2 with (go_at_call 12; refine (EA.out _ (HT.out.below B0.out)).mono ?_; rintro e W1 ⟨rfl, hb⟩)
  have A1 := Lib.hid ((hb.block _ (Nat.lt_trans (Nat.lt_succ_self _) Z0.out)).trans A0.out)
  have C1 := Lib.hid ((hb.block _ Z0.out).trans C0.out)
  have B1 := Lib.hid (B0.out.trans (hb.mono B0.out.size))
  have Z1 := Lib.hid (Nat.lt_of_lt_of_le Z0.out hb.size)
  clear p0 p1 p2 p3 p4 p5 p6 q0 q1 q2 q3 q4 q5 q6 hb
  obtain ⟨p0, p1, p2, p3, p4, p5, p6⟩ := cells_inst (i := Inst.mk op rd rs1 rs2 imm aq rl) A1.out
  obtain ⟨q0, q1, q2, q3, q4, q5, q6⟩ := cells_inst (i := Inst.mk op' rd' rs1' rs2' imm' aq' rl') C1.out
  simp only at p0 p1 p2 p3 p4 p5 p6 q0 q1 q2 q3 q4 q5 q6
  go_upto_region 3 with (go_at_call 12; refine (EB.out _ (HT.out.below B1.out)).mono ?_; rintro e W2 ⟨rfl, hb⟩)
  have A2 := Lib.hid ((hb.block _ (Nat.lt_trans (Nat.lt_succ_self _) Z1.out)).trans A1.out)
  have C2 := Lib.hid ((hb.block _ Z1.out).trans C1.out)
  have B2 := Lib.hid (B1.out.trans (hb.mono B1.out.size))
  have Z2 := Lib.hid (Nat.lt_of_lt_of_le Z1.out hb.size)
  clear p0 p1 p2 p3 p4 p5 p6 q0 q1 q2 q3 q4 q5 q6 hb
  obtain ⟨p0, p1, p2, p3, p4, p5, p6⟩ := cells_inst (i := Inst.mk op rd rs1 rs2 imm aq rl) A2.out
  obtain ⟨q0, q1, q2, q3, q4, q5, q6⟩ := cells_inst (i := Inst.mk op' rd' rs1' rs2' imm' aq' rl') C2.out
  simp only at p0 p1 p2 p3 p4 p5 p6 q0 q1 q2 q3 q4 q5 q6
  go_upto_region 4 with (go_at_call 18; refine (TA.out _ (HT.out.below B2.out) (HP.out.below B2.out)).mono ?_; rintro e W3 ⟨rfl, hb⟩)
  have A3 := Lib.hid ((hb.block _ (Nat.lt_trans (Nat.lt_succ_self _) Z2.out)).trans A2.out)
  have C3 := Lib.hid ((hb.block _ Z2.out).trans C2.out)
  have B3 := Lib.hid (B2.out.trans (hb.mono B2.out.size))
  have Z3 := Lib.hid (Nat.lt_of_lt_of_le Z2.out hb.size)
  clear p0 p1 p2 p3 p4 p5 p6 q0 q1 q2 q3 q4 q5 q6 hb
  obtain ⟨p0, p1, p2, p3, p4, p5, p6⟩ := cells_inst (i := Inst.mk op rd rs1 rs2 imm aq rl) A3.out
  obtain ⟨q0, q1, q2, q3, q4, q5, q6⟩ := cells_inst (i := Inst.mk op' rd' rs1' rs2' imm' aq' rl') C3.out
  simp only at p0 p1 p2 p3 p4 p5 p6 q0 q1 q2 q3 q4 q5 q6
  go_upto_region 5 with (go_at_call 18; refine (TB.out _ (HT.out.below B3.out) (HP.out.below B3.out)).mono ?_; rintro e W4 ⟨rfl, hb⟩)
  have A4 := Lib.hid ((hb.block _ (Nat.lt_trans (Nat.lt_succ_self _) Z3.out)).trans A3.out)
  have C4 := Lib.hid ((hb.block _ Z3.out).trans C3.out)
  have B4 := Lib.hid (B3.out.trans (hb.mono B3.out.size))
  have Z4 := Lib.hid (Nat.lt_of_lt_of_le Z3.out hb.size)
  clear p0 p1 p2 p3 p4 p5 p6 q0 q1 q2 q3 q4 q5 q6 hb
  obtain ⟨p0, p1, p2, p3, p4, p5, p6⟩ := cells_inst (i := Inst.mk op rd rs1 rs2 imm aq rl) A4.out
  obtain ⟨q0, q1, q2, q3, q4, q5, q6⟩ := cells_inst (i := Inst.mk op' rd' rs1' rs2' imm' aq' rl') C4.out
  simp only at p0 p1 p2 p3 p4 p5 p6 q0 q1 q2 q3 q4 q5 q6
  go_wp2_with (go_at_call 13; refine (known_any _ (HT.out.below B4.out)).mono ?_; rintro e W5 ⟨rfl, hb5⟩)
  go_ret
  exact ⟨rfl, B4.out.trans (hb5.mono B4.out.size)⟩

set_option maxRecDepth 100000 in
set_option maxHeartbeats 8000000 in
theorem unl_ny (op rd rs1 rs2 imm : Int) (aq rl : Bool) (op' rd' rs1' rs2' imm' : Int) (aq' rl' : Bool) (va : Int) (ta : ByteArray) (vb : Int) (tb : ByteArray) (w : World) (hT : Tab w) (hP : TabP w)
    (EA : ∀ W, Tab W → Calls Tryd.prog 12 #[.agg (Inst.mk op rd rs1 rs2 imm aq rl).val] W fun e w' => e = .returned (.tuple #[.int .u32 va, .int .i64 2]) ∧ Below W.heap.size W w')
    (TA : ∀ W, Tab W → TabP W → Calls Tryd.prog 18 #[.agg (Inst.mk op rd rs1 rs2 imm aq rl).val] W fun e w' => e = .returned (.tuple #[.string ta, .int .i64 2]) ∧ Below W.heap.size W w')
    (EB : ∀ W, Tab W → Calls Tryd.prog 12 #[.agg (Inst.mk op' rd' rs1' rs2' imm' aq' rl').val] W fun e w' => e = .returned (.tuple #[.int .u32 vb, .int .i64 0]) ∧ Below W.heap.size W w')
    (TB : ∀ W, Tab W → TabP W → Calls Tryd.prog 18 #[.agg (Inst.mk op' rd' rs1' rs2' imm' aq' rl').val] W fun e w' => e = .returned (.tuple #[.string tb, .int .i64 0]) ∧ Below W.heap.size W w') :
    Calls Tryd.prog 9 #[.agg (Inst.mk op rd rs1 rs2 imm aq rl).val, .agg (Inst.mk op' rd' rs1' rs2' imm' aq' rl').val] w fun e w' => e = .returned (.bool true) ∧ Below w.heap.size w w' := by
  replace EA := Lib.hid EA
  replace TA := Lib.hid TA
  replace EB := Lib.hid EB
  replace TB := Lib.hid TB
  have HT := Lib.hid hT
  have HP := Lib.hid hP
  clear hT hP
  have a0 : ((w.alloc (.cells (Inst.mk op rd rs1 rs2 imm aq rl).val 25)).alloc (.cells (Inst.mk op' rd' rs1' rs2' imm' aq' rl').val 25)).heap[w.heap.size]? = some (.cells (Inst.mk op rd rs1 rs2 imm aq rl).val 25 (0, 0)) := (Below.heap_alloc _ _ _ (by rw [World.size_alloc]; omega)).trans (World.alloc_heap_new w _)
  have c0 : ((w.alloc (.cells (Inst.mk op rd rs1 rs2 imm aq rl).val 25)).alloc (.cells (Inst.mk op' rd' rs1' rs2' imm' aq' rl').val 25)).heap[w.heap.size + 1]? = some (.cells (Inst.mk op' rd' rs1' rs2' imm' aq' rl').val 25 (0, 0)) := by
    rw [← World.size_alloc w (.cells (Inst.mk op rd rs1 rs2 imm aq rl).val 25)]; exact World.alloc_heap_new _ _
  have b0 : Below w.heap.size w ((w.alloc (.cells (Inst.mk op rd rs1 rs2 imm aq rl).val 25)).alloc (.cells (Inst.mk op' rd' rs1' rs2' imm' aq' rl').val 25)) := by
    have h := (Below.refl w.heap.size w).alloc (Nat.le_refl _) (.cells (Inst.mk op rd rs1 rs2 imm aq rl).val 25)
    exact h.alloc h.size _
  have z0 : w.heap.size + 1 < ((w.alloc (.cells (Inst.mk op rd rs1 rs2 imm aq rl).val 25)).alloc (.cells (Inst.mk op' rd' rs1' rs2' imm' aq' rl').val 25)).heap.size := by
    rw [World.size_alloc, World.size_alloc]; omega
  unfold Inst.val at a0 c0 b0 z0 ⊢
  go_enter Tryd.func9, Tryd.ntmps9
  go_upto_region 1 with fail
  generalize World.alloc (World.alloc w _) _ = W0 at *
  have A0 := Lib.hid a0
  have C0 := Lib.hid c0
  have B0 := Lib.hid b0
  have Z0 := Lib.hid z0
  obtain ⟨p0, p1, p2, p3, p4, p5, p6⟩ := cells_inst (i := Inst.mk op rd rs1 rs2 imm aq rl) a0
  obtain ⟨q0, q1, q2, q3, q4, q5, q6⟩ := cells_inst (i := Inst.mk op' rd' rs1' rs2' imm' aq' rl') c0
  simp only at p0 p1 p2 p3 p4 p5 p6 q0 q1 q2 q3 q4 q5 q6
  clear a0 c0 b0 z0
  go_upto_region 2 with (go_at_call 12; refine (EA.out _ (HT.out.below B0.out)).mono ?_; rintro e W1 ⟨rfl, hb⟩)
  have A1 := Lib.hid ((hb.block _ (Nat.lt_trans (Nat.lt_succ_self _) Z0.out)).trans A0.out)
  have C1 := Lib.hid ((hb.block _ Z0.out).trans C0.out)
  have B1 := Lib.hid (B0.out.trans (hb.mono B0.out.size))
  have Z1 := Lib.hid (Nat.lt_of_lt_of_le Z0.out hb.size)
  clear p0 p1 p2 p3 p4 p5 p6 q0 q1 q2 q3 q4 q5 q6 hb
  obtain ⟨p0, p1, p2, p3, p4, p5, p6⟩ := cells_inst (i := Inst.mk op rd rs1 rs2 imm aq rl) A1.out
  obtain ⟨q0, q1, q2, q3, q4, q5, q6⟩ := cells_inst (i := Inst.mk op' rd' rs1' rs2' imm' aq' rl') C1.out
  simp only at p0 p1 p2 p3 p4 p5 p6 q0 q1 q2 q3 q4 q5 q6
  go_upto_region 3 with (go_at_call 12; refine (EB.out _ (HT.out.below B1.out)).mono ?_; rintro e W2 ⟨rfl, hb⟩)
  have A2 := Lib.hid ((hb.block _ (Nat.lt_trans (Nat.lt_succ_self _) Z1.out)).trans A1.out)
  have C2 := Lib.hid ((hb.block _ Z1.out).trans C1.out)
  have B2 := Lib.hid (B1.out.trans (hb.mono B1.out.size))
  have Z2 := Lib.hid (Nat.lt_of_lt_of_le Z1.out hb.size)
  clear p0 p1 p2 p3 p4 p5 p6 q0 q1 q2 q3 q4 q5 q6 hb
  obtain ⟨p0, p1, p2, p3, p4, p5, p6⟩ := cells_inst (i := Inst.mk op rd rs1 rs2 imm aq rl) A2.out
  obtain ⟨q0, q1, q2, q3, q4, q5, q6⟩ := cells_inst (i := Inst.mk op' rd' rs1' rs2' imm' aq' rl') C2.out
  simp only at p0 p1 p2 p3 p4 p5 p6 q0 q1 q2 q3 q4 q5 q6
  go_upto_region 4 with (go_at_call 18; refine (TA.out _ (HT.out.below B2.out) (HP.out.below B2.out)).mono ?_; rintro e W3 ⟨rfl, hb⟩)
  have A3 := Lib.hid ((hb.block _ (Nat.lt_trans (Nat.lt_succ_self _) Z2.out)).trans A2.out)
  have C3 := Lib.hid ((hb.block _ Z2.out).trans C2.out)
  have B3 := Lib.hid (B2.out.trans (hb.mono B2.out.size))
  have Z3 := Lib.hid (Nat.lt_of_lt_of_le Z2.out hb.size)
  clear p0 p1 p2 p3 p4 p5 p6 q0 q1 q2 q3 q4 q5 q6 hb
  obtain ⟨p0, p1, p2, p3, p4, p5, p6⟩ := cells_inst (i := Inst.mk op rd rs1 rs2 imm aq rl) A3.out
  obtain ⟨q0, q1, q2, q3, q4, q5, q6⟩ := cells_inst (i := Inst.mk op' rd' rs1' rs2' imm' aq' rl') C3.out
  simp only at p0 p1 p2 p3 p4 p5 p6 q0 q1 q2 q3 q4 q5 q6
  go_upto_region 5 with (go_at_call 18; refine (TB.out _ (HT.out.below B3.out) (HP.out.below B3.out)).mono ?_; rintro e W4 ⟨rfl, hb⟩)
  have A4 := Lib.hid ((hb.block _ (Nat.lt_trans (Nat.lt_succ_self _) Z3.out)).trans A3.out)
  have C4 := Lib.hid ((hb.block _ Z3.out).trans C3.out)
  have B4 := Lib.hid (B3.out.trans (hb.mono B3.out.size))
  have Z4 := Lib.hid (Nat.lt_of_lt_of_le Z3.out hb.size)
  clear p0 p1 p2 p3 p4 p5 p6 q0 q1 q2 q3 q4 q5 q6 hb
  obtain ⟨p0, p1, p2, p3, p4, p5, p6⟩ := cells_inst (i := Inst.mk op rd rs1 rs2 imm aq rl) A4.out
  obtain ⟨q0, q1, q2, q3, q4, q5, q6⟩ := cells_inst (i := Inst.mk op' rd' rs1' rs2' imm' aq' rl') C4.out
  simp only at p0 p1 p2 p3 p4 p5 p6 q0 q1 q2 q3 q4 q5 q6
  go_wp2_with (go_at_call 13; refine (known_any _ (HT.out.below B4.out)).mono ?_; rintro e W5 ⟨rfl, hb5⟩)
  go_ret
  exact ⟨rfl, B4.out.trans (hb5.mono B4.out.size)⟩

set_option maxRecDepth 100000 in
set_option maxHeartbeats 8000000 in
theorem unl_yn (op rd rs1 rs2 imm : Int) (aq rl : Bool) (op' rd' rs1' rs2' imm' : Int) (aq' rl' : Bool) (va : Int) (ta : ByteArray) (vb : Int) (tb : ByteArray) (w : World) (hT : Tab w) (hP : TabP w)
    (EA : ∀ W, Tab W → Calls Tryd.prog 12 #[.agg (Inst.mk op rd rs1 rs2 imm aq rl).val] W fun e w' => e = .returned (.tuple #[.int .u32 va, .int .i64 0]) ∧ Below W.heap.size W w')
    (TA : ∀ W, Tab W → TabP W → Calls Tryd.prog 18 #[.agg (Inst.mk op rd rs1 rs2 imm aq rl).val] W fun e w' => e = .returned (.tuple #[.string ta, .int .i64 0]) ∧ Below W.heap.size W w')
    (EB : ∀ W, Tab W → Calls Tryd.prog 12 #[.agg (Inst.mk op' rd' rs1' rs2' imm' aq' rl').val] W fun e w' => e = .returned (.tuple #[.int .u32 vb, .int .i64 2]) ∧ Below W.heap.size W w')
    (TB : ∀ W, Tab W → TabP W → Calls Tryd.prog 18 #[.agg (Inst.mk op' rd' rs1' rs2' imm' aq' rl').val] W fun e w' => e = .returned (.tuple #[.string tb, .int .i64 2]) ∧ Below W.heap.size W w') :
    Calls Tryd.prog 9 #[.agg (Inst.mk op rd rs1 rs2 imm aq rl).val, .agg (Inst.mk op' rd' rs1' rs2' imm' aq' rl').val] w fun e w' => e = .returned (.bool true) ∧ Below w.heap.size w w' := by
  replace EA := Lib.hid EA
  replace TA := Lib.hid TA
  replace EB := Lib.hid EB
  replace TB := Lib.hid TB
  have HT := Lib.hid hT
  have HP := Lib.hid hP
  clear hT hP
  have a0 : ((w.alloc (.cells (Inst.mk op rd rs1 rs2 imm aq rl).val 25)).alloc (.cells (Inst.mk op' rd' rs1' rs2' imm' aq' rl').val 25)).heap[w.heap.size]? = some (.cells (Inst.mk op rd rs1 rs2 imm aq rl).val 25 (0, 0)) := (Below.heap_alloc _ _ _ (by rw [World.size_alloc]; omega)).trans (World.alloc_heap_new w _)
  have c0 : ((w.alloc (.cells (Inst.mk op rd rs1 rs2 imm aq rl).val 25)).alloc (.cells (Inst.mk op' rd' rs1' rs2' imm' aq' rl').val 25)).heap[w.heap.size + 1]? = some (.cells (Inst.mk op' rd' rs1' rs2' imm' aq' rl').val 25 (0, 0)) := by
    rw [← World.size_alloc w (.cells (Inst.mk op rd rs1 rs2 imm aq rl).val 25)]; exact World.alloc_heap_new _ _
  have b0 : Below w.heap.size w ((w.alloc (.cells (Inst.mk op rd rs1 rs2 imm aq rl).val 25)).alloc (.cells (Inst.mk op' rd' rs1' rs2' imm' aq' rl').val 25)) := by
    have h := (Below.refl w.heap.size w).alloc (Nat.le_refl _) (.cells (Inst.mk op rd rs1 rs2 imm aq rl).val 25)
    exact h.alloc h.size _
  have z0 : w.heap.size + 1 < ((w.alloc (.cells (Inst.mk op rd rs1 rs2 imm aq rl).val 25)).alloc (.cells (Inst.mk op' rd' rs1' rs2' imm' aq' rl').val 25)).heap.size := by
    rw [World.size_alloc, World.size_alloc]; omega
  unfold Inst.val at a0 c0 b0 z0 ⊢
  go_enter Tryd.func9, Tryd.ntmps9
  go_upto_region 1 with fail
  generalize World.alloc (World.alloc w _) _ = W0 at *
  have A0 := Lib.hid a0
  have C0 := Lib.hid c0
  have B0 := Lib.hid b0
  have Z0 := Lib.hid z0
  obtain ⟨p0, p1, p2, p3, p4, p5, p6⟩ := cells_inst (i := Inst.mk op rd rs1 rs2 imm aq rl) a0
  obtain ⟨q0, q1, q2, q3, q4, q5, q6⟩ := cells_inst (i := Inst.mk op' rd' rs1' rs2' imm' aq' rl') c0
  simp only at p0 p1 p2 p3 p4 p5 p6 q0 q1 q2 q3 q4 q5 q6
  clear a0 c0 b0 z0
  go_upto_region 2 with (go_at_call 12; refine (EA.out _ (HT.out.below B0.out)).mono ?_; rintro e W1 ⟨rfl, hb⟩)
  have A1 := Lib.hid ((hb.block _ (Nat.lt_trans (Nat.lt_succ_self _) Z0.out)).trans A0.out)
  have C1 := Lib.hid ((hb.block _ Z0.out).trans C0.out)
  have B1 := Lib.hid (B0.out.trans (hb.mono B0.out.size))
  have Z1 := Lib.hid (Nat.lt_of_lt_of_le Z0.out hb.size)
  clear p0 p1 p2 p3 p4 p5 p6 q0 q1 q2 q3 q4 q5 q6 hb
  obtain ⟨p0, p1, p2, p3, p4, p5, p6⟩ := cells_inst (i := Inst.mk op rd rs1 rs2 imm aq rl) A1.out
  obtain ⟨q0, q1, q2, q3, q4, q5, q6⟩ := cells_inst (i := Inst.mk op' rd' rs1' rs2' imm' aq' rl') C1.out
  simp only at p0 p1 p2 p3 p4 p5 p6 q0 q1 q2 q3 q4 q5 q6
  go_upto_region 3 with (go_at_call 12; refine (EB.out _ (HT.out.below B1.out)).mono ?_; rintro e W2 ⟨rfl, hb⟩)
  have A2 := Lib.hid ((hb.block _ (Nat.lt_trans (Nat.lt_succ_self _) Z1.out)).trans A1.out)
  have C2 := Lib.hid ((hb.block _ Z1.out).trans C1.out)
  have B2 := Lib.hid (B1.out.trans (hb.mono B1.out.size))
  have Z2 := Lib.hid (Nat.lt_of_lt_of_le Z1.out hb.size)
  clear p0 p1 p2 p3 p4 p5 p6 q0 q1 q2 q3 q4 q5 q6 hb
  obtain ⟨p0, p1, p2, p3, p4, p5, p6⟩ := cells_inst (i := Inst.mk op rd rs1 rs2 imm aq rl) A2.out
  obtain ⟨q0, q1, q2, q3, q4, q5, q6⟩ := cells_inst (i := Inst.mk op' rd' rs1' rs2' imm' aq' rl') C2.out
  simp only at p0 p1 p2 p3 p4 p5 p6 q0 q1 q2 q3 q4 q5 q6
  go_upto_region 4 with (go_at_call 18; refine (TA.out _ (HT.out.below B2.out) (HP.out.below B2.out)).mono ?_; rintro e W3 ⟨rfl, hb⟩)
  have A3 := Lib.hid ((hb.block _ (Nat.lt_trans (Nat.lt_succ_self _) Z2.out)).trans A2.out)
  have C3 := Lib.hid ((hb.block _ Z2.out).trans C2.out)
  have B3 := Lib.hid (B2.out.trans (hb.mono B2.out.size))
  have Z3 := Lib.hid (Nat.lt_of_lt_of_le Z2.out hb.size)
  clear p0 p1 p2 p3 p4 p5 p6 q0 q1 q2 q3 q4 q5 q6 hb
  obtain ⟨p0, p1, p2, p3, p4, p5, p6⟩ := cells_inst (i := Inst.mk op rd rs1 rs2 imm aq rl) A3.out
  obtain ⟨q0, q1, q2, q3, q4, q5, q6⟩ := cells_inst (i := Inst.mk op' rd' rs1' rs2' imm' aq' rl') C3.out
  simp only at p0 p1 p2 p3 p4 p5 p6 q0 q1 q2 q3 q4 q5 q6
  go_upto_region 5 with (go_at_call 18; refine (TB.out _ (HT.out.below B3.out) (HP.out.below B3.out)).mono ?_; rintro e W4 ⟨rfl, hb⟩)
  have A4 := Lib.hid ((hb.block _ (Nat.lt_trans (Nat.lt_succ_self _) Z3.out)).trans A3.out)
  have C4 := Lib.hid ((hb.block _ Z3.out).trans C3.out)
  have B4 := Lib.hid (B3.out.trans (hb.mono B3.out.size))
  have Z4 := Lib.hid (Nat.lt_of_lt_of_le Z3.out hb.size)
  clear p0 p1 p2 p3 p4 p5 p6 q0 q1 q2 q3 q4 q5 q6 hb
  obtain ⟨p0, p1, p2, p3, p4, p5, p6⟩ := cells_inst (i := Inst.mk op rd rs1 rs2 imm aq rl) A4.out
  obtain ⟨q0, q1, q2, q3, q4, q5, q6⟩ := cells_inst (i := Inst.mk op' rd' rs1' rs2' imm' aq' rl') C4.out
  simp only at p0 p1 p2 p3 p4 p5 p6 q0 q1 q2 q3 q4 q5 q6
  go_wp2_with (go_at_call 13; refine (known_any _ (HT.out.below B4.out)).mono ?_; rintro e W5 ⟨rfl, hb5⟩)
  go_ret
  exact ⟨rfl, B4.out.trans (hb5.mono B4.out.size)⟩

set_option maxRecDepth 100000 in
set_option maxHeartbeats 8000000 in
theorem unl_eq (op rd rs1 rs2 imm : Int) (aq rl : Bool) (va : Int) (ta : ByteArray) (w : World) (hT : Tab w) (hP : TabP w)
    (EA : ∀ W, Tab W → Calls Tryd.prog 12 #[.agg (Inst.mk op rd rs1 rs2 imm aq rl).val] W fun e w' => e = .returned (.tuple #[.int .u32 va, .int .i64 0]) ∧ Below W.heap.size W w')
    (TA : ∀ W, Tab W → TabP W → Calls Tryd.prog 18 #[.agg (Inst.mk op rd rs1 rs2 imm aq rl).val] W fun e w' => e = .returned (.tuple #[.string ta, .int .i64 0]) ∧ Below W.heap.size W w') :
    Calls Tryd.prog 9 #[.agg (Inst.mk op rd rs1 rs2 imm aq rl).val, .agg (Inst.mk op rd rs1 rs2 imm aq rl).val] w fun e w' => e = .returned (.bool true) ∧ Below w.heap.size w w' := by
  replace EA := Lib.hid EA
  replace TA := Lib.hid TA
  have EB := EA
  have TB := TA
  have HT := Lib.hid hT
  have HP := Lib.hid hP
  clear hT hP
  have a0 : ((w.alloc (.cells (Inst.mk op rd rs1 rs2 imm aq rl).val 25)).alloc (.cells (Inst.mk op rd rs1 rs2 imm aq rl).val 25)).heap[w.heap.size]? = some (.cells (Inst.mk op rd rs1 rs2 imm aq rl).val 25 (0, 0)) := (Below.heap_alloc _ _ _ (by rw [World.size_alloc]; omega)).trans (World.alloc_heap_new w _)
  have c0 : ((w.alloc (.cells (Inst.mk op rd rs1 rs2 imm aq rl).val 25)).alloc (.cells (Inst.mk op rd rs1 rs2 imm aq rl).val 25)).heap[w.heap.size + 1]? = some (.cells (Inst.mk op rd rs1 rs2 imm aq rl).val 25 (0, 0)) := by
    rw [← World.size_alloc w (.cells (Inst.mk op rd rs1 rs2 imm aq rl).val 25)]; exact World.alloc_heap_new _ _
  have b0 : Below w.heap.size w ((w.alloc (.cells (Inst.mk op rd rs1 rs2 imm aq rl).val 25)).alloc (.cells (Inst.mk op rd rs1 rs2 imm aq rl).val 25)) := by
    have h := (Below.refl w.heap.size w).alloc (Nat.le_refl _) (.cells (Inst.mk op rd rs1 rs2 imm aq rl).val 25)
    exact h.alloc h.size _
  have z0 : w.heap.size + 1 < ((w.alloc (.cells (Inst.mk op rd rs1 rs2 imm aq rl).val 25)).alloc (.cells (Inst.mk op rd rs1 rs2 imm aq rl).val 25)).heap.size := by
    rw [World.size_alloc, World.size_alloc]; omega
  unfold Inst.val at a0 c0 b0 z0 ⊢
  go_enter Tryd.func9, Tryd.ntmps9
  go_upto_region 1 with fail
  generalize World.alloc (World.alloc w _) _ = W0 at *
  have A0 := Lib.hid a0
  have C0 := Lib.hid c0
  have B0 := Lib.hid b0
  have Z0 := Lib.hid z0
  obtain ⟨p0, p1, p2, p3, p4, p5, p6⟩ := cells_inst (i := Inst.mk op rd rs1 rs2 imm aq rl) a0
  obtain ⟨q0, q1, q2, q3, q4, q5, q6⟩ := cells_inst (i := Inst.mk op rd rs1 rs2 imm aq rl) c0
  simp only at p0 p1 p2 p3 p4 p5 p6 q0 q1 q2 q3 q4 q5 q6
  clear a0 c0 b0 z0
  go_upto_region 2 with (go_at_call 12; refine (EA.out _ (HT.out.below B0.out)).mono ?_; rintro e W1 ⟨rfl, hb⟩)
  have A1 := Lib.hid ((hb.block _ (Nat.lt_trans (Nat.lt_succ_self _) Z0.out)).trans A0.out)
  have C1 := Lib.hid ((hb.block _ Z0.out).trans C0.out)
  have B1 := Lib.hid (B0.out.trans (hb.mono B0.out.size))
  have Z1 := Lib.hid (Nat.lt_of_lt_of_le Z0.out hb.size)
  clear p0 p1 p2 p3 p4 p5 p6 q0 q1 q2 q3 q4 q5 q6 hb
  obtain ⟨p0, p1, p2, p3, p4, p5, p6⟩ := cells_inst (i := Inst.mk op rd rs1 rs2 imm aq rl) A1.out
  obtain ⟨q0, q1, q2, q3, q4, q5, q6⟩ := cells_inst (i := Inst.mk op rd rs1 rs2 imm aq rl) C1.out
  simp only at p0 p1 p2 p3 p4 p5 p6 q0 q1 q2 q3 q4 q5 q6
  go_upto_region 3 with (go_at_call 12; refine (EB.out _ (HT.out.below B1.out)).mono ?_; rintro e W2 ⟨rfl, hb⟩)
  have A2 := Lib.hid ((hb.block _ (Nat.lt_trans (Nat.lt_succ_self _) Z1.out)).trans A1.out)
  have C2 := Lib.hid ((hb.block _ Z1.out).trans C1.out)
  have B2 := Lib.hid (B1.out.trans (hb.mono B1.out.size))
  have Z2 := Lib.hid (Nat.lt_of_lt_of_le Z1.out hb.size)
  clear p0 p1 p2 p3 p4 p5 p6 q0 q1 q2 q3 q4 q5 q6 hb
  obtain ⟨p0, p1, p2, p3, p4, p5, p6⟩ := cells_inst (i := Inst.mk op rd rs1 rs2 imm aq rl) A2.out
  obtain ⟨q0, q1, q2, q3, q4, q5, q6⟩ := cells_inst (i := Inst.mk op rd rs1 rs2 imm aq rl) C2.out
  simp only at p0 p1 p2 p3 p4 p5 p6 q0 q1 q2 q3 q4 q5 q6
  go_upto_region 4 with (go_at_call 18; refine (TA.out _ (HT.out.below B2.out) (HP.out.below B2.out)).mono ?_; rintro e W3 ⟨rfl, hb⟩)
  have A3 := Lib.hid ((hb.block _ (Nat.lt_trans (Nat.lt_succ_self _) Z2.out)).trans A2.out)
  have C3 := Lib.hid ((hb.block _ Z2.out).trans C2.out)
  have B3 := Lib.hid (B2.out.trans (hb.mono B2.out.size))
  have Z3 := Lib.hid (Nat.lt_of_lt_of_le Z2.out hb.size)
  clear p0 p1 p2 p3 p4 p5 p6 q0 q1 q2 q3 q4 q5 q6 hb
  obtain ⟨p0, p1, p2, p3, p4, p5, p6⟩ := cells_inst (i := Inst.mk op rd rs1 rs2 imm aq rl) A3.out
  obtain ⟨q0, q1, q2, q3, q4, q5, q6⟩ := cells_inst (i := Inst.mk op rd rs1 rs2 imm aq rl) C3.out
  simp only at p0 p1 p2 p3 p4 p5 p6 q0 q1 q2 q3 q4 q5 q6
  go_upto_region 5 with (go_at_call 18; refine (TB.out _ (HT.out.below B3.out) (HP.out.below B3.out)).mono ?_; rintro e W4 ⟨rfl, hb⟩)
  have A4 := Lib.hid ((hb.block _ (Nat.lt_trans (Nat.lt_succ_self _) Z3.out)).trans A3.out)
  have C4 := Lib.hid ((hb.block _ Z3.out).trans C3.out)
  have B4 := Lib.hid (B3.out.trans (hb.mono B3.out.size))
  have Z4 := Lib.hid (Nat.lt_of_lt_of_le Z3.out hb.size)
  clear p0 p1 p2 p3 p4 p5 p6 q0 q1 q2 q3 q4 q5 q6 hb
  obtain ⟨p0, p1, p2, p3, p4, p5, p6⟩ := cells_inst (i := Inst.mk op rd rs1 rs2 imm aq rl) A4.out
  obtain ⟨q0, q1, q2, q3, q4, q5, q6⟩ := cells_inst (i := Inst.mk op rd rs1 rs2 imm aq rl) C4.out
  simp only at p0 p1 p2 p3 p4 p5 p6 q0 q1 q2 q3 q4 q5 q6
  go_wp2_with (go_at_call 13; refine (known_any _ (HT.out.below B4.out)).mono ?_; rintro e W5 ⟨rfl, hb5⟩)
  go_ret
  exact ⟨rfl, B4.out.trans (hb5.mono B4.out.size)⟩

set_option maxRecDepth 100000 in
set_option maxHeartbeats 8000000 in
theorem unl_ne (op rd rs1 rs2 imm : Int) (aq rl : Bool) (op' rd' rs1' rs2' imm' : Int) (aq' rl' : Bool) (va : Int) (ta : ByteArray) (vb : Int) (tb : ByteArray) (w : World) (hT : Tab w) (hP : TabP w)
    (EA : ∀ W, Tab W → Calls Tryd.prog 12 #[.agg (Inst.mk op rd rs1 rs2 imm aq rl).val] W fun e w' => e = .returned (.tuple #[.int .u32 va, .int .i64 0]) ∧ Below W.heap.size W w')
    (TA : ∀ W, Tab W → TabP W → Calls Tryd.prog 18 #[.agg (Inst.mk op rd rs1 rs2 imm aq rl).val] W fun e w' => e = .returned (.tuple #[.string ta, .int .i64 0]) ∧ Below W.heap.size W w')
    (EB : ∀ W, Tab W → Calls Tryd.prog 12 #[.agg (Inst.mk op' rd' rs1' rs2' imm' aq' rl').val] W fun e w' => e = .returned (.tuple #[.int .u32 vb, .int .i64 0]) ∧ Below W.heap.size W w')
    (TB : ∀ W, Tab W → TabP W → Calls Tryd.prog 18 #[.agg (Inst.mk op' rd' rs1' rs2' imm' aq' rl').val] W fun e w' => e = .returned (.tuple #[.string tb, .int .i64 0]) ∧ Below W.heap.size W w') (hv : (va == vb) = false) (ht : (ta.toList == tb.toList) = false) (hab : ∀ W : World, (binOp .eql 25 (.agg (Inst.mk op rd rs1 rs2 imm aq rl).val) (.agg (Inst.mk op' rd' rs1' rs2' imm' aq' rl').val)).run Tryd.prog W = Result.ok (.bool false) W) :
    Calls Tryd.prog 9 #[.agg (Inst.mk op rd rs1 rs2 imm aq rl).val, .agg (Inst.mk op' rd' rs1' rs2' imm' aq' rl').val] w fun e w' => e = .returned (.bool true) ∧ Below w.heap.size w w' := by
  replace EA := Lib.hid EA
  replace TA := Lib.hid TA
  replace EB := Lib.hid EB
  replace TB := Lib.hid TB
  unfold Inst.val at hab
  simp only at hab
  have HT := Lib.hid hT
  have HP := Lib.hid hP
  clear hT hP
  have a0 : ((w.alloc (.cells (Inst.mk op rd rs1 rs2 imm aq rl).val 25)).alloc (.cells (Inst.mk op' rd' rs1' rs2' imm' aq' rl').val 25)).heap[w.heap.size]? = some (.cells (Inst.mk op rd rs1 rs2 imm aq rl).val 25 (0, 0)) := (Below.heap_alloc _ _ _ (by rw [World.size_alloc]; omega)).trans (World.alloc_heap_new w _)
  have c0 : ((w.alloc (.cells (Inst.mk op rd rs1 rs2 imm aq rl).val 25)).alloc (.cells (Inst.mk op' rd' rs1' rs2' imm' aq' rl').val 25)).heap[w.heap.size + 1]? = some (.cells (Inst.mk op' rd' rs1' rs2' imm' aq' rl').val 25 (0, 0)) := by
    rw [← World.size_alloc w (.cells (Inst.mk op rd rs1 rs2 imm aq rl).val 25)]; exact World.alloc_heap_new _ _
  have b0 : Below w.heap.size w ((w.alloc (.cells (Inst.mk op rd rs1 rs2 imm aq rl).val 25)).alloc (.cells (Inst.mk op' rd' rs1' rs2' imm' aq' rl').val 25)) := by
    have h := (Below.refl w.heap.size w).alloc (Nat.le_refl _) (.cells (Inst.mk op rd rs1 rs2 imm aq rl).val 25)
    exact h.alloc h.size _
  have z0 : w.heap.size + 1 < ((w.alloc (.cells (Inst.mk op rd rs1 rs2 imm aq rl).val 25)).alloc (.cells (Inst.mk op' rd' rs1' rs2' imm' aq' rl').val 25)).heap.size := by
    rw [World.size_alloc, World.size_alloc]; omega
  unfold Inst.val at a0 c0 b0 z0 ⊢
  go_enter Tryd.func9, Tryd.ntmps9
  go_upto_region 1 with fail
  generalize World.alloc (World.alloc w _) _ = W0 at *
  have A0 := Lib.hid a0
  have C0 := Lib.hid c0
  have B0 := Lib.hid b0
  have Z0 := Lib.hid z0
  obtain ⟨p0, p1, p2, p3, p4, p5, p6⟩ := cells_inst (i := Inst.mk op rd rs1 rs2 imm aq rl) a0
  obtain ⟨q0, q1, q2, q3, q4, q5, q6⟩ := cells_inst (i := Inst.mk op' rd' rs1' rs2' imm' aq' rl') c0
  simp only at p0 p1 p2 p3 p4 p5 p6 q0 q1 q2 q3 q4 q5 q6
  clear a0 c0 b0 z0
  go_upto_region 2 with (go_at_call 12; refine (EA.out _ (HT.out.below B0.out)).mono ?_; rintro e W1 ⟨rfl, hb⟩)
  have A1 := Lib.hid ((hb.block _ (Nat.lt_trans (Nat.lt_succ_self _) Z0.out)).trans A0.out)
  have C1 := Lib.hid ((hb.block _ Z0.out).trans C0.out)
  have B1 := Lib.hid (B0.out.trans (hb.mono B0.out.size))
  have Z1 := Lib.hid (Nat.lt_of_lt_of_le Z0.out hb.size)
  clear p0 p1 p2 p3 p4 p5 p6 q0 q1 q2 q3 q4 q5 q6 hb
  obtain ⟨p0, p1, p2, p3, p4, p5, p6⟩ := cells_inst (i := Inst.mk op rd rs1 rs2 imm aq rl) A1.out
  obtain ⟨q0, q1, q2, q3, q4, q5, q6⟩ := cells_inst (i := Inst.mk op' rd' rs1' rs2' imm' aq' rl') C1.out
  simp only at p0 p1 p2 p3 p4 p5 p6 q0 q1 q2 q3 q4 q5 q6
  go_upto_region 3 with (go_at_call 12; refine (EB.out _ (HT.out.below B1.out)).mono ?_; rintro e W2 ⟨rfl, hb⟩)
  have A2 := Lib.hid ((hb.block _ (Nat.lt_trans (Nat.lt_succ_self _) Z1.out)).trans A1.out)
  have C2 := Lib.hid ((hb.block _ Z1.out).trans C1.out)
  have B2 := Lib.hid (B1.out.trans (hb.mono B1.out.size))
  have Z2 := Lib.hid (Nat.lt_of_lt_of_le Z1.out hb.size)
  clear p0 p1 p2 p3 p4 p5 p6 q0 q1 q2 q3 q4 q5 q6 hb
  obtain ⟨p0, p1, p2, p3, p4, p5, p6⟩ := cells_inst (i := Inst.mk op rd rs1 rs2 imm aq rl) A2.out
  obtain ⟨q0, q1, q2, q3, q4, q5, q6⟩ := cells_inst (i := Inst.mk op' rd' rs1' rs2' imm' aq' rl') C2.out
  simp only at p0 p1 p2 p3 p4 p5 p6 q0 q1 q2 q3 q4 q5 q6
  go_upto_region 4 with (go_at_call 18; refine (TA.out _ (HT.out.below B2.out) (HP.out.below B2.out)).mono ?_; rintro e W3 ⟨rfl, hb⟩)
  have A3 := Lib.hid ((hb.block _ (Nat.lt_trans (Nat.lt_succ_self _) Z2.out)).trans A2.out)
  have C3 := Lib.hid ((hb.block _ Z2.out).trans C2.out)
  have B3 := Lib.hid (B2.out.trans (hb.mono B2.out.size))
  have Z3 := Lib.hid (Nat.lt_of_lt_of_le Z2.out hb.size)
  clear p0 p1 p2 p3 p4 p5 p6 q0 q1 q2 q3 q4 q5 q6 hb
  obtain ⟨p0, p1, p2, p3, p4, p5, p6⟩ := cells_inst (i := Inst.mk op rd rs1 rs2 imm aq rl) A3.out
  obtain ⟨q0, q1, q2, q3, q4, q5, q6⟩ := cells_inst (i := Inst.mk op' rd' rs1' rs2' imm' aq' rl') C3.out
  simp only at p0 p1 p2 p3 p4 p5 p6 q0 q1 q2 q3 q4 q5 q6
  go_upto_region 5 with (go_at_call 18; refine (TB.out _ (HT.out.below B3.out) (HP.out.below B3.out)).mono ?_; rintro e W4 ⟨rfl, hb⟩)
  have A4 := Lib.hid ((hb.block _ (Nat.lt_trans (Nat.lt_succ_self _) Z3.out)).trans A3.out)
  have C4 := Lib.hid ((hb.block _ Z3.out).trans C3.out)
  have B4 := Lib.hid (B3.out.trans (hb.mono B3.out.size))
  have Z4 := Lib.hid (Nat.lt_of_lt_of_le Z3.out hb.size)
  clear p0 p1 p2 p3 p4 p5 p6 q0 q1 q2 q3 q4 q5 q6 hb
  obtain ⟨p0, p1, p2, p3, p4, p5, p6⟩ := cells_inst (i := Inst.mk op rd rs1 rs2 imm aq rl) A4.out
  obtain ⟨q0, q1, q2, q3, q4, q5, q6⟩ := cells_inst (i := Inst.mk op' rd' rs1' rs2' imm' aq' rl') C4.out
  simp only at p0 p1 p2 p3 p4 p5 p6 q0 q1 q2 q3 q4 q5 q6
  go_wp2_with (go_at_call 13; refine (known_any _ (HT.out.below B4.out)).mono ?_; rintro e W5 ⟨rfl, hb5⟩)
  go_ret
  exact ⟨rfl, B4.out.trans (hb5.mono B4.out.size)⟩

theorem inst_ne (op rd rs1 rs2 imm : Int) (aq rl : Bool) (op' rd' rs1' rs2' imm' : Int) (aq' rl' : Bool) (h : Inst.mk op rd rs1 rs2 imm aq rl ≠ Inst.mk op' rd' rs1' rs2' imm' aq' rl') (W : World) :
    (binOp .eql 25 (.agg (Inst.mk op rd rs1 rs2 imm aq rl).val) (.agg (Inst.mk op' rd' rs1' rs2' imm' aq' rl').val)).run Tryd.prog W = Result.ok (.bool false) W := by
  unfold Inst.val
  by_cases e0 : op = op'
  · subst e0
    by_cases e1 : rd = rd'
    · subst e1
      by_cases e2 : rs1 = rs1'
      · subst e2
        by_cases e3 : rs2 = rs2'
        · subst e3
          by_cases e4 : imm = imm'
          · subst e4
            by_cases e5 : aq = aq'
            · subst e5
              by_cases e6 : rl = rl'
              · subst e6; exact (h rfl).elim
              · go_simp
            · go_simp
          · go_simp
        · go_simp
      · go_simp
    · go_simp
  · go_simp

theorem encc_yes (i : Inst) (k : Nat) (hk : k < 59) (ho : i.op = k + 1) (ok : okI k i = true) (h0 : 0 ≤ i.imm) (h1 : i.imm < 4294967296) (W : World) (hT : Tab W) :
    Calls Tryd.prog 12 #[.agg i.val] W fun e w' => e = .returned (.tuple #[.int .u32 (encK k i), .int .i64 0]) ∧ Below W.heap.size W w' :=
  (encode_any i W hT h0 h1).mono fun e w' ⟨hb, hd⟩ => ⟨enc_is hk ho ok h0 h1 hd, hb⟩
theorem encc_no (i : Inst) (hn : ∀ j : Nat, j < 59 → i.op = j + 1 → okI j i = false) (h0 : 0 ≤ i.imm) (h1 : i.imm < 4294967296) (W : World) (hT : Tab W) :
    Calls Tryd.prog 12 #[.agg i.val] W fun e w' => e = .returned (.tuple #[.int .u32 0, .int .i64 2]) ∧ Below W.heap.size W w' :=
  (encode_any i W hT h0 h1).mono fun e w' ⟨hb, hd⟩ => ⟨enc_no hn hd, hb⟩
theorem enc_inj {j k : Nat} {i x : Inst} (hj : j < 59) (hk : k < 59) (hij : i.op = j + 1) (hxk : x.op = k + 1) (hi : okI j i = true) (hx : okI k x = true) (i0 : 0 ≤ i.imm) (i1 : i.imm < 4294967296) (x0 : 0 ≤ x.imm) (x1 : x.imm < 4294967296) (h : encK j i = encK k x) : i = x := by
  obtain ⟨c0, c1, c2, c3⟩ := enc_facts j i hj hij hi i0 i1
  obtain ⟨d0, d1, d2, d3⟩ := enc_facts k x hk hxk hx x0 x1
  rw [← h] at d2 d3
  obtain rfl := hit_one c0 c1 hj hk c3 d3
  rw [← c2, d2]
theorem bs_list (t : List UInt8) : (bs t).toList = t := by simp [bs, ByteArray.toList_eq]

theorem lawUnlike_any (i x : Inst) (w : World) (hT : Tab w) (hP : TabP w) (i0 : 0 ≤ i.imm) (i1 : i.imm < 4294967296) (x0 : 0 ≤ x.imm) (x1 : x.imm < 4294967296) :
    Calls Tryd.prog 9 #[.agg i.val, .agg x.val] w fun e w' => e = .returned (.bool true) ∧ Below w.heap.size w w' := by
  rcases may_cases i with ⟨j, hj, hij, hi⟩ | hi <;> rcases may_cases x with ⟨k, hk, hxk, hx⟩ | hx
  · by_cases e : i = x
    · subst e
      exact unl_eq i.op i.rd i.rs1 i.rs2 i.imm i.aq i.rl (encK j i) (bs (textL j i)) w hT hP (encc_yes i j hj hij hi i0 i1) (fun W hT hP => text_yes i W hT hP i0 i1 j hj hij hi)
    · refine unl_ne i.op i.rd i.rs1 i.rs2 i.imm i.aq i.rl x.op x.rd x.rs1 x.rs2 x.imm x.aq x.rl (encK j i) (bs (textL j i)) (encK k x) (bs (textL k x)) w hT hP (encc_yes i j hj hij hi i0 i1) (fun W hT hP => text_yes i W hT hP i0 i1 j hj hij hi) (encc_yes x k hk hxk hx x0 x1) (fun W hT hP => text_yes x W hT hP x0 x1 k hk hxk hx) ?_ ?_ ?_
      · rw [beq_eq_false_iff_ne]
        exact fun h => e (enc_inj hj hk hij hxk hi hx i0 i1 x0 x1 h)
      · rw [bs_list, bs_list, beq_eq_false_iff_ne]
        exact fun h => e (text_inj hj hk hij hxk hi hx i0 i1 x0 x1 h)
      · exact inst_ne i.op i.rd i.rs1 i.rs2 i.imm i.aq i.rl x.op x.rd x.rs1 x.rs2 x.imm x.aq x.rl e
  · exact unl_yn i.op i.rd i.rs1 i.rs2 i.imm i.aq i.rl x.op x.rd x.rs1 x.rs2 x.imm x.aq x.rl (encK j i) (bs (textL j i)) 0 ⟨#[]⟩ w hT hP (encc_yes i j hj hij hi i0 i1) (fun W hT hP => text_yes i W hT hP i0 i1 j hj hij hi) (encc_no x (may_no hx) x0 x1) (fun W hT _ => text_no x W hT x0 x1 (may_no hx))
  · exact unl_ny i.op i.rd i.rs1 i.rs2 i.imm i.aq i.rl x.op x.rd x.rs1 x.rs2 x.imm x.aq x.rl 0 ⟨#[]⟩ (encK k x) (bs (textL k x)) w hT hP (encc_no i (may_no hi) i0 i1) (fun W hT _ => text_no i W hT i0 i1 (may_no hi)) (encc_yes x k hk hxk hx x0 x1) (fun W hT hP => text_yes x W hT hP x0 x1 k hk hxk hx)
  · exact unl_nn i.op i.rd i.rs1 i.rs2 i.imm i.aq i.rl x.op x.rd x.rs1 x.rs2 x.imm x.aq x.rl 0 ⟨#[]⟩ 0 ⟨#[]⟩ w hT hP (encc_no i (may_no hi) i0 i1) (fun W hT _ => text_no i W hT i0 i1 (may_no hi)) (encc_no x (may_no hx) x0 x1) (fun W hT _ => text_no x W hT x0 x1 (may_no hx))
end Go.Proofs.YtamilahkdinjkaaDoor
