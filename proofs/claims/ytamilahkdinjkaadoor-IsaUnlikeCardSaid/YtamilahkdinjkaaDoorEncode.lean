/-
  isa.Encode: an instruction's word.
-/
import Derived.Test.YtamilahkdinjkaaDoorMay
namespace Go.Proofs.YtamilahkdinjkaaDoor
set_option linter.unusedVariables false
set_option linter.unusedSimpArgs false
open Go.RowKit Go.Shelf
attribute [local go_sem] Oper.semAt_some

theorem bit_i (b : Bool) (k : Int) (w : World) (h0 : 0 ≤ k) (h1 : k < 32) :
    Calls Tryd.prog 27 #[.bool b, .int .i64 k] w fun e w' => e = .returned (.int .u32 (bitZ b k)) ∧ w' = w := by
  obtain ⟨n, rfl⟩ := Int.eq_ofNat_of_zero_le h0
  exact (bit_any b n w (by omega)).mono fun e w' ⟨he, hw⟩ => ⟨he, hw.symm⟩

set_option maxRecDepth 100000 in
set_option maxHeartbeats 4000000 in
theorem encode_any (i : Inst) (w : World) (hT : Tab w) (h0 : 0 ≤ i.imm) (hlt : i.imm < 4294967296) :
    Calls Tryd.prog 12 #[.agg i.val] w fun e w' => Below w.heap.size w w' ∧
      ((∃ k : Nat, k < 59 ∧ i.op = k + 1 ∧ okI k i = true ∧ e = .returned (.tuple #[.int .u32 (encO k i), .int .i64 0])) ∨
      ((∀ k : Nat, k < 59 → i.op = k + 1 → okI k i = false) ∧ e = .returned (.tuple #[.int .u32 0, .int .i64 2]))) := by
  obtain ⟨op, rd, rs1, rs2, imm, aq, rl⟩ := i
  simp only at h0 hlt
  unfold Inst.val
  go_enter Tryd.func12, Tryd.ntmps12
  go_wp2_with (go_at_call 26; refine (mayR_any (Inst.mk op rd rs1 rs2 imm aq rl) _ ?_ h0 hlt).mono ?_; exact hT.below ((Below.refl _ _).alloc (Nat.le_refl _) _); rintro e w' ⟨hb, (⟨k, v, hk, hop, rfl, ⟨mv, rfl, hmv⟩⟩ | ⟨ho, rfl⟩)⟩ <;> (first | (obtain ⟨mk, mcap, rfl⟩ := hmv.fn; unfold rowC) | unfold zeroRow))
  · have hbw : Below w.heap.size w w' := ((Below.refl _ w).alloc (Nat.le_refl _) _).trans (hb.mono (by simp))
    refine bodyPost_ret (v := .tuple #[.int .u32 0, .int .i64 2]) (by simp [results, Tryd.f12, go_sem]) rfl ⟨hbw.alloc hbw.size _, .inr ⟨fun j hj hjo => ?_, rfl⟩⟩
    rename_i hn
    obtain rfl : j = k := by omega
    subst hop
    simpa using hn
  · subst hop
    have hb0 := hb.size
    simp only [World.size_alloc] at hb0
    have hbw : Below w.heap.size w w' := ((Below.refl _ w).alloc (Nat.le_refl _) _).trans (hb.mono (by simp))
    have j2 : w'.heap[w.heap.size]? = some (.cells (Inst.mk (k + 1) rd rs1 rs2 imm aq rl).val 25 (0, 0)) := by
      rw [hb.block _ (by simp)]; exact World.alloc_heap_new w _
    have i2 : (w'.alloc (.cells (rowC k (.func (.func mk) #[] mcap)) 51)).heap[w.heap.size]? = _ := (Below.heap_alloc _ _ _ (by omega)).trans j2
    obtain ⟨t0, t1, t2, t3, t4, t5, t6⟩ := cells_inst i2
    simp only [rowC] at t0 t1 t2 t3 t4 t5 t6
    have hen : ∀ (args : Array Value) (w : World), (callFunc (putN (formK k)) args).run Tryd.prog w = .ok (.enter (putN (formK k)) args) w := enPut (formK k)
    go_quiet (first | (go_at_call 27; exact Calls.quiet_of_same (bit_i _ _ _ (by decide) (by decide))) | exact Calls.quiet_of ((put_any (formK k) imm _ h0 hlt).mono fun e w' ⟨he, q, hw⟩ => ⟨he, q, hw⟩))
    go_wp2
    refine bodyPost_ret (v := .tuple #[.int .u32 (encO k (Inst.mk (k + 1) rd rs1 rs2 imm aq rl)), .int .i64 0]) (by simp [results, Tryd.f12, go_sem, encO]) rfl ?_
    have e1 := hbw.alloc hbw.size (.cells (rowC k (.func (.func mk) #[] mcap)) 51)
    refine ⟨⟨e1.os, e1.tape, e1.output, e1.size, e1.block⟩, .inl ⟨k, hk, rfl, ?_, rfl⟩⟩
    rename_i hn
    simpa using hn
  · have hbw : Below w.heap.size w w' := ((Below.refl _ w).alloc (Nat.le_refl _) _).trans (hb.mono (by simp))
    refine bodyPost_ret (v := .tuple #[.int .u32 0, .int .i64 2]) (by simp [results, Tryd.f12, go_sem]) rfl ⟨hbw.alloc hbw.size _, .inr ⟨fun j hj hjo => ?_, rfl⟩⟩
    exfalso
    omega
end Go.Proofs.YtamilahkdinjkaaDoor
