/-
  The reference's Encode of an instruction that may be.
-/
import Derived.Test.YtamilahkdinjkaaDoorRef3
import Derived.RangeFuncRecord
namespace Go.Proofs.YtamilahkdinjkaaDoor
set_option linter.unusedVariables false
set_option linter.unusedSimpArgs false
open Go.RowKit
attribute [local go_sem] Oper.semAt_some

def bitsP (k : Nat) : Int := match formK k with
  | .u | .j => opcZ (k + 1)
  | .b | .s | .i | .load | .fence => opcZ (k + 1) + f3Z k * 4096
  | .csr => opcZ (k + 1) + f3Z k * 4096 + 4047503360
  | _ => opcZ (k + 1) + f3Z k * 4096 + f7Z k * 33554432
theorem bits_parts (k : Nat) (hk : k < 59) : bitsK k = bitsP k ∧ 0 ≤ opcZ (k + 1) ∧ opcZ (k + 1) < 128 ∧ 0 ≤ f3Z k ∧ f3Z k < 8 ∧ 0 ≤ f7Z k ∧ f7Z k < 128 ∧ (formK k = .lr ∨ formK k = .a → f7Z k % 4 = 0) := by
  have h : (List.range 59).all (fun j => decide (bitsK j = bitsP j ∧ 0 ≤ opcZ (j + 1) ∧ opcZ (j + 1) < 128 ∧ 0 ≤ f3Z j ∧ f3Z j < 8 ∧ 0 ≤ f7Z j ∧ f7Z j < 128) && (match formK j with | .lr | .a => decide (f7Z j % 4 = 0) | _ => true)) = true := by decide +kernel
  have h1 := List.all_eq_true.1 h k (List.mem_range.2 hk)
  rw [Bool.and_eq_true] at h1
  obtain ⟨a1, a2, a3, a4, a5, a6, a7⟩ := of_decide_eq_true h1.1
  refine ⟨a1, a2, a3, a4, a5, a6, a7, fun hf => ?_⟩
  have h2 := h1.2
  rcases hf with hf | hf
  · rw [hf] at h2; exact of_decide_eq_true h2
  · rw [hf] at h2; exact of_decide_eq_true h2

set_option maxRecDepth 100000 in
set_option maxHeartbeats 4000000 in
theorem renc_u (i : Inst) (w : World) (k : Nat) (hk : k < 59) (hf : formK k = .u) (ho : i.op = k + 1) (h0 : 0 ≤ i.imm) (h1 : i.imm < 4294967296) (ok : okF .u i = true) :
    Calls Tryd.prog 15 #[.agg i.val] w fun e w' => e = .returned (.int .u32 (encF .u (bitsK k) i)) ∧ Below w.heap.size w w' := by
  obtain ⟨op, rd, rs1, rs2, imm, aq, rl⟩ := i
  rw [okF_iff] at ok
  simp only at ho h0 h1 ok
  subst ho
  obtain ⟨k1, k2, k3, k4, k5⟩ := ok
  obtain ⟨t1, t2, t3, t4, t5, t6, t7, t8⟩ := bits_parts k hk
  have t9 : bitsP k = opcZ (k + 1) := by unfold bitsP; rw [hf]
  obtain ⟨rda, rdb⟩ := regB_t k1
  clear k1
  obtain rfl := regB_f k2
  clear k2
  obtain rfl := regB_f k3
  clear k3
  simp only [aZ, Bool.false_eq_true, false_or] at k5
  obtain ⟨rfl, rfl⟩ := k5
  clear t8
  have m1 : imm % 4096 = 0 := by simpa [mayZ] using k4
  clear k4
  have HK := Lib.hid hk
  have HF := Lib.hid hf
  have T1 := Lib.hid t1
  have T9 := Lib.hid t9
  clear hk hf t1 t9
  generalize ho : opcZ ((k : Int) + 1) = oc at t2 t3
  generalize h3 : f3Z k = g3 at t4 t5
  generalize h7 : f7Z k = g7 at t6 t7
  have HO := Lib.hid ho
  have H3 := Lib.hid h3
  have H7 := Lib.hid h7
  clear ho h3 h7
  have cO : ∀ w, Calls Tryd.prog 29 #[.int .i64 ((k : Int) + 1)] w fun e w' => e = .returned (.int .u32 oc) ∧ w = w' := fun w => HO.out ▸ opcode_any _ w
  have c3 : ∀ w, Calls Tryd.prog 30 #[.int .i64 ((k : Int) + 1)] w fun e w' => e = .returned (.int .u32 g3) ∧ Below w.heap.size w w' := fun w => H3.out ▸ f3_any k w HK.out
  have c7 : ∀ w, Calls Tryd.prog 31 #[.int .i64 ((k : Int) + 1)] w fun e w' => e = .returned (.int .u32 g7) ∧ Below w.heap.size w w' := fun w => H7.out ▸ f7_any k w HK.out
  unfold Inst.val
  go_enter Tryd.func15, Tryd.ntmps15
  go_wp2_with (first | (go_at_call 22; refine (form_f k 117 .u HK.out HF.out rfl _).mono ?_; rintro e w' ⟨rfl, rfl⟩) | (go_at_call 29; refine (cO _).mono ?_; rintro e w' ⟨rfl, rfl⟩) | (go_at_call 30; refine (c3 _).mono ?_; rintro e wa ⟨rfl, hba⟩; have ca : wa.heap[w.heap.size]? = some (.cells (Inst.mk (k + 1) rd 0 0 imm false false).val 25 (0, 0)) := (hba.block _ (by simp)).trans (World.alloc_heap_new w _); obtain ⟨q0, q1, q2, q3, q4, q5, q6⟩ := cells_inst ca; simp only at q0 q1 q2 q3 q4 q5 q6) | (go_at_call 31; refine (c7 _).mono ?_; rintro e wb ⟨rfl, hbb⟩) | (go_at_call 23; refine (bits_p imm _ _ _ (by omega) (by omega) (by omega) (by omega) (by omega)).mono ?_; rintro e w' ⟨rfl, rfl⟩) | (go_at_call 25; refine (pow_p _ _ (by omega) (by omega)).mono ?_; rintro e w' ⟨rfl, rfl⟩))
  go_ret
  refine ⟨ret_int ?_, (Below.refl _ _).alloc (Nat.le_refl _) _⟩
  have t1 := T1.out.trans T9.out
  rw [HO.out] at t1
  unfold encF
  rw [t1]
  simp only [putZ, if_true, if_false, Bool.false_eq_true]
  omega

set_option maxRecDepth 100000 in
set_option maxHeartbeats 4000000 in
theorem renc_j (i : Inst) (w : World) (k : Nat) (hk : k < 59) (hf : formK k = .j) (ho : i.op = k + 1) (h0 : 0 ≤ i.imm) (h1 : i.imm < 4294967296) (ok : okF .j i = true) :
    Calls Tryd.prog 15 #[.agg i.val] w fun e w' => e = .returned (.int .u32 (encF .j (bitsK k) i)) ∧ Below w.heap.size w w' := by
  obtain ⟨op, rd, rs1, rs2, imm, aq, rl⟩ := i
  rw [okF_iff] at ok
  simp only at ho h0 h1 ok
  subst ho
  obtain ⟨k1, k2, k3, k4, k5⟩ := ok
  obtain ⟨t1, t2, t3, t4, t5, t6, t7, t8⟩ := bits_parts k hk
  have t9 : bitsP k = opcZ (k + 1) := by unfold bitsP; rw [hf]
  obtain ⟨rda, rdb⟩ := regB_t k1
  clear k1
  obtain rfl := regB_f k2
  clear k2
  obtain rfl := regB_f k3
  clear k3
  simp only [aZ, Bool.false_eq_true, false_or] at k5
  obtain ⟨rfl, rfl⟩ := k5
  clear t8
  obtain ⟨m1, m2, m3⟩ := (even_iff _ _ _).1 k4
  clear k4
  have s := sgn_cases imm
  have S := Lib.hid s
  clear s
  have HK := Lib.hid hk
  have HF := Lib.hid hf
  have T1 := Lib.hid t1
  have T9 := Lib.hid t9
  clear hk hf t1 t9
  generalize ho : opcZ ((k : Int) + 1) = oc at t2 t3
  generalize h3 : f3Z k = g3 at t4 t5
  generalize h7 : f7Z k = g7 at t6 t7
  have HO := Lib.hid ho
  have H3 := Lib.hid h3
  have H7 := Lib.hid h7
  clear ho h3 h7
  have cO : ∀ w, Calls Tryd.prog 29 #[.int .i64 ((k : Int) + 1)] w fun e w' => e = .returned (.int .u32 oc) ∧ w = w' := fun w => HO.out ▸ opcode_any _ w
  have c3 : ∀ w, Calls Tryd.prog 30 #[.int .i64 ((k : Int) + 1)] w fun e w' => e = .returned (.int .u32 g3) ∧ Below w.heap.size w w' := fun w => H3.out ▸ f3_any k w HK.out
  have c7 : ∀ w, Calls Tryd.prog 31 #[.int .i64 ((k : Int) + 1)] w fun e w' => e = .returned (.int .u32 g7) ∧ Below w.heap.size w w' := fun w => H7.out ▸ f7_any k w HK.out
  unfold Inst.val
  go_enter Tryd.func15, Tryd.ntmps15
  go_wp2_with (first | (go_at_call 22; refine (form_f k 106 .j HK.out HF.out rfl _).mono ?_; rintro e w' ⟨rfl, rfl⟩) | (go_at_call 29; refine (cO _).mono ?_; rintro e w' ⟨rfl, rfl⟩) | (go_at_call 30; refine (c3 _).mono ?_; rintro e wa ⟨rfl, hba⟩; have ca : wa.heap[w.heap.size]? = some (.cells (Inst.mk (k + 1) rd 0 0 imm false false).val 25 (0, 0)) := (hba.block _ (by simp)).trans (World.alloc_heap_new w _); obtain ⟨q0, q1, q2, q3, q4, q5, q6⟩ := cells_inst ca; simp only at q0 q1 q2 q3 q4 q5 q6) | (go_at_call 31; refine (c7 _).mono ?_; rintro e wb ⟨rfl, hbb⟩) | (go_at_call 23; refine (bits_p imm _ _ _ (by omega) (by omega) (by omega) (by omega) (by omega)).mono ?_; rintro e w' ⟨rfl, rfl⟩) | (go_at_call 25; refine (pow_p _ _ (by omega) (by omega)).mono ?_; rintro e w' ⟨rfl, rfl⟩))
  go_ret
  refine ⟨ret_int ?_, (Below.refl _ _).alloc (Nat.le_refl _) _⟩
  have t1 := T1.out.trans T9.out
  rw [HO.out] at t1
  unfold encF
  rw [t1]
  simp only [putZ, if_true, if_false, Bool.false_eq_true]
  have s := S.out
  omega

set_option maxRecDepth 100000 in
set_option maxHeartbeats 4000000 in
theorem renc_load (i : Inst) (w : World) (k : Nat) (hk : k < 59) (hf : formK k = .load) (ho : i.op = k + 1) (h0 : 0 ≤ i.imm) (h1 : i.imm < 4294967296) (ok : okF .load i = true) :
    Calls Tryd.prog 15 #[.agg i.val] w fun e w' => e = .returned (.int .u32 (encF .load (bitsK k) i)) ∧ Below w.heap.size w w' := by
  obtain ⟨op, rd, rs1, rs2, imm, aq, rl⟩ := i
  rw [okF_iff] at ok
  simp only at ho h0 h1 ok
  subst ho
  obtain ⟨k1, k2, k3, k4, k5⟩ := ok
  obtain ⟨t1, t2, t3, t4, t5, t6, t7, t8⟩ := bits_parts k hk
  have t9 : bitsP k = opcZ (k + 1) + f3Z k * 4096 := by unfold bitsP; rw [hf]
  obtain ⟨rda, rdb⟩ := regB_t k1
  clear k1
  obtain ⟨rs1a, rs1b⟩ := regB_t k2
  clear k2
  obtain rfl := regB_f k3
  clear k3
  simp only [aZ, Bool.false_eq_true, false_or] at k5
  obtain ⟨rfl, rfl⟩ := k5
  clear t8
  obtain ⟨m2, m3⟩ := (within_iff _ _ _).1 k4
  clear k4
  have s := sgn_cases imm
  have S := Lib.hid s
  clear s
  have HK := Lib.hid hk
  have HF := Lib.hid hf
  have T1 := Lib.hid t1
  have T9 := Lib.hid t9
  clear hk hf t1 t9
  generalize ho : opcZ ((k : Int) + 1) = oc at t2 t3
  generalize h3 : f3Z k = g3 at t4 t5
  generalize h7 : f7Z k = g7 at t6 t7
  have HO := Lib.hid ho
  have H3 := Lib.hid h3
  have H7 := Lib.hid h7
  clear ho h3 h7
  have cO : ∀ w, Calls Tryd.prog 29 #[.int .i64 ((k : Int) + 1)] w fun e w' => e = .returned (.int .u32 oc) ∧ w = w' := fun w => HO.out ▸ opcode_any _ w
  have c3 : ∀ w, Calls Tryd.prog 30 #[.int .i64 ((k : Int) + 1)] w fun e w' => e = .returned (.int .u32 g3) ∧ Below w.heap.size w w' := fun w => H3.out ▸ f3_any k w HK.out
  have c7 : ∀ w, Calls Tryd.prog 31 #[.int .i64 ((k : Int) + 1)] w fun e w' => e = .returned (.int .u32 g7) ∧ Below w.heap.size w w' := fun w => H7.out ▸ f7_any k w HK.out
  unfold Inst.val
  go_enter Tryd.func15, Tryd.ntmps15
  go_wp2_with (first | (go_at_call 22; refine (form_f k 108 .load HK.out HF.out rfl _).mono ?_; rintro e w' ⟨rfl, rfl⟩) | (go_at_call 29; refine (cO _).mono ?_; rintro e w' ⟨rfl, rfl⟩) | (go_at_call 30; refine (c3 _).mono ?_; rintro e wa ⟨rfl, hba⟩; have ca : wa.heap[w.heap.size]? = some (.cells (Inst.mk (k + 1) rd rs1 0 imm false false).val 25 (0, 0)) := (hba.block _ (by simp)).trans (World.alloc_heap_new w _); obtain ⟨q0, q1, q2, q3, q4, q5, q6⟩ := cells_inst ca; simp only at q0 q1 q2 q3 q4 q5 q6) | (go_at_call 31; refine (c7 _).mono ?_; rintro e wb ⟨rfl, hbb⟩) | (go_at_call 23; refine (bits_p imm _ _ _ (by omega) (by omega) (by omega) (by omega) (by omega)).mono ?_; rintro e w' ⟨rfl, rfl⟩) | (go_at_call 25; refine (pow_p _ _ (by omega) (by omega)).mono ?_; rintro e w' ⟨rfl, rfl⟩))
  go_ret
  have b2 := ((Below.refl _ w).alloc (Nat.le_refl _) _).trans (hba.mono (by simp))
  refine ⟨ret_int ?_, b2⟩
  have t1 := T1.out.trans T9.out
  rw [HO.out, H3.out] at t1
  unfold encF
  rw [t1]
  simp only [putZ, if_true, if_false, Bool.false_eq_true]
  have s := S.out
  omega

set_option maxRecDepth 100000 in
set_option maxHeartbeats 4000000 in
theorem renc_b (i : Inst) (w : World) (k : Nat) (hk : k < 59) (hf : formK k = .b) (ho : i.op = k + 1) (h0 : 0 ≤ i.imm) (h1 : i.imm < 4294967296) (ok : okF .b i = true) :
    Calls Tryd.prog 15 #[.agg i.val] w fun e w' => e = .returned (.int .u32 (encF .b (bitsK k) i)) ∧ Below w.heap.size w w' := by
  obtain ⟨op, rd, rs1, rs2, imm, aq, rl⟩ := i
  rw [okF_iff] at ok
  simp only at ho h0 h1 ok
  subst ho
  obtain ⟨k1, k2, k3, k4, k5⟩ := ok
  obtain ⟨t1, t2, t3, t4, t5, t6, t7, t8⟩ := bits_parts k hk
  have t9 : bitsP k = opcZ (k + 1) + f3Z k * 4096 := by unfold bitsP; rw [hf]
  obtain rfl := regB_f k1
  clear k1
  obtain ⟨rs1a, rs1b⟩ := regB_t k2
  clear k2
  obtain ⟨rs2a, rs2b⟩ := regB_t k3
  clear k3
  simp only [aZ, Bool.false_eq_true, false_or] at k5
  obtain ⟨rfl, rfl⟩ := k5
  clear t8
  obtain ⟨m1, m2, m3⟩ := (even_iff _ _ _).1 k4
  clear k4
  have s := sgn_cases imm
  have S := Lib.hid s
  clear s
  have HK := Lib.hid hk
  have HF := Lib.hid hf
  have T1 := Lib.hid t1
  have T9 := Lib.hid t9
  clear hk hf t1 t9
  generalize ho : opcZ ((k : Int) + 1) = oc at t2 t3
  generalize h3 : f3Z k = g3 at t4 t5
  generalize h7 : f7Z k = g7 at t6 t7
  have HO := Lib.hid ho
  have H3 := Lib.hid h3
  have H7 := Lib.hid h7
  clear ho h3 h7
  have cO : ∀ w, Calls Tryd.prog 29 #[.int .i64 ((k : Int) + 1)] w fun e w' => e = .returned (.int .u32 oc) ∧ w = w' := fun w => HO.out ▸ opcode_any _ w
  have c3 : ∀ w, Calls Tryd.prog 30 #[.int .i64 ((k : Int) + 1)] w fun e w' => e = .returned (.int .u32 g3) ∧ Below w.heap.size w w' := fun w => H3.out ▸ f3_any k w HK.out
  have c7 : ∀ w, Calls Tryd.prog 31 #[.int .i64 ((k : Int) + 1)] w fun e w' => e = .returned (.int .u32 g7) ∧ Below w.heap.size w w' := fun w => H7.out ▸ f7_any k w HK.out
  unfold Inst.val
  go_enter Tryd.func15, Tryd.ntmps15
  go_wp2_with (first | (go_at_call 22; refine (form_f k 98 .b HK.out HF.out rfl _).mono ?_; rintro e w' ⟨rfl, rfl⟩) | (go_at_call 29; refine (cO _).mono ?_; rintro e w' ⟨rfl, rfl⟩) | (go_at_call 30; refine (c3 _).mono ?_; rintro e wa ⟨rfl, hba⟩; have ca : wa.heap[w.heap.size]? = some (.cells (Inst.mk (k + 1) 0 rs1 rs2 imm false false).val 25 (0, 0)) := (hba.block _ (by simp)).trans (World.alloc_heap_new w _); obtain ⟨q0, q1, q2, q3, q4, q5, q6⟩ := cells_inst ca; simp only at q0 q1 q2 q3 q4 q5 q6) | (go_at_call 31; refine (c7 _).mono ?_; rintro e wb ⟨rfl, hbb⟩) | (go_at_call 23; refine (bits_p imm _ _ _ (by omega) (by omega) (by omega) (by omega) (by omega)).mono ?_; rintro e w' ⟨rfl, rfl⟩) | (go_at_call 25; refine (pow_p _ _ (by omega) (by omega)).mono ?_; rintro e w' ⟨rfl, rfl⟩))
  go_ret
  have b2 := ((Below.refl _ w).alloc (Nat.le_refl _) _).trans (hba.mono (by simp))
  refine ⟨ret_int ?_, b2⟩
  have t1 := T1.out.trans T9.out
  rw [HO.out, H3.out] at t1
  unfold encF
  rw [t1]
  simp only [putZ, if_true, if_false, Bool.false_eq_true]
  have s := S.out
  omega

set_option maxRecDepth 100000 in
set_option maxHeartbeats 4000000 in
theorem renc_s (i : Inst) (w : World) (k : Nat) (hk : k < 59) (hf : formK k = .s) (ho : i.op = k + 1) (h0 : 0 ≤ i.imm) (h1 : i.imm < 4294967296) (ok : okF .s i = true) :
    Calls Tryd.prog 15 #[.agg i.val] w fun e w' => e = .returned (.int .u32 (encF .s (bitsK k) i)) ∧ Below w.heap.size w w' := by
  obtain ⟨op, rd, rs1, rs2, imm, aq, rl⟩ := i
  rw [okF_iff] at ok
  simp only at ho h0 h1 ok
  subst ho
  obtain ⟨k1, k2, k3, k4, k5⟩ := ok
  obtain ⟨t1, t2, t3, t4, t5, t6, t7, t8⟩ := bits_parts k hk
  have t9 : bitsP k = opcZ (k + 1) + f3Z k * 4096 := by unfold bitsP; rw [hf]
  obtain rfl := regB_f k1
  clear k1
  obtain ⟨rs1a, rs1b⟩ := regB_t k2
  clear k2
  obtain ⟨rs2a, rs2b⟩ := regB_t k3
  clear k3
  simp only [aZ, Bool.false_eq_true, false_or] at k5
  obtain ⟨rfl, rfl⟩ := k5
  clear t8
  obtain ⟨m2, m3⟩ := (within_iff _ _ _).1 k4
  clear k4
  have s := sgn_cases imm
  have S := Lib.hid s
  clear s
  have HK := Lib.hid hk
  have HF := Lib.hid hf
  have T1 := Lib.hid t1
  have T9 := Lib.hid t9
  clear hk hf t1 t9
  generalize ho : opcZ ((k : Int) + 1) = oc at t2 t3
  generalize h3 : f3Z k = g3 at t4 t5
  generalize h7 : f7Z k = g7 at t6 t7
  have HO := Lib.hid ho
  have H3 := Lib.hid h3
  have H7 := Lib.hid h7
  clear ho h3 h7
  have cO : ∀ w, Calls Tryd.prog 29 #[.int .i64 ((k : Int) + 1)] w fun e w' => e = .returned (.int .u32 oc) ∧ w = w' := fun w => HO.out ▸ opcode_any _ w
  have c3 : ∀ w, Calls Tryd.prog 30 #[.int .i64 ((k : Int) + 1)] w fun e w' => e = .returned (.int .u32 g3) ∧ Below w.heap.size w w' := fun w => H3.out ▸ f3_any k w HK.out
  have c7 : ∀ w, Calls Tryd.prog 31 #[.int .i64 ((k : Int) + 1)] w fun e w' => e = .returned (.int .u32 g7) ∧ Below w.heap.size w w' := fun w => H7.out ▸ f7_any k w HK.out
  unfold Inst.val
  go_enter Tryd.func15, Tryd.ntmps15
  go_wp2_with (first | (go_at_call 22; refine (form_f k 115 .s HK.out HF.out rfl _).mono ?_; rintro e w' ⟨rfl, rfl⟩) | (go_at_call 29; refine (cO _).mono ?_; rintro e w' ⟨rfl, rfl⟩) | (go_at_call 30; refine (c3 _).mono ?_; rintro e wa ⟨rfl, hba⟩; have ca : wa.heap[w.heap.size]? = some (.cells (Inst.mk (k + 1) 0 rs1 rs2 imm false false).val 25 (0, 0)) := (hba.block _ (by simp)).trans (World.alloc_heap_new w _); obtain ⟨q0, q1, q2, q3, q4, q5, q6⟩ := cells_inst ca; simp only at q0 q1 q2 q3 q4 q5 q6) | (go_at_call 31; refine (c7 _).mono ?_; rintro e wb ⟨rfl, hbb⟩) | (go_at_call 23; refine (bits_p imm _ _ _ (by omega) (by omega) (by omega) (by omega) (by omega)).mono ?_; rintro e w' ⟨rfl, rfl⟩) | (go_at_call 25; refine (pow_p _ _ (by omega) (by omega)).mono ?_; rintro e w' ⟨rfl, rfl⟩))
  go_ret
  have b2 := ((Below.refl _ w).alloc (Nat.le_refl _) _).trans (hba.mono (by simp))
  refine ⟨ret_int ?_, b2⟩
  have t1 := T1.out.trans T9.out
  rw [HO.out, H3.out] at t1
  unfold encF
  rw [t1]
  simp only [putZ, if_true, if_false, Bool.false_eq_true]
  have s := S.out
  omega

set_option maxRecDepth 100000 in
set_option maxHeartbeats 4000000 in
theorem renc_i (i : Inst) (w : World) (k : Nat) (hk : k < 59) (hf : formK k = .i) (ho : i.op = k + 1) (h0 : 0 ≤ i.imm) (h1 : i.imm < 4294967296) (ok : okF .i i = true) :
    Calls Tryd.prog 15 #[.agg i.val] w fun e w' => e = .returned (.int .u32 (encF .i (bitsK k) i)) ∧ Below w.heap.size w w' := by
  obtain ⟨op, rd, rs1, rs2, imm, aq, rl⟩ := i
  rw [okF_iff] at ok
  simp only at ho h0 h1 ok
  subst ho
  obtain ⟨k1, k2, k3, k4, k5⟩ := ok
  obtain ⟨t1, t2, t3, t4, t5, t6, t7, t8⟩ := bits_parts k hk
  have t9 : bitsP k = opcZ (k + 1) + f3Z k * 4096 := by unfold bitsP; rw [hf]
  obtain ⟨rda, rdb⟩ := regB_t k1
  clear k1
  obtain ⟨rs1a, rs1b⟩ := regB_t k2
  clear k2
  obtain rfl := regB_f k3
  clear k3
  simp only [aZ, Bool.false_eq_true, false_or] at k5
  obtain ⟨rfl, rfl⟩ := k5
  clear t8
  obtain ⟨m2, m3⟩ := (within_iff _ _ _).1 k4
  clear k4
  have s := sgn_cases imm
  have S := Lib.hid s
  clear s
  have HK := Lib.hid hk
  have HF := Lib.hid hf
  have T1 := Lib.hid t1
  have T9 := Lib.hid t9
  clear hk hf t1 t9
  generalize ho : opcZ ((k : Int) + 1) = oc at t2 t3
  generalize h3 : f3Z k = g3 at t4 t5
  generalize h7 : f7Z k = g7 at t6 t7
  have HO := Lib.hid ho
  have H3 := Lib.hid h3
  have H7 := Lib.hid h7
  clear ho h3 h7
  have cO : ∀ w, Calls Tryd.prog 29 #[.int .i64 ((k : Int) + 1)] w fun e w' => e = .returned (.int .u32 oc) ∧ w = w' := fun w => HO.out ▸ opcode_any _ w
  have c3 : ∀ w, Calls Tryd.prog 30 #[.int .i64 ((k : Int) + 1)] w fun e w' => e = .returned (.int .u32 g3) ∧ Below w.heap.size w w' := fun w => H3.out ▸ f3_any k w HK.out
  have c7 : ∀ w, Calls Tryd.prog 31 #[.int .i64 ((k : Int) + 1)] w fun e w' => e = .returned (.int .u32 g7) ∧ Below w.heap.size w w' := fun w => H7.out ▸ f7_any k w HK.out
  unfold Inst.val
  go_enter Tryd.func15, Tryd.ntmps15
  go_wp2_with (first | (go_at_call 22; refine (form_f k 105 .i HK.out HF.out rfl _).mono ?_; rintro e w' ⟨rfl, rfl⟩) | (go_at_call 29; refine (cO _).mono ?_; rintro e w' ⟨rfl, rfl⟩) | (go_at_call 30; refine (c3 _).mono ?_; rintro e wa ⟨rfl, hba⟩; have ca : wa.heap[w.heap.size]? = some (.cells (Inst.mk (k + 1) rd rs1 0 imm false false).val 25 (0, 0)) := (hba.block _ (by simp)).trans (World.alloc_heap_new w _); obtain ⟨q0, q1, q2, q3, q4, q5, q6⟩ := cells_inst ca; simp only at q0 q1 q2 q3 q4 q5 q6) | (go_at_call 31; refine (c7 _).mono ?_; rintro e wb ⟨rfl, hbb⟩) | (go_at_call 23; refine (bits_p imm _ _ _ (by omega) (by omega) (by omega) (by omega) (by omega)).mono ?_; rintro e w' ⟨rfl, rfl⟩) | (go_at_call 25; refine (pow_p _ _ (by omega) (by omega)).mono ?_; rintro e w' ⟨rfl, rfl⟩))
  go_ret
  have b2 := ((Below.refl _ w).alloc (Nat.le_refl _) _).trans (hba.mono (by simp))
  refine ⟨ret_int ?_, b2⟩
  have t1 := T1.out.trans T9.out
  rw [HO.out, H3.out] at t1
  unfold encF
  rw [t1]
  simp only [putZ, if_true, if_false, Bool.false_eq_true]
  have s := S.out
  omega

set_option maxRecDepth 100000 in
set_option maxHeartbeats 4000000 in
theorem renc_shift (i : Inst) (w : World) (k : Nat) (hk : k < 59) (hf : formK k = .shift) (ho : i.op = k + 1) (h0 : 0 ≤ i.imm) (h1 : i.imm < 4294967296) (ok : okF .shift i = true) :
    Calls Tryd.prog 15 #[.agg i.val] w fun e w' => e = .returned (.int .u32 (encF .shift (bitsK k) i)) ∧ Below w.heap.size w w' := by
  obtain ⟨op, rd, rs1, rs2, imm, aq, rl⟩ := i
  rw [okF_iff] at ok
  simp only at ho h0 h1 ok
  subst ho
  obtain ⟨k1, k2, k3, k4, k5⟩ := ok
  obtain ⟨t1, t2, t3, t4, t5, t6, t7, t8⟩ := bits_parts k hk
  have t9 : bitsP k = opcZ (k + 1) + f3Z k * 4096 + f7Z k * 33554432 := by unfold bitsP; rw [hf]
  obtain ⟨rda, rdb⟩ := regB_t k1
  clear k1
  obtain ⟨rs1a, rs1b⟩ := regB_t k2
  clear k2
  obtain rfl := regB_f k3
  clear k3
  simp only [aZ, Bool.false_eq_true, false_or] at k5
  obtain ⟨rfl, rfl⟩ := k5
  clear t8
  obtain ⟨m2, m3⟩ := (within_iff _ _ _).1 k4
  clear k4
  have s := sgn_cases imm
  have S := Lib.hid s
  clear s
  have HK := Lib.hid hk
  have HF := Lib.hid hf
  have T1 := Lib.hid t1
  have T9 := Lib.hid t9
  clear hk hf t1 t9
  generalize ho : opcZ ((k : Int) + 1) = oc at t2 t3
  generalize h3 : f3Z k = g3 at t4 t5
  generalize h7 : f7Z k = g7 at t6 t7
  have HO := Lib.hid ho
  have H3 := Lib.hid h3
  have H7 := Lib.hid h7
  clear ho h3 h7
  have cO : ∀ w, Calls Tryd.prog 29 #[.int .i64 ((k : Int) + 1)] w fun e w' => e = .returned (.int .u32 oc) ∧ w = w' := fun w => HO.out ▸ opcode_any _ w
  have c3 : ∀ w, Calls Tryd.prog 30 #[.int .i64 ((k : Int) + 1)] w fun e w' => e = .returned (.int .u32 g3) ∧ Below w.heap.size w w' := fun w => H3.out ▸ f3_any k w HK.out
  have c7 : ∀ w, Calls Tryd.prog 31 #[.int .i64 ((k : Int) + 1)] w fun e w' => e = .returned (.int .u32 g7) ∧ Below w.heap.size w w' := fun w => H7.out ▸ f7_any k w HK.out
  unfold Inst.val
  go_enter Tryd.func15, Tryd.ntmps15
  go_wp2_with (first | (go_at_call 22; refine (form_f k 104 .shift HK.out HF.out rfl _).mono ?_; rintro e w' ⟨rfl, rfl⟩) | (go_at_call 29; refine (cO _).mono ?_; rintro e w' ⟨rfl, rfl⟩) | (go_at_call 30; refine (c3 _).mono ?_; rintro e wa ⟨rfl, hba⟩; have ca : wa.heap[w.heap.size]? = some (.cells (Inst.mk (k + 1) rd rs1 0 imm false false).val 25 (0, 0)) := (hba.block _ (by simp)).trans (World.alloc_heap_new w _); obtain ⟨q0, q1, q2, q3, q4, q5, q6⟩ := cells_inst ca; simp only at q0 q1 q2 q3 q4 q5 q6) | (go_at_call 31; refine (c7 _).mono ?_; rintro e wb ⟨rfl, hbb⟩) | (go_at_call 23; refine (bits_p imm _ _ _ (by omega) (by omega) (by omega) (by omega) (by omega)).mono ?_; rintro e w' ⟨rfl, rfl⟩) | (go_at_call 25; refine (pow_p _ _ (by omega) (by omega)).mono ?_; rintro e w' ⟨rfl, rfl⟩))
  go_ret
  have b2 := ((Below.refl _ w).alloc (Nat.le_refl _) _).trans (hba.mono (by simp))
  have b3 := b2.trans (hbb.mono b2.size)
  refine ⟨ret_int ?_, b3⟩
  have t1 := T1.out.trans T9.out
  rw [HO.out, H3.out, H7.out] at t1
  unfold encF
  rw [t1]
  simp only [putZ, if_true, if_false, Bool.false_eq_true]
  have s := S.out
  omega

set_option maxRecDepth 100000 in
set_option maxHeartbeats 4000000 in
theorem renc_r (i : Inst) (w : World) (k : Nat) (hk : k < 59) (hf : formK k = .r) (ho : i.op = k + 1) (h0 : 0 ≤ i.imm) (h1 : i.imm < 4294967296) (ok : okF .r i = true) :
    Calls Tryd.prog 15 #[.agg i.val] w fun e w' => e = .returned (.int .u32 (encF .r (bitsK k) i)) ∧ Below w.heap.size w w' := by
  obtain ⟨op, rd, rs1, rs2, imm, aq, rl⟩ := i
  rw [okF_iff] at ok
  simp only at ho h0 h1 ok
  subst ho
  obtain ⟨k1, k2, k3, k4, k5⟩ := ok
  obtain ⟨t1, t2, t3, t4, t5, t6, t7, t8⟩ := bits_parts k hk
  have t9 : bitsP k = opcZ (k + 1) + f3Z k * 4096 + f7Z k * 33554432 := by unfold bitsP; rw [hf]
  obtain ⟨rda, rdb⟩ := regB_t k1
  clear k1
  obtain ⟨rs1a, rs1b⟩ := regB_t k2
  clear k2
  obtain ⟨rs2a, rs2b⟩ := regB_t k3
  clear k3
  simp only [aZ, Bool.false_eq_true, false_or] at k5
  obtain ⟨rfl, rfl⟩ := k5
  clear t8
  obtain rfl : imm = 0 := by simpa [mayZ] using k4
  clear k4
  have HK := Lib.hid hk
  have HF := Lib.hid hf
  have T1 := Lib.hid t1
  have T9 := Lib.hid t9
  clear hk hf t1 t9
  generalize ho : opcZ ((k : Int) + 1) = oc at t2 t3
  generalize h3 : f3Z k = g3 at t4 t5
  generalize h7 : f7Z k = g7 at t6 t7
  have HO := Lib.hid ho
  have H3 := Lib.hid h3
  have H7 := Lib.hid h7
  clear ho h3 h7
  have cO : ∀ w, Calls Tryd.prog 29 #[.int .i64 ((k : Int) + 1)] w fun e w' => e = .returned (.int .u32 oc) ∧ w = w' := fun w => HO.out ▸ opcode_any _ w
  have c3 : ∀ w, Calls Tryd.prog 30 #[.int .i64 ((k : Int) + 1)] w fun e w' => e = .returned (.int .u32 g3) ∧ Below w.heap.size w w' := fun w => H3.out ▸ f3_any k w HK.out
  have c7 : ∀ w, Calls Tryd.prog 31 #[.int .i64 ((k : Int) + 1)] w fun e w' => e = .returned (.int .u32 g7) ∧ Below w.heap.size w w' := fun w => H7.out ▸ f7_any k w HK.out
  unfold Inst.val
  go_enter Tryd.func15, Tryd.ntmps15
  go_wp2_with (first | (go_at_call 22; refine (form_f k 114 .r HK.out HF.out rfl _).mono ?_; rintro e w' ⟨rfl, rfl⟩) | (go_at_call 29; refine (cO _).mono ?_; rintro e w' ⟨rfl, rfl⟩) | (go_at_call 30; refine (c3 _).mono ?_; rintro e wa ⟨rfl, hba⟩; have ca : wa.heap[w.heap.size]? = some (.cells (Inst.mk (k + 1) rd rs1 rs2 0 false false).val 25 (0, 0)) := (hba.block _ (by simp)).trans (World.alloc_heap_new w _); obtain ⟨q0, q1, q2, q3, q4, q5, q6⟩ := cells_inst ca; simp only at q0 q1 q2 q3 q4 q5 q6) | (go_at_call 31; refine (c7 _).mono ?_; rintro e wb ⟨rfl, hbb⟩) | (go_at_call 23; refine (bits_p imm _ _ _ (by omega) (by omega) (by omega) (by omega) (by omega)).mono ?_; rintro e w' ⟨rfl, rfl⟩) | (go_at_call 25; refine (pow_p _ _ (by omega) (by omega)).mono ?_; rintro e w' ⟨rfl, rfl⟩))
  go_ret
  have b2 := ((Below.refl _ w).alloc (Nat.le_refl _) _).trans (hba.mono (by simp))
  have b3 := b2.trans (hbb.mono b2.size)
  refine ⟨ret_int ?_, b3⟩
  have t1 := T1.out.trans T9.out
  rw [HO.out, H3.out, H7.out] at t1
  unfold encF
  rw [t1]
  simp only [putZ, if_true, if_false, Bool.false_eq_true]
  omega

set_option maxRecDepth 100000 in
set_option maxHeartbeats 4000000 in
theorem renc_fence (i : Inst) (w : World) (k : Nat) (hk : k < 59) (hf : formK k = .fence) (ho : i.op = k + 1) (h0 : 0 ≤ i.imm) (h1 : i.imm < 4294967296) (ok : okF .fence i = true) :
    Calls Tryd.prog 15 #[.agg i.val] w fun e w' => e = .returned (.int .u32 (encF .fence (bitsK k) i)) ∧ Below w.heap.size w w' := by
  obtain ⟨op, rd, rs1, rs2, imm, aq, rl⟩ := i
  rw [okF_iff] at ok
  simp only at ho h0 h1 ok
  subst ho
  obtain ⟨k1, k2, k3, k4, k5⟩ := ok
  obtain ⟨t1, t2, t3, t4, t5, t6, t7, t8⟩ := bits_parts k hk
  have t9 : bitsP k = opcZ (k + 1) + f3Z k * 4096 := by unfold bitsP; rw [hf]
  obtain rfl := regB_f k1
  clear k1
  obtain rfl := regB_f k2
  clear k2
  obtain rfl := regB_f k3
  clear k3
  simp only [aZ, Bool.false_eq_true, false_or] at k5
  obtain ⟨rfl, rfl⟩ := k5
  clear t8
  obtain ⟨m2, m3⟩ := (within_iff _ _ _).1 k4
  clear k4
  have s := sgn_cases imm
  have S := Lib.hid s
  clear s
  have HK := Lib.hid hk
  have HF := Lib.hid hf
  have T1 := Lib.hid t1
  have T9 := Lib.hid t9
  clear hk hf t1 t9
  generalize ho : opcZ ((k : Int) + 1) = oc at t2 t3
  generalize h3 : f3Z k = g3 at t4 t5
  generalize h7 : f7Z k = g7 at t6 t7
  have HO := Lib.hid ho
  have H3 := Lib.hid h3
  have H7 := Lib.hid h7
  clear ho h3 h7
  have cO : ∀ w, Calls Tryd.prog 29 #[.int .i64 ((k : Int) + 1)] w fun e w' => e = .returned (.int .u32 oc) ∧ w = w' := fun w => HO.out ▸ opcode_any _ w
  have c3 : ∀ w, Calls Tryd.prog 30 #[.int .i64 ((k : Int) + 1)] w fun e w' => e = .returned (.int .u32 g3) ∧ Below w.heap.size w w' := fun w => H3.out ▸ f3_any k w HK.out
  have c7 : ∀ w, Calls Tryd.prog 31 #[.int .i64 ((k : Int) + 1)] w fun e w' => e = .returned (.int .u32 g7) ∧ Below w.heap.size w w' := fun w => H7.out ▸ f7_any k w HK.out
  unfold Inst.val
  go_enter Tryd.func15, Tryd.ntmps15
  go_wp2_with (first | (go_at_call 22; refine (form_f k 102 .fence HK.out HF.out rfl _).mono ?_; rintro e w' ⟨rfl, rfl⟩) | (go_at_call 29; refine (cO _).mono ?_; rintro e w' ⟨rfl, rfl⟩) | (go_at_call 30; refine (c3 _).mono ?_; rintro e wa ⟨rfl, hba⟩; have ca : wa.heap[w.heap.size]? = some (.cells (Inst.mk (k + 1) 0 0 0 imm false false).val 25 (0, 0)) := (hba.block _ (by simp)).trans (World.alloc_heap_new w _); obtain ⟨q0, q1, q2, q3, q4, q5, q6⟩ := cells_inst ca; simp only at q0 q1 q2 q3 q4 q5 q6) | (go_at_call 31; refine (c7 _).mono ?_; rintro e wb ⟨rfl, hbb⟩) | (go_at_call 23; refine (bits_p imm _ _ _ (by omega) (by omega) (by omega) (by omega) (by omega)).mono ?_; rintro e w' ⟨rfl, rfl⟩) | (go_at_call 25; refine (pow_p _ _ (by omega) (by omega)).mono ?_; rintro e w' ⟨rfl, rfl⟩))
  go_ret
  have b2 := ((Below.refl _ w).alloc (Nat.le_refl _) _).trans (hba.mono (by simp))
  refine ⟨ret_int ?_, b2⟩
  have t1 := T1.out.trans T9.out
  rw [HO.out, H3.out] at t1
  unfold encF
  rw [t1]
  simp only [putZ, if_true, if_false, Bool.false_eq_true]
  have s := S.out
  omega

set_option maxRecDepth 100000 in
set_option maxHeartbeats 4000000 in
theorem renc_all (i : Inst) (w : World) (k : Nat) (hk : k < 59) (hf : formK k = .all) (ho : i.op = k + 1) (h0 : 0 ≤ i.imm) (h1 : i.imm < 4294967296) (ok : okF .all i = true) :
    Calls Tryd.prog 15 #[.agg i.val] w fun e w' => e = .returned (.int .u32 (encF .all (bitsK k) i)) ∧ Below w.heap.size w w' := by
  obtain ⟨op, rd, rs1, rs2, imm, aq, rl⟩ := i
  rw [okF_iff] at ok
  simp only at ho h0 h1 ok
  subst ho
  obtain ⟨k1, k2, k3, k4, k5⟩ := ok
  obtain ⟨t1, t2, t3, t4, t5, t6, t7, t8⟩ := bits_parts k hk
  have t9 : bitsP k = opcZ (k + 1) + f3Z k * 4096 + f7Z k * 33554432 := by unfold bitsP; rw [hf]
  obtain rfl := regB_f k1
  clear k1
  obtain rfl := regB_f k2
  clear k2
  obtain rfl := regB_f k3
  clear k3
  simp only [aZ, Bool.false_eq_true, false_or] at k5
  obtain ⟨rfl, rfl⟩ := k5
  clear t8
  obtain rfl : imm = 0 := by simpa [mayZ] using k4
  clear k4
  have HK := Lib.hid hk
  have HF := Lib.hid hf
  have T1 := Lib.hid t1
  have T9 := Lib.hid t9
  clear hk hf t1 t9
  generalize ho : opcZ ((k : Int) + 1) = oc at t2 t3
  generalize h3 : f3Z k = g3 at t4 t5
  generalize h7 : f7Z k = g7 at t6 t7
  have HO := Lib.hid ho
  have H3 := Lib.hid h3
  have H7 := Lib.hid h7
  clear ho h3 h7
  have cO : ∀ w, Calls Tryd.prog 29 #[.int .i64 ((k : Int) + 1)] w fun e w' => e = .returned (.int .u32 oc) ∧ w = w' := fun w => HO.out ▸ opcode_any _ w
  have c3 : ∀ w, Calls Tryd.prog 30 #[.int .i64 ((k : Int) + 1)] w fun e w' => e = .returned (.int .u32 g3) ∧ Below w.heap.size w w' := fun w => H3.out ▸ f3_any k w HK.out
  have c7 : ∀ w, Calls Tryd.prog 31 #[.int .i64 ((k : Int) + 1)] w fun e w' => e = .returned (.int .u32 g7) ∧ Below w.heap.size w w' := fun w => H7.out ▸ f7_any k w HK.out
  unfold Inst.val
  go_enter Tryd.func15, Tryd.ntmps15
  go_wp2_with (first | (go_at_call 22; refine (form_f k 101 .all HK.out HF.out rfl _).mono ?_; rintro e w' ⟨rfl, rfl⟩) | (go_at_call 29; refine (cO _).mono ?_; rintro e w' ⟨rfl, rfl⟩) | (go_at_call 30; refine (c3 _).mono ?_; rintro e wa ⟨rfl, hba⟩; have ca : wa.heap[w.heap.size]? = some (.cells (Inst.mk (k + 1) 0 0 0 0 false false).val 25 (0, 0)) := (hba.block _ (by simp)).trans (World.alloc_heap_new w _); obtain ⟨q0, q1, q2, q3, q4, q5, q6⟩ := cells_inst ca; simp only at q0 q1 q2 q3 q4 q5 q6) | (go_at_call 31; refine (c7 _).mono ?_; rintro e wb ⟨rfl, hbb⟩) | (go_at_call 23; refine (bits_p imm _ _ _ (by omega) (by omega) (by omega) (by omega) (by omega)).mono ?_; rintro e w' ⟨rfl, rfl⟩) | (go_at_call 25; refine (pow_p _ _ (by omega) (by omega)).mono ?_; rintro e w' ⟨rfl, rfl⟩))
  go_ret
  have b2 := ((Below.refl _ w).alloc (Nat.le_refl _) _).trans (hba.mono (by simp))
  have b3 := b2.trans (hbb.mono b2.size)
  refine ⟨ret_int ?_, b3⟩
  have t1 := T1.out.trans T9.out
  rw [HO.out, H3.out, H7.out] at t1
  unfold encF
  rw [t1]
  simp only [putZ, if_true, if_false, Bool.false_eq_true]
  omega

set_option maxRecDepth 100000 in
set_option maxHeartbeats 4000000 in
theorem renc_lr (i : Inst) (w : World) (k : Nat) (hk : k < 59) (hf : formK k = .lr) (ho : i.op = k + 1) (h0 : 0 ≤ i.imm) (h1 : i.imm < 4294967296) (ok : okF .lr i = true) :
    Calls Tryd.prog 15 #[.agg i.val] w fun e w' => e = .returned (.int .u32 (encF .lr (bitsK k) i)) ∧ Below w.heap.size w w' := by
  obtain ⟨op, rd, rs1, rs2, imm, aq, rl⟩ := i
  rw [okF_iff] at ok
  simp only at ho h0 h1 ok
  subst ho
  obtain ⟨k1, k2, k3, k4, k5⟩ := ok
  obtain ⟨t1, t2, t3, t4, t5, t6, t7, t8⟩ := bits_parts k hk
  have t9 : bitsP k = opcZ (k + 1) + f3Z k * 4096 + f7Z k * 33554432 := by unfold bitsP; rw [hf]
  obtain ⟨rda, rdb⟩ := regB_t k1
  clear k1
  obtain ⟨rs1a, rs1b⟩ := regB_t k2
  clear k2
  obtain rfl := regB_f k3
  clear k3
  clear k5
  replace t8 := t8 (by rw [hf]; simp)
  obtain rfl : imm = 0 := by simpa [mayZ] using k4
  clear k4
  have HK := Lib.hid hk
  have HF := Lib.hid hf
  have T1 := Lib.hid t1
  have T9 := Lib.hid t9
  clear hk hf t1 t9
  generalize ho : opcZ ((k : Int) + 1) = oc at t2 t3
  generalize h3 : f3Z k = g3 at t4 t5
  generalize h7 : f7Z k = g7 at t6 t7 t8
  have HO := Lib.hid ho
  have H3 := Lib.hid h3
  have H7 := Lib.hid h7
  clear ho h3 h7
  have cO : ∀ w, Calls Tryd.prog 29 #[.int .i64 ((k : Int) + 1)] w fun e w' => e = .returned (.int .u32 oc) ∧ w = w' := fun w => HO.out ▸ opcode_any _ w
  have c3 : ∀ w, Calls Tryd.prog 30 #[.int .i64 ((k : Int) + 1)] w fun e w' => e = .returned (.int .u32 g3) ∧ Below w.heap.size w w' := fun w => H3.out ▸ f3_any k w HK.out
  have c7 : ∀ w, Calls Tryd.prog 31 #[.int .i64 ((k : Int) + 1)] w fun e w' => e = .returned (.int .u32 g7) ∧ Below w.heap.size w w' := fun w => H7.out ▸ f7_any k w HK.out
  unfold Inst.val
  go_enter Tryd.func15, Tryd.ntmps15
  go_wp2_with (first | (go_at_call 22; refine (form_f k 113 .lr HK.out HF.out rfl _).mono ?_; rintro e w' ⟨rfl, rfl⟩) | (go_at_call 29; refine (cO _).mono ?_; rintro e w' ⟨rfl, rfl⟩) | (go_at_call 30; refine (c3 _).mono ?_; rintro e wa ⟨rfl, hba⟩; have ca : wa.heap[w.heap.size]? = some (.cells (Inst.mk (k + 1) rd rs1 0 0 aq rl).val 25 (0, 0)) := (hba.block _ (by simp)).trans (World.alloc_heap_new w _); obtain ⟨q0, q1, q2, q3, q4, q5, q6⟩ := cells_inst ca; simp only at q0 q1 q2 q3 q4 q5 q6) | (go_at_call 31; refine (c7 _).mono ?_; rintro e wb ⟨rfl, hbb⟩) | (go_at_call 23; refine (bits_p imm _ _ _ (by omega) (by omega) (by omega) (by omega) (by omega)).mono ?_; rintro e w' ⟨rfl, rfl⟩) | (go_at_call 25; refine (pow_p _ _ (by omega) (by omega)).mono ?_; rintro e w' ⟨rfl, rfl⟩))
  all_goals
    go_ret
    have b2 := ((Below.refl _ w).alloc (Nat.le_refl _) _).trans (hba.mono (by simp))
    have b3 := b2.trans (hbb.mono b2.size)
    refine ⟨ret_int ?_, b3⟩
    have t1 := T1.out.trans T9.out
    rw [HO.out, H3.out, H7.out] at t1
    unfold encF
    rw [t1]
    simp only [putZ, *, if_true, if_false, Bool.false_eq_true]
    omega

set_option maxRecDepth 100000 in
set_option maxHeartbeats 4000000 in
theorem renc_a (i : Inst) (w : World) (k : Nat) (hk : k < 59) (hf : formK k = .a) (ho : i.op = k + 1) (h0 : 0 ≤ i.imm) (h1 : i.imm < 4294967296) (ok : okF .a i = true) :
    Calls Tryd.prog 15 #[.agg i.val] w fun e w' => e = .returned (.int .u32 (encF .a (bitsK k) i)) ∧ Below w.heap.size w w' := by
  obtain ⟨op, rd, rs1, rs2, imm, aq, rl⟩ := i
  rw [okF_iff] at ok
  simp only at ho h0 h1 ok
  subst ho
  obtain ⟨k1, k2, k3, k4, k5⟩ := ok
  obtain ⟨t1, t2, t3, t4, t5, t6, t7, t8⟩ := bits_parts k hk
  have t9 : bitsP k = opcZ (k + 1) + f3Z k * 4096 + f7Z k * 33554432 := by unfold bitsP; rw [hf]
  obtain ⟨rda, rdb⟩ := regB_t k1
  clear k1
  obtain ⟨rs1a, rs1b⟩ := regB_t k2
  clear k2
  obtain ⟨rs2a, rs2b⟩ := regB_t k3
  clear k3
  clear k5
  replace t8 := t8 (by rw [hf]; simp)
  obtain rfl : imm = 0 := by simpa [mayZ] using k4
  clear k4
  have HK := Lib.hid hk
  have HF := Lib.hid hf
  have T1 := Lib.hid t1
  have T9 := Lib.hid t9
  clear hk hf t1 t9
  generalize ho : opcZ ((k : Int) + 1) = oc at t2 t3
  generalize h3 : f3Z k = g3 at t4 t5
  generalize h7 : f7Z k = g7 at t6 t7 t8
  have HO := Lib.hid ho
  have H3 := Lib.hid h3
  have H7 := Lib.hid h7
  clear ho h3 h7
  have cO : ∀ w, Calls Tryd.prog 29 #[.int .i64 ((k : Int) + 1)] w fun e w' => e = .returned (.int .u32 oc) ∧ w = w' := fun w => HO.out ▸ opcode_any _ w
  have c3 : ∀ w, Calls Tryd.prog 30 #[.int .i64 ((k : Int) + 1)] w fun e w' => e = .returned (.int .u32 g3) ∧ Below w.heap.size w w' := fun w => H3.out ▸ f3_any k w HK.out
  have c7 : ∀ w, Calls Tryd.prog 31 #[.int .i64 ((k : Int) + 1)] w fun e w' => e = .returned (.int .u32 g7) ∧ Below w.heap.size w w' := fun w => H7.out ▸ f7_any k w HK.out
  unfold Inst.val
  go_enter Tryd.func15, Tryd.ntmps15
  go_wp2_with (first | (go_at_call 22; refine (form_f k 97 .a HK.out HF.out rfl _).mono ?_; rintro e w' ⟨rfl, rfl⟩) | (go_at_call 29; refine (cO _).mono ?_; rintro e w' ⟨rfl, rfl⟩) | (go_at_call 30; refine (c3 _).mono ?_; rintro e wa ⟨rfl, hba⟩; have ca : wa.heap[w.heap.size]? = some (.cells (Inst.mk (k + 1) rd rs1 rs2 0 aq rl).val 25 (0, 0)) := (hba.block _ (by simp)).trans (World.alloc_heap_new w _); obtain ⟨q0, q1, q2, q3, q4, q5, q6⟩ := cells_inst ca; simp only at q0 q1 q2 q3 q4 q5 q6) | (go_at_call 31; refine (c7 _).mono ?_; rintro e wb ⟨rfl, hbb⟩) | (go_at_call 23; refine (bits_p imm _ _ _ (by omega) (by omega) (by omega) (by omega) (by omega)).mono ?_; rintro e w' ⟨rfl, rfl⟩) | (go_at_call 25; refine (pow_p _ _ (by omega) (by omega)).mono ?_; rintro e w' ⟨rfl, rfl⟩))
  all_goals
    go_ret
    have b2 := ((Below.refl _ w).alloc (Nat.le_refl _) _).trans (hba.mono (by simp))
    have b3 := b2.trans (hbb.mono b2.size)
    refine ⟨ret_int ?_, b3⟩
    have t1 := T1.out.trans T9.out
    rw [HO.out, H3.out, H7.out] at t1
    unfold encF
    rw [t1]
    simp only [putZ, *, if_true, if_false, Bool.false_eq_true]
    omega

set_option maxRecDepth 100000 in
set_option maxHeartbeats 4000000 in
theorem renc_csr (i : Inst) (w : World) (k : Nat) (hk : k < 59) (hf : formK k = .csr) (ho : i.op = k + 1) (h0 : 0 ≤ i.imm) (h1 : i.imm < 4294967296) (ok : okF .csr i = true) :
    Calls Tryd.prog 15 #[.agg i.val] w fun e w' => e = .returned (.int .u32 (encF .csr (bitsK k) i)) ∧ Below w.heap.size w w' := by
  obtain ⟨op, rd, rs1, rs2, imm, aq, rl⟩ := i
  rw [okF_iff] at ok
  simp only at ho h0 h1 ok
  subst ho
  obtain ⟨k1, k2, k3, k4, k5⟩ := ok
  obtain ⟨t1, t2, t3, t4, t5, t6, t7, t8⟩ := bits_parts k hk
  have t9 : bitsP k = opcZ (k + 1) + f3Z k * 4096 + 4047503360 := by unfold bitsP; rw [hf]
  obtain ⟨rda, rdb⟩ := regB_t k1
  clear k1
  obtain rfl := regB_f k2
  clear k2
  obtain rfl := regB_f k3
  clear k3
  simp only [aZ, Bool.false_eq_true, false_or] at k5
  obtain ⟨rfl, rfl⟩ := k5
  clear t8
  obtain rfl : imm = 0 := by simpa [mayZ] using k4
  clear k4
  have HK := Lib.hid hk
  have HF := Lib.hid hf
  have T1 := Lib.hid t1
  have T9 := Lib.hid t9
  clear hk hf t1 t9
  generalize ho : opcZ ((k : Int) + 1) = oc at t2 t3
  generalize h3 : f3Z k = g3 at t4 t5
  generalize h7 : f7Z k = g7 at t6 t7
  have HO := Lib.hid ho
  have H3 := Lib.hid h3
  have H7 := Lib.hid h7
  clear ho h3 h7
  have cO : ∀ w, Calls Tryd.prog 29 #[.int .i64 ((k : Int) + 1)] w fun e w' => e = .returned (.int .u32 oc) ∧ w = w' := fun w => HO.out ▸ opcode_any _ w
  have c3 : ∀ w, Calls Tryd.prog 30 #[.int .i64 ((k : Int) + 1)] w fun e w' => e = .returned (.int .u32 g3) ∧ Below w.heap.size w w' := fun w => H3.out ▸ f3_any k w HK.out
  have c7 : ∀ w, Calls Tryd.prog 31 #[.int .i64 ((k : Int) + 1)] w fun e w' => e = .returned (.int .u32 g7) ∧ Below w.heap.size w w' := fun w => H7.out ▸ f7_any k w HK.out
  unfold Inst.val
  go_enter Tryd.func15, Tryd.ntmps15
  go_wp2_with (first | (go_at_call 22; refine (form_f k 99 .csr HK.out HF.out rfl _).mono ?_; rintro e w' ⟨rfl, rfl⟩) | (go_at_call 29; refine (cO _).mono ?_; rintro e w' ⟨rfl, rfl⟩) | (go_at_call 30; refine (c3 _).mono ?_; rintro e wa ⟨rfl, hba⟩; have ca : wa.heap[w.heap.size]? = some (.cells (Inst.mk (k + 1) rd 0 0 0 false false).val 25 (0, 0)) := (hba.block _ (by simp)).trans (World.alloc_heap_new w _); obtain ⟨q0, q1, q2, q3, q4, q5, q6⟩ := cells_inst ca; simp only at q0 q1 q2 q3 q4 q5 q6) | (go_at_call 31; refine (c7 _).mono ?_; rintro e wb ⟨rfl, hbb⟩) | (go_at_call 23; refine (bits_p imm _ _ _ (by omega) (by omega) (by omega) (by omega) (by omega)).mono ?_; rintro e w' ⟨rfl, rfl⟩) | (go_at_call 25; refine (pow_p _ _ (by omega) (by omega)).mono ?_; rintro e w' ⟨rfl, rfl⟩))
  go_ret
  have b2 := ((Below.refl _ w).alloc (Nat.le_refl _) _).trans (hba.mono (by simp))
  refine ⟨ret_int ?_, b2⟩
  have t1 := T1.out.trans T9.out
  rw [HO.out, H3.out] at t1
  unfold encF
  rw [t1]
  simp only [putZ, if_true, if_false, Bool.false_eq_true]
  omega
end Go.Proofs.YtamilahkdinjkaaDoor
