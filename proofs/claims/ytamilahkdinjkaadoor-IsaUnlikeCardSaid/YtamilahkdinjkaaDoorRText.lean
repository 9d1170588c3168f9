/-
  ref03.Text, form by form.
-/
import Derived.Test.YtamilahkdinjkaaDoorTextT
import Derived.Test.YtamilahkdinjkaaDoorLName
namespace Go.Proofs.YtamilahkdinjkaaDoor
set_option linter.unusedVariables false
set_option linter.unusedSimpArgs false
open Go.RowKit Go.Shelf Go.Sort Go.Lib
attribute [local go_sem] Oper.semAt_some

theorem reg_i (n : Int) (w : World) (h0 : 0 ≤ n) (h1 : n < 32) : Calls Tryd.prog 34 #[.int .i64 n] w fun e w' => e = .returned (.string (bs (xL n))) ∧ w' = w :=
  (reg_any n w h0 h1).mono fun e w' ⟨he, hw⟩ => ⟨he, hw.symm⟩
theorem rname_k (k : Nat) (w : World) (hk : k < 59) : Calls Tryd.prog 17 #[.int .i64 ((k : Int) + 1)] w fun e w' => e = .returned (.string (bs (nmL k))) ∧ Below w.heap.size w w' := by
  refine (refName_any _ w).mono ?_
  rintro e w' ⟨hb, ⟨j, hj, ho, rfl⟩ | ⟨ho, rfl⟩⟩
  · obtain rfl : j = k := by omega
    exact ⟨rfl, hb⟩
  · omega
theorem fmt_i (i : Inst) (n : Int) (hn : n = sgn i.imm) (w : World) (hP : TabP w) (h0 : -9223372036854775808 ≤ n) (h1 : n ≤ 9223372036854775807) :
    Calls Tryd.prog 33 #[.int .i64 n, .int .i64 10] w fun e w' => e = .returned (.string (bs (mL i))) ∧ Below w.heap.size w w' := by
  subst hn
  exact fmt_any _ w hP h0 h1
theorem dec_ne (n : Nat) : Lib.decDigits n ≠ [] := by
  rw [Lib.decDigits]
  split <;> simp
theorem itoa_ne (n : Int) : Lib.itoa n ≠ [] := by
  unfold Lib.itoa
  split
  · simp
  · exact dec_ne _

set_option maxRecDepth 100000 in
set_option maxHeartbeats 4000000 in
theorem rtext_u (rd rs1 rs2 imm : Int) (w : World) (hP : TabP w) (h0 : 0 ≤ imm) (h1 : imm < 4294967296) (k : Nat) (hk : k < 59) (hf : formK k = .u) (ok : okF .u (Inst.mk (k + 1) rd rs1 rs2 imm false false) = true) :
    Calls Tryd.prog 19 #[.agg (Inst.mk (k + 1) rd rs1 rs2 imm false false).val] w fun e w' => e = .returned (.string (bs (textL k (Inst.mk (k + 1) rd rs1 rs2 imm false false)))) ∧ Below w.heap.size w w' := by
  rw [okF_iff] at ok
  simp only at ok
  obtain ⟨k1, k2, k3, k4, k5⟩ := ok
  have r0 := regB_b k1
  have r1 := regB_b k2
  have r2 := regB_b k3
  clear k1 k2 k3 k4 k5
  have nn := nmL_len k hk
  have a0 := xL_len rd r0.1 r0.2
  have a1 := xL_len rs1 r1.1 r1.2
  have a2 := xL_len rs2 r2.1 r2.2
  have am := mL_len (Inst.mk (k + 1) rd rs1 rs2 imm false false) h0 h1
  have au := dec_len (imm / 4096).toNat (by omega)
  have htx : textL k (Inst.mk (k + 1) rd rs1 rs2 imm false false) = nmL k ++ sufL false false ++ endL (toldL .u (Inst.mk (k + 1) rd rs1 rs2 imm false false)) := by unfold textL; rw [hf]
  obtain ⟨L0, hL0⟩ : ∃ L, nmL k ++ [32] = L := ⟨_, rfl⟩
  have n0 : L0.length ≤ 9 := by rw [← hL0]; simp only [List.length_append, List.length_cons, List.length_nil]; omega
  have hs0 : ∀ W, (Op.stringOp .add (bs (nmL k)) (⟨#[32]⟩)).run Tryd.prog W = .ok (.string (bs L0)) W := fun W => hL0 ▸ add_bs (a := nmL k) (b := [32]) (by (try simp only [List.length_cons, List.length_nil]); omega) W
  obtain ⟨L1, hL1⟩ : ∃ L, L0 ++ xL rd = L := ⟨_, rfl⟩
  have n1 : L1.length ≤ 31 := by rw [← hL1]; simp only [List.length_append, List.length_cons, List.length_nil]; omega
  have hs1 : ∀ W, (Op.stringOp .add (bs L0) (bs (xL rd))).run Tryd.prog W = .ok (.string (bs L1)) W := fun W => hL1 ▸ add_bs (a := L0) (b := xL rd) (by (try simp only [List.length_cons, List.length_nil]); omega) W
  obtain ⟨L2, hL2⟩ : ∃ L, L1 ++ [44, 32] = L := ⟨_, rfl⟩
  have n2 : L2.length ≤ 33 := by rw [← hL2]; simp only [List.length_append, List.length_cons, List.length_nil]; omega
  have hs2 : ∀ W, (Op.stringOp .add (bs L1) (⟨#[44, 32]⟩)).run Tryd.prog W = .ok (.string (bs L2)) W := fun W => hL2 ▸ add_bs (a := L1) (b := [44, 32]) (by (try simp only [List.length_cons, List.length_nil]); omega) W
  obtain ⟨L3, hL3⟩ : ∃ L, L2 ++ Lib.decDigits (imm / 4096).toNat = L := ⟨_, rfl⟩
  have n3 : L3.length ≤ 54 := by rw [← hL3]; simp only [List.length_append, List.length_cons, List.length_nil]; omega
  have hs3 : ∀ W, (Op.stringOp .add (bs L2) (bs (Lib.decDigits (imm / 4096).toNat))).run Tryd.prog W = .ok (.string (bs L3)) W := fun W => hL3 ▸ add_bs (a := L2) (b := Lib.decDigits (imm / 4096).toNat) (by (try simp only [List.length_cons, List.length_nil]); omega) W
  have hfin : nmL k ++ sufL false false ++ endL (toldL .u (Inst.mk (k + 1) rd rs1 rs2 imm false false)) = L3 := by
    have hm := itoa_ne (sgn imm)
    rw [← hL3, ← hL2, ← hL1, ← hL0]
    simp [sufL, endL, toldL, join2, join3, xL, mL, hm]
  rw [htx, hfin]
  have hs : -9223372036854775808 ≤ sgn imm ∧ sgn imm ≤ 9223372036854775807 := by unfold sgn; split <;> omega
  have CN := Lib.hid (fun W => rname_k k W hk)
  have CF := Lib.hid (fun W hP => fmt_i (Inst.mk (k + 1) rd rs1 rs2 imm false false) (sgn imm) rfl W hP hs.1 hs.2)
  have CU := Lib.hid (fun W hP => (Lib.itoa_nonneg (imm / 4096).toNat) ▸ fmt_any ((imm / 4096).toNat : Int) W hP (by omega) (by omega))
  have hu : ((imm / 4096).toNat : Int) = imm / 4096 := by omega
  rw [hu] at CU
  have HK := Lib.hid hk
  have HF := Lib.hid hf
  have HP := Lib.hid hP
  clear hk hf hP hs htx hfin a0 a1 a2 am au nn hL0 n0 hL1 n1 hL2 n2 hL3 n3
  generalize mL (Inst.mk (k + 1) rd rs1 rs2 imm false false) = M at *
  unfold Inst.val
  go_enter Tryd.func19, Tryd.ntmps19
  go_upto_region 10 with (first | (go_at_call 17; refine (CN.out _).mono ?_; rintro e w1 ⟨rfl, hb1⟩; have hi1 : w1.heap[w.heap.size]? = some (.cells (Inst.mk (k + 1) rd rs1 rs2 imm false false).val 25 (0, 0)) := (hb1.block _ (by simp)).trans (World.alloc_heap_new w _); have hz1 : w.heap.size < w1.heap.size := (by have z := hb1.size; rw [World.size_alloc] at z; exact z); obtain ⟨q0, q1, q2, q3, q4, q5, q6⟩ := cells_inst hi1; simp only at q0 q1 q2 q3 q4 q5 q6) | (go_at_call 28; refine (signed_ref _ _ h0 h1).mono ?_; rintro e w' ⟨rfl, rfl⟩) | (go_at_call 33; refine (CF.out _ ?_).mono ?_; exact (HP.out.below ((Below.refl _ _).alloc (Nat.le_refl _) _)).below hb1; rintro e w2 ⟨rfl, hb2⟩; have hi2 : w2.heap[w.heap.size]? = some (.cells (Inst.mk (k + 1) rd rs1 rs2 imm false false).val 25 (0, 0)) := (hb2.block _ hz1).trans hi1; obtain ⟨s0, s1, s2, s3, s4, s5, s6⟩ := cells_inst hi2; simp only at s0 s1 s2 s3 s4 s5 s6; have hp2 : TabP w2 := ((HP.out.below ((Below.refl _ _).alloc (Nat.le_refl _) _)).below hb1).below hb2))
  go_quiet (first | (go_at_call 34; exact Calls.quiet_of_same (reg_i rd _ r0.1 r0.2)) | (go_at_call 34; exact Calls.quiet_of_same (reg_i rs1 _ r1.1 r1.2)) | (go_at_call 34; exact Calls.quiet_of_same (reg_i rs2 _ r2.1 r2.2)))
  go_wp2_with (first | (go_at_call 22; refine (form_f k 117 .u HK.out HF.out rfl _).mono ?_; rintro e w' ⟨rfl, rfl⟩) | (go_at_call 33; refine (CU.out _ ?_).mono ?_; exact hp2; rintro e w3 ⟨rfl, hb3⟩))
  go_ret
  have b1 : Below w.heap.size w w1 := ((Below.refl _ w).alloc (Nat.le_refl _) _).trans (hb1.mono (by simp))
  have b2 : Below w.heap.size w w2 := b1.trans (hb2.mono (Nat.le_of_lt hz1))
  have b3 : ∀ q, Below w.heap.size w (w2.drewN q) := fun q => ⟨b2.os, b2.tape, b2.output, b2.size, b2.block⟩
  exact ⟨rfl, (b3 _).trans (hb3.mono (Nat.le_trans (Nat.le_of_lt hz1) hb2.size))⟩

set_option maxRecDepth 100000 in
set_option maxHeartbeats 4000000 in
theorem rtext_j (rd rs1 rs2 imm : Int) (w : World) (hP : TabP w) (h0 : 0 ≤ imm) (h1 : imm < 4294967296) (k : Nat) (hk : k < 59) (hf : formK k = .j) (ok : okF .j (Inst.mk (k + 1) rd rs1 rs2 imm false false) = true) :
    Calls Tryd.prog 19 #[.agg (Inst.mk (k + 1) rd rs1 rs2 imm false false).val] w fun e w' => e = .returned (.string (bs (textL k (Inst.mk (k + 1) rd rs1 rs2 imm false false)))) ∧ Below w.heap.size w w' := by
  rw [okF_iff] at ok
  simp only at ok
  obtain ⟨k1, k2, k3, k4, k5⟩ := ok
  have r0 := regB_b k1
  have r1 := regB_b k2
  have r2 := regB_b k3
  clear k1 k2 k3 k4 k5
  have nn := nmL_len k hk
  have a0 := xL_len rd r0.1 r0.2
  have a1 := xL_len rs1 r1.1 r1.2
  have a2 := xL_len rs2 r2.1 r2.2
  have am := mL_len (Inst.mk (k + 1) rd rs1 rs2 imm false false) h0 h1
  have au := dec_len (imm / 4096).toNat (by omega)
  have htx : textL k (Inst.mk (k + 1) rd rs1 rs2 imm false false) = nmL k ++ sufL false false ++ endL (toldL .j (Inst.mk (k + 1) rd rs1 rs2 imm false false)) := by unfold textL; rw [hf]
  obtain ⟨L0, hL0⟩ : ∃ L, nmL k ++ [32] = L := ⟨_, rfl⟩
  have n0 : L0.length ≤ 9 := by rw [← hL0]; simp only [List.length_append, List.length_cons, List.length_nil]; omega
  have hs0 : ∀ W, (Op.stringOp .add (bs (nmL k)) (⟨#[32]⟩)).run Tryd.prog W = .ok (.string (bs L0)) W := fun W => hL0 ▸ add_bs (a := nmL k) (b := [32]) (by (try simp only [List.length_cons, List.length_nil]); omega) W
  obtain ⟨L1, hL1⟩ : ∃ L, L0 ++ xL rd = L := ⟨_, rfl⟩
  have n1 : L1.length ≤ 31 := by rw [← hL1]; simp only [List.length_append, List.length_cons, List.length_nil]; omega
  have hs1 : ∀ W, (Op.stringOp .add (bs L0) (bs (xL rd))).run Tryd.prog W = .ok (.string (bs L1)) W := fun W => hL1 ▸ add_bs (a := L0) (b := xL rd) (by (try simp only [List.length_cons, List.length_nil]); omega) W
  obtain ⟨L2, hL2⟩ : ∃ L, L1 ++ [44, 32] = L := ⟨_, rfl⟩
  have n2 : L2.length ≤ 33 := by rw [← hL2]; simp only [List.length_append, List.length_cons, List.length_nil]; omega
  have hs2 : ∀ W, (Op.stringOp .add (bs L1) (⟨#[44, 32]⟩)).run Tryd.prog W = .ok (.string (bs L2)) W := fun W => hL2 ▸ add_bs (a := L1) (b := [44, 32]) (by (try simp only [List.length_cons, List.length_nil]); omega) W
  obtain ⟨L3, hL3⟩ : ∃ L, L2 ++ mL (Inst.mk (k + 1) rd rs1 rs2 imm false false) = L := ⟨_, rfl⟩
  have n3 : L3.length ≤ 54 := by rw [← hL3]; simp only [List.length_append, List.length_cons, List.length_nil]; omega
  have hs3 : ∀ W, (Op.stringOp .add (bs L2) (bs (mL (Inst.mk (k + 1) rd rs1 rs2 imm false false)))).run Tryd.prog W = .ok (.string (bs L3)) W := fun W => hL3 ▸ add_bs (a := L2) (b := mL (Inst.mk (k + 1) rd rs1 rs2 imm false false)) (by (try simp only [List.length_cons, List.length_nil]); omega) W
  have hfin : nmL k ++ sufL false false ++ endL (toldL .j (Inst.mk (k + 1) rd rs1 rs2 imm false false)) = L3 := by
    have hm := itoa_ne (sgn imm)
    rw [← hL3, ← hL2, ← hL1, ← hL0]
    simp [sufL, endL, toldL, join2, join3, xL, mL, hm]
  rw [htx, hfin]
  have hs : -9223372036854775808 ≤ sgn imm ∧ sgn imm ≤ 9223372036854775807 := by unfold sgn; split <;> omega
  have CN := Lib.hid (fun W => rname_k k W hk)
  have CF := Lib.hid (fun W hP => fmt_i (Inst.mk (k + 1) rd rs1 rs2 imm false false) (sgn imm) rfl W hP hs.1 hs.2)
  have HK := Lib.hid hk
  have HF := Lib.hid hf
  have HP := Lib.hid hP
  clear hk hf hP hs htx hfin a0 a1 a2 am au nn hL0 n0 hL1 n1 hL2 n2 hL3 n3
  generalize mL (Inst.mk (k + 1) rd rs1 rs2 imm false false) = M at *
  unfold Inst.val
  go_enter Tryd.func19, Tryd.ntmps19
  go_upto_region 10 with (first | (go_at_call 17; refine (CN.out _).mono ?_; rintro e w1 ⟨rfl, hb1⟩; have hi1 : w1.heap[w.heap.size]? = some (.cells (Inst.mk (k + 1) rd rs1 rs2 imm false false).val 25 (0, 0)) := (hb1.block _ (by simp)).trans (World.alloc_heap_new w _); have hz1 : w.heap.size < w1.heap.size := (by have z := hb1.size; rw [World.size_alloc] at z; exact z); obtain ⟨q0, q1, q2, q3, q4, q5, q6⟩ := cells_inst hi1; simp only at q0 q1 q2 q3 q4 q5 q6) | (go_at_call 28; refine (signed_ref _ _ h0 h1).mono ?_; rintro e w' ⟨rfl, rfl⟩) | (go_at_call 33; refine (CF.out _ ?_).mono ?_; exact (HP.out.below ((Below.refl _ _).alloc (Nat.le_refl _) _)).below hb1; rintro e w2 ⟨rfl, hb2⟩; have hi2 : w2.heap[w.heap.size]? = some (.cells (Inst.mk (k + 1) rd rs1 rs2 imm false false).val 25 (0, 0)) := (hb2.block _ hz1).trans hi1; obtain ⟨s0, s1, s2, s3, s4, s5, s6⟩ := cells_inst hi2; simp only at s0 s1 s2 s3 s4 s5 s6; have hp2 : TabP w2 := ((HP.out.below ((Below.refl _ _).alloc (Nat.le_refl _) _)).below hb1).below hb2))
  go_quiet (first | (go_at_call 34; exact Calls.quiet_of_same (reg_i rd _ r0.1 r0.2)) | (go_at_call 34; exact Calls.quiet_of_same (reg_i rs1 _ r1.1 r1.2)) | (go_at_call 34; exact Calls.quiet_of_same (reg_i rs2 _ r2.1 r2.2)))
  go_wp2_with (first | (go_at_call 22; refine (form_f k 106 .j HK.out HF.out rfl _).mono ?_; rintro e w' ⟨rfl, rfl⟩))
  go_ret
  have b1 : Below w.heap.size w w1 := ((Below.refl _ w).alloc (Nat.le_refl _) _).trans (hb1.mono (by simp))
  have b2 : Below w.heap.size w w2 := b1.trans (hb2.mono (Nat.le_of_lt hz1))
  have b3 : ∀ q, Below w.heap.size w (w2.drewN q) := fun q => ⟨b2.os, b2.tape, b2.output, b2.size, b2.block⟩
  exact ⟨rfl, (b3 _)⟩

set_option maxRecDepth 100000 in
set_option maxHeartbeats 4000000 in
theorem rtext_i (rd rs1 rs2 imm : Int) (w : World) (hP : TabP w) (h0 : 0 ≤ imm) (h1 : imm < 4294967296) (k : Nat) (hk : k < 59) (hf : formK k = .i) (ok : okF .i (Inst.mk (k + 1) rd rs1 rs2 imm false false) = true) :
    Calls Tryd.prog 19 #[.agg (Inst.mk (k + 1) rd rs1 rs2 imm false false).val] w fun e w' => e = .returned (.string (bs (textL k (Inst.mk (k + 1) rd rs1 rs2 imm false false)))) ∧ Below w.heap.size w w' := by
  rw [okF_iff] at ok
  simp only at ok
  obtain ⟨k1, k2, k3, k4, k5⟩ := ok
  have r0 := regB_b k1
  have r1 := regB_b k2
  have r2 := regB_b k3
  clear k1 k2 k3 k4 k5
  have nn := nmL_len k hk
  have a0 := xL_len rd r0.1 r0.2
  have a1 := xL_len rs1 r1.1 r1.2
  have a2 := xL_len rs2 r2.1 r2.2
  have am := mL_len (Inst.mk (k + 1) rd rs1 rs2 imm false false) h0 h1
  have au := dec_len (imm / 4096).toNat (by omega)
  have htx : textL k (Inst.mk (k + 1) rd rs1 rs2 imm false false) = nmL k ++ sufL false false ++ endL (toldL .i (Inst.mk (k + 1) rd rs1 rs2 imm false false)) := by unfold textL; rw [hf]
  obtain ⟨L0, hL0⟩ : ∃ L, nmL k ++ [32] = L := ⟨_, rfl⟩
  have n0 : L0.length ≤ 9 := by rw [← hL0]; simp only [List.length_append, List.length_cons, List.length_nil]; omega
  have hs0 : ∀ W, (Op.stringOp .add (bs (nmL k)) (⟨#[32]⟩)).run Tryd.prog W = .ok (.string (bs L0)) W := fun W => hL0 ▸ add_bs (a := nmL k) (b := [32]) (by (try simp only [List.length_cons, List.length_nil]); omega) W
  obtain ⟨L1, hL1⟩ : ∃ L, L0 ++ xL rd = L := ⟨_, rfl⟩
  have n1 : L1.length ≤ 31 := by rw [← hL1]; simp only [List.length_append, List.length_cons, List.length_nil]; omega
  have hs1 : ∀ W, (Op.stringOp .add (bs L0) (bs (xL rd))).run Tryd.prog W = .ok (.string (bs L1)) W := fun W => hL1 ▸ add_bs (a := L0) (b := xL rd) (by (try simp only [List.length_cons, List.length_nil]); omega) W
  obtain ⟨L2, hL2⟩ : ∃ L, L1 ++ [44, 32] = L := ⟨_, rfl⟩
  have n2 : L2.length ≤ 33 := by rw [← hL2]; simp only [List.length_append, List.length_cons, List.length_nil]; omega
  have hs2 : ∀ W, (Op.stringOp .add (bs L1) (⟨#[44, 32]⟩)).run Tryd.prog W = .ok (.string (bs L2)) W := fun W => hL2 ▸ add_bs (a := L1) (b := [44, 32]) (by (try simp only [List.length_cons, List.length_nil]); omega) W
  obtain ⟨L3, hL3⟩ : ∃ L, L2 ++ xL rs1 = L := ⟨_, rfl⟩
  have n3 : L3.length ≤ 55 := by rw [← hL3]; simp only [List.length_append, List.length_cons, List.length_nil]; omega
  have hs3 : ∀ W, (Op.stringOp .add (bs L2) (bs (xL rs1))).run Tryd.prog W = .ok (.string (bs L3)) W := fun W => hL3 ▸ add_bs (a := L2) (b := xL rs1) (by (try simp only [List.length_cons, List.length_nil]); omega) W
  obtain ⟨L4, hL4⟩ : ∃ L, L3 ++ [44, 32] = L := ⟨_, rfl⟩
  have n4 : L4.length ≤ 57 := by rw [← hL4]; simp only [List.length_append, List.length_cons, List.length_nil]; omega
  have hs4 : ∀ W, (Op.stringOp .add (bs L3) (⟨#[44, 32]⟩)).run Tryd.prog W = .ok (.string (bs L4)) W := fun W => hL4 ▸ add_bs (a := L3) (b := [44, 32]) (by (try simp only [List.length_cons, List.length_nil]); omega) W
  obtain ⟨L5, hL5⟩ : ∃ L, L4 ++ mL (Inst.mk (k + 1) rd rs1 rs2 imm false false) = L := ⟨_, rfl⟩
  have n5 : L5.length ≤ 78 := by rw [← hL5]; simp only [List.length_append, List.length_cons, List.length_nil]; omega
  have hs5 : ∀ W, (Op.stringOp .add (bs L4) (bs (mL (Inst.mk (k + 1) rd rs1 rs2 imm false false)))).run Tryd.prog W = .ok (.string (bs L5)) W := fun W => hL5 ▸ add_bs (a := L4) (b := mL (Inst.mk (k + 1) rd rs1 rs2 imm false false)) (by (try simp only [List.length_cons, List.length_nil]); omega) W
  have hfin : nmL k ++ sufL false false ++ endL (toldL .i (Inst.mk (k + 1) rd rs1 rs2 imm false false)) = L5 := by
    have hm := itoa_ne (sgn imm)
    rw [← hL5, ← hL4, ← hL3, ← hL2, ← hL1, ← hL0]
    simp [sufL, endL, toldL, join2, join3, xL, mL, hm]
  rw [htx, hfin]
  have hs : -9223372036854775808 ≤ sgn imm ∧ sgn imm ≤ 9223372036854775807 := by unfold sgn; split <;> omega
  have CN := Lib.hid (fun W => rname_k k W hk)
  have CF := Lib.hid (fun W hP => fmt_i (Inst.mk (k + 1) rd rs1 rs2 imm false false) (sgn imm) rfl W hP hs.1 hs.2)
  have HK := Lib.hid hk
  have HF := Lib.hid hf
  have HP := Lib.hid hP
  clear hk hf hP hs htx hfin a0 a1 a2 am au nn hL0 n0 hL1 n1 hL2 n2 hL3 n3 hL4 n4 hL5 n5
  generalize mL (Inst.mk (k + 1) rd rs1 rs2 imm false false) = M at *
  unfold Inst.val
  go_enter Tryd.func19, Tryd.ntmps19
  go_upto_region 10 with (first | (go_at_call 17; refine (CN.out _).mono ?_; rintro e w1 ⟨rfl, hb1⟩; have hi1 : w1.heap[w.heap.size]? = some (.cells (Inst.mk (k + 1) rd rs1 rs2 imm false false).val 25 (0, 0)) := (hb1.block _ (by simp)).trans (World.alloc_heap_new w _); have hz1 : w.heap.size < w1.heap.size := (by have z := hb1.size; rw [World.size_alloc] at z; exact z); obtain ⟨q0, q1, q2, q3, q4, q5, q6⟩ := cells_inst hi1; simp only at q0 q1 q2 q3 q4 q5 q6) | (go_at_call 28; refine (signed_ref _ _ h0 h1).mono ?_; rintro e w' ⟨rfl, rfl⟩) | (go_at_call 33; refine (CF.out _ ?_).mono ?_; exact (HP.out.below ((Below.refl _ _).alloc (Nat.le_refl _) _)).below hb1; rintro e w2 ⟨rfl, hb2⟩; have hi2 : w2.heap[w.heap.size]? = some (.cells (Inst.mk (k + 1) rd rs1 rs2 imm false false).val 25 (0, 0)) := (hb2.block _ hz1).trans hi1; obtain ⟨s0, s1, s2, s3, s4, s5, s6⟩ := cells_inst hi2; simp only at s0 s1 s2 s3 s4 s5 s6; have hp2 : TabP w2 := ((HP.out.below ((Below.refl _ _).alloc (Nat.le_refl _) _)).below hb1).below hb2))
  go_quiet (first | (go_at_call 34; exact Calls.quiet_of_same (reg_i rd _ r0.1 r0.2)) | (go_at_call 34; exact Calls.quiet_of_same (reg_i rs1 _ r1.1 r1.2)) | (go_at_call 34; exact Calls.quiet_of_same (reg_i rs2 _ r2.1 r2.2)))
  go_wp2_with (first | (go_at_call 22; refine (form_f k 105 .i HK.out HF.out rfl _).mono ?_; rintro e w' ⟨rfl, rfl⟩))
  go_ret
  have b1 : Below w.heap.size w w1 := ((Below.refl _ w).alloc (Nat.le_refl _) _).trans (hb1.mono (by simp))
  have b2 : Below w.heap.size w w2 := b1.trans (hb2.mono (Nat.le_of_lt hz1))
  have b3 : ∀ q, Below w.heap.size w (w2.drewN q) := fun q => ⟨b2.os, b2.tape, b2.output, b2.size, b2.block⟩
  exact ⟨rfl, (b3 _)⟩

set_option maxRecDepth 100000 in
set_option maxHeartbeats 4000000 in
theorem rtext_shift (rd rs1 rs2 imm : Int) (w : World) (hP : TabP w) (h0 : 0 ≤ imm) (h1 : imm < 4294967296) (k : Nat) (hk : k < 59) (hf : formK k = .shift) (ok : okF .shift (Inst.mk (k + 1) rd rs1 rs2 imm false false) = true) :
    Calls Tryd.prog 19 #[.agg (Inst.mk (k + 1) rd rs1 rs2 imm false false).val] w fun e w' => e = .returned (.string (bs (textL k (Inst.mk (k + 1) rd rs1 rs2 imm false false)))) ∧ Below w.heap.size w w' := by
  rw [okF_iff] at ok
  simp only at ok
  obtain ⟨k1, k2, k3, k4, k5⟩ := ok
  have r0 := regB_b k1
  have r1 := regB_b k2
  have r2 := regB_b k3
  clear k1 k2 k3 k4 k5
  have nn := nmL_len k hk
  have a0 := xL_len rd r0.1 r0.2
  have a1 := xL_len rs1 r1.1 r1.2
  have a2 := xL_len rs2 r2.1 r2.2
  have am := mL_len (Inst.mk (k + 1) rd rs1 rs2 imm false false) h0 h1
  have au := dec_len (imm / 4096).toNat (by omega)
  have htx : textL k (Inst.mk (k + 1) rd rs1 rs2 imm false false) = nmL k ++ sufL false false ++ endL (toldL .shift (Inst.mk (k + 1) rd rs1 rs2 imm false false)) := by unfold textL; rw [hf]
  obtain ⟨L0, hL0⟩ : ∃ L, nmL k ++ [32] = L := ⟨_, rfl⟩
  have n0 : L0.length ≤ 9 := by rw [← hL0]; simp only [List.length_append, List.length_cons, List.length_nil]; omega
  have hs0 : ∀ W, (Op.stringOp .add (bs (nmL k)) (⟨#[32]⟩)).run Tryd.prog W = .ok (.string (bs L0)) W := fun W => hL0 ▸ add_bs (a := nmL k) (b := [32]) (by (try simp only [List.length_cons, List.length_nil]); omega) W
  obtain ⟨L1, hL1⟩ : ∃ L, L0 ++ xL rd = L := ⟨_, rfl⟩
  have n1 : L1.length ≤ 31 := by rw [← hL1]; simp only [List.length_append, List.length_cons, List.length_nil]; omega
  have hs1 : ∀ W, (Op.stringOp .add (bs L0) (bs (xL rd))).run Tryd.prog W = .ok (.string (bs L1)) W := fun W => hL1 ▸ add_bs (a := L0) (b := xL rd) (by (try simp only [List.length_cons, List.length_nil]); omega) W
  obtain ⟨L2, hL2⟩ : ∃ L, L1 ++ [44, 32] = L := ⟨_, rfl⟩
  have n2 : L2.length ≤ 33 := by rw [← hL2]; simp only [List.length_append, List.length_cons, List.length_nil]; omega
  have hs2 : ∀ W, (Op.stringOp .add (bs L1) (⟨#[44, 32]⟩)).run Tryd.prog W = .ok (.string (bs L2)) W := fun W => hL2 ▸ add_bs (a := L1) (b := [44, 32]) (by (try simp only [List.length_cons, List.length_nil]); omega) W
  obtain ⟨L3, hL3⟩ : ∃ L, L2 ++ xL rs1 = L := ⟨_, rfl⟩
  have n3 : L3.length ≤ 55 := by rw [← hL3]; simp only [List.length_append, List.length_cons, List.length_nil]; omega
  have hs3 : ∀ W, (Op.stringOp .add (bs L2) (bs (xL rs1))).run Tryd.prog W = .ok (.string (bs L3)) W := fun W => hL3 ▸ add_bs (a := L2) (b := xL rs1) (by (try simp only [List.length_cons, List.length_nil]); omega) W
  obtain ⟨L4, hL4⟩ : ∃ L, L3 ++ [44, 32] = L := ⟨_, rfl⟩
  have n4 : L4.length ≤ 57 := by rw [← hL4]; simp only [List.length_append, List.length_cons, List.length_nil]; omega
  have hs4 : ∀ W, (Op.stringOp .add (bs L3) (⟨#[44, 32]⟩)).run Tryd.prog W = .ok (.string (bs L4)) W := fun W => hL4 ▸ add_bs (a := L3) (b := [44, 32]) (by (try simp only [List.length_cons, List.length_nil]); omega) W
  obtain ⟨L5, hL5⟩ : ∃ L, L4 ++ mL (Inst.mk (k + 1) rd rs1 rs2 imm false false) = L := ⟨_, rfl⟩
  have n5 : L5.length ≤ 78 := by rw [← hL5]; simp only [List.length_append, List.length_cons, List.length_nil]; omega
  have hs5 : ∀ W, (Op.stringOp .add (bs L4) (bs (mL (Inst.mk (k + 1) rd rs1 rs2 imm false false)))).run Tryd.prog W = .ok (.string (bs L5)) W := fun W => hL5 ▸ add_bs (a := L4) (b := mL (Inst.mk (k + 1) rd rs1 rs2 imm false false)) (by (try simp only [List.length_cons, List.length_nil]); omega) W
  have hfin : nmL k ++ sufL false false ++ endL (toldL .shift (Inst.mk (k + 1) rd rs1 rs2 imm false false)) = L5 := by
    have hm := itoa_ne (sgn imm)
    rw [← hL5, ← hL4, ← hL3, ← hL2, ← hL1, ← hL0]
    simp [sufL, endL, toldL, join2, join3, xL, mL, hm]
  rw [htx, hfin]
  have hs : -9223372036854775808 ≤ sgn imm ∧ sgn imm ≤ 9223372036854775807 := by unfold sgn; split <;> omega
  have CN := Lib.hid (fun W => rname_k k W hk)
  have CF := Lib.hid (fun W hP => fmt_i (Inst.mk (k + 1) rd rs1 rs2 imm false false) (sgn imm) rfl W hP hs.1 hs.2)
  have HK := Lib.hid hk
  have HF := Lib.hid hf
  have HP := Lib.hid hP
  clear hk hf hP hs htx hfin a0 a1 a2 am au nn hL0 n0 hL1 n1 hL2 n2 hL3 n3 hL4 n4 hL5 n5
  generalize mL (Inst.mk (k + 1) rd rs1 rs2 imm false false) = M at *
  unfold Inst.val
  go_enter Tryd.func19, Tryd.ntmps19
  go_upto_region 10 with (first | (go_at_call 17; refine (CN.out _).mono ?_; rintro e w1 ⟨rfl, hb1⟩; have hi1 : w1.heap[w.heap.size]? = some (.cells (Inst.mk (k + 1) rd rs1 rs2 imm false false).val 25 (0, 0)) := (hb1.block _ (by simp)).trans (World.alloc_heap_new w _); have hz1 : w.heap.size < w1.heap.size := (by have z := hb1.size; rw [World.size_alloc] at z; exact z); obtain ⟨q0, q1, q2, q3, q4, q5, q6⟩ := cells_inst hi1; simp only at q0 q1 q2 q3 q4 q5 q6) | (go_at_call 28; refine (signed_ref _ _ h0 h1).mono ?_; rintro e w' ⟨rfl, rfl⟩) | (go_at_call 33; refine (CF.out _ ?_).mono ?_; exact (HP.out.below ((Below.refl _ _).alloc (Nat.le_refl _) _)).below hb1; rintro e w2 ⟨rfl, hb2⟩; have hi2 : w2.heap[w.heap.size]? = some (.cells (Inst.mk (k + 1) rd rs1 rs2 imm false false).val 25 (0, 0)) := (hb2.block _ hz1).trans hi1; obtain ⟨s0, s1, s2, s3, s4, s5, s6⟩ := cells_inst hi2; simp only at s0 s1 s2 s3 s4 s5 s6; have hp2 : TabP w2 := ((HP.out.below ((Below.refl _ _).alloc (Nat.le_refl _) _)).below hb1).below hb2))
  go_quiet (first | (go_at_call 34; exact Calls.quiet_of_same (reg_i rd _ r0.1 r0.2)) | (go_at_call 34; exact Calls.quiet_of_same (reg_i rs1 _ r1.1 r1.2)) | (go_at_call 34; exact Calls.quiet_of_same (reg_i rs2 _ r2.1 r2.2)))
  go_wp2_with (first | (go_at_call 22; refine (form_f k 104 .shift HK.out HF.out rfl _).mono ?_; rintro e w' ⟨rfl, rfl⟩))
  go_ret
  have b1 : Below w.heap.size w w1 := ((Below.refl _ w).alloc (Nat.le_refl _) _).trans (hb1.mono (by simp))
  have b2 : Below w.heap.size w w2 := b1.trans (hb2.mono (Nat.le_of_lt hz1))
  have b3 : ∀ q, Below w.heap.size w (w2.drewN q) := fun q => ⟨b2.os, b2.tape, b2.output, b2.size, b2.block⟩
  exact ⟨rfl, (b3 _)⟩

set_option maxRecDepth 100000 in
set_option maxHeartbeats 4000000 in
theorem rtext_load (rd rs1 rs2 imm : Int) (w : World) (hP : TabP w) (h0 : 0 ≤ imm) (h1 : imm < 4294967296) (k : Nat) (hk : k < 59) (hf : formK k = .load) (ok : okF .load (Inst.mk (k + 1) rd rs1 rs2 imm false false) = true) :
    Calls Tryd.prog 19 #[.agg (Inst.mk (k + 1) rd rs1 rs2 imm false false).val] w fun e w' => e = .returned (.string (bs (textL k (Inst.mk (k + 1) rd rs1 rs2 imm false false)))) ∧ Below w.heap.size w w' := by
  rw [okF_iff] at ok
  simp only at ok
  obtain ⟨k1, k2, k3, k4, k5⟩ := ok
  have r0 := regB_b k1
  have r1 := regB_b k2
  have r2 := regB_b k3
  clear k1 k2 k3 k4 k5
  have nn := nmL_len k hk
  have a0 := xL_len rd r0.1 r0.2
  have a1 := xL_len rs1 r1.1 r1.2
  have a2 := xL_len rs2 r2.1 r2.2
  have am := mL_len (Inst.mk (k + 1) rd rs1 rs2 imm false false) h0 h1
  have au := dec_len (imm / 4096).toNat (by omega)
  have htx : textL k (Inst.mk (k + 1) rd rs1 rs2 imm false false) = nmL k ++ sufL false false ++ endL (toldL .load (Inst.mk (k + 1) rd rs1 rs2 imm false false)) := by unfold textL; rw [hf]
  obtain ⟨L0, hL0⟩ : ∃ L, nmL k ++ [32] = L := ⟨_, rfl⟩
  have n0 : L0.length ≤ 9 := by rw [← hL0]; simp only [List.length_append, List.length_cons, List.length_nil]; omega
  have hs0 : ∀ W, (Op.stringOp .add (bs (nmL k)) (⟨#[32]⟩)).run Tryd.prog W = .ok (.string (bs L0)) W := fun W => hL0 ▸ add_bs (a := nmL k) (b := [32]) (by (try simp only [List.length_cons, List.length_nil]); omega) W
  obtain ⟨L1, hL1⟩ : ∃ L, L0 ++ xL rd = L := ⟨_, rfl⟩
  have n1 : L1.length ≤ 31 := by rw [← hL1]; simp only [List.length_append, List.length_cons, List.length_nil]; omega
  have hs1 : ∀ W, (Op.stringOp .add (bs L0) (bs (xL rd))).run Tryd.prog W = .ok (.string (bs L1)) W := fun W => hL1 ▸ add_bs (a := L0) (b := xL rd) (by (try simp only [List.length_cons, List.length_nil]); omega) W
  obtain ⟨L2, hL2⟩ : ∃ L, L1 ++ [44, 32] = L := ⟨_, rfl⟩
  have n2 : L2.length ≤ 33 := by rw [← hL2]; simp only [List.length_append, List.length_cons, List.length_nil]; omega
  have hs2 : ∀ W, (Op.stringOp .add (bs L1) (⟨#[44, 32]⟩)).run Tryd.prog W = .ok (.string (bs L2)) W := fun W => hL2 ▸ add_bs (a := L1) (b := [44, 32]) (by (try simp only [List.length_cons, List.length_nil]); omega) W
  obtain ⟨L3, hL3⟩ : ∃ L, L2 ++ mL (Inst.mk (k + 1) rd rs1 rs2 imm false false) = L := ⟨_, rfl⟩
  have n3 : L3.length ≤ 54 := by rw [← hL3]; simp only [List.length_append, List.length_cons, List.length_nil]; omega
  have hs3 : ∀ W, (Op.stringOp .add (bs L2) (bs (mL (Inst.mk (k + 1) rd rs1 rs2 imm false false)))).run Tryd.prog W = .ok (.string (bs L3)) W := fun W => hL3 ▸ add_bs (a := L2) (b := mL (Inst.mk (k + 1) rd rs1 rs2 imm false false)) (by (try simp only [List.length_cons, List.length_nil]); omega) W
  obtain ⟨L4, hL4⟩ : ∃ L, L3 ++ [40] = L := ⟨_, rfl⟩
  have n4 : L4.length ≤ 55 := by rw [← hL4]; simp only [List.length_append, List.length_cons, List.length_nil]; omega
  have hs4 : ∀ W, (Op.stringOp .add (bs L3) (⟨#[40]⟩)).run Tryd.prog W = .ok (.string (bs L4)) W := fun W => hL4 ▸ add_bs (a := L3) (b := [40]) (by (try simp only [List.length_cons, List.length_nil]); omega) W
  obtain ⟨L5, hL5⟩ : ∃ L, L4 ++ xL rs1 = L := ⟨_, rfl⟩
  have n5 : L5.length ≤ 77 := by rw [← hL5]; simp only [List.length_append, List.length_cons, List.length_nil]; omega
  have hs5 : ∀ W, (Op.stringOp .add (bs L4) (bs (xL rs1))).run Tryd.prog W = .ok (.string (bs L5)) W := fun W => hL5 ▸ add_bs (a := L4) (b := xL rs1) (by (try simp only [List.length_cons, List.length_nil]); omega) W
  obtain ⟨L6, hL6⟩ : ∃ L, L5 ++ [41] = L := ⟨_, rfl⟩
  have n6 : L6.length ≤ 78 := by rw [← hL6]; simp only [List.length_append, List.length_cons, List.length_nil]; omega
  have hs6 : ∀ W, (Op.stringOp .add (bs L5) (⟨#[41]⟩)).run Tryd.prog W = .ok (.string (bs L6)) W := fun W => hL6 ▸ add_bs (a := L5) (b := [41]) (by (try simp only [List.length_cons, List.length_nil]); omega) W
  have hfin : nmL k ++ sufL false false ++ endL (toldL .load (Inst.mk (k + 1) rd rs1 rs2 imm false false)) = L6 := by
    have hm := itoa_ne (sgn imm)
    rw [← hL6, ← hL5, ← hL4, ← hL3, ← hL2, ← hL1, ← hL0]
    simp [sufL, endL, toldL, join2, join3, xL, mL, hm]
  rw [htx, hfin]
  have hs : -9223372036854775808 ≤ sgn imm ∧ sgn imm ≤ 9223372036854775807 := by unfold sgn; split <;> omega
  have CN := Lib.hid (fun W => rname_k k W hk)
  have CF := Lib.hid (fun W hP => fmt_i (Inst.mk (k + 1) rd rs1 rs2 imm false false) (sgn imm) rfl W hP hs.1 hs.2)
  have HK := Lib.hid hk
  have HF := Lib.hid hf
  have HP := Lib.hid hP
  clear hk hf hP hs htx hfin a0 a1 a2 am au nn hL0 n0 hL1 n1 hL2 n2 hL3 n3 hL4 n4 hL5 n5 hL6 n6
  generalize mL (Inst.mk (k + 1) rd rs1 rs2 imm false false) = M at *
  unfold Inst.val
  go_enter Tryd.func19, Tryd.ntmps19
  go_upto_region 10 with (first | (go_at_call 17; refine (CN.out _).mono ?_; rintro e w1 ⟨rfl, hb1⟩; have hi1 : w1.heap[w.heap.size]? = some (.cells (Inst.mk (k + 1) rd rs1 rs2 imm false false).val 25 (0, 0)) := (hb1.block _ (by simp)).trans (World.alloc_heap_new w _); have hz1 : w.heap.size < w1.heap.size := (by have z := hb1.size; rw [World.size_alloc] at z; exact z); obtain ⟨q0, q1, q2, q3, q4, q5, q6⟩ := cells_inst hi1; simp only at q0 q1 q2 q3 q4 q5 q6) | (go_at_call 28; refine (signed_ref _ _ h0 h1).mono ?_; rintro e w' ⟨rfl, rfl⟩) | (go_at_call 33; refine (CF.out _ ?_).mono ?_; exact (HP.out.below ((Below.refl _ _).alloc (Nat.le_refl _) _)).below hb1; rintro e w2 ⟨rfl, hb2⟩; have hi2 : w2.heap[w.heap.size]? = some (.cells (Inst.mk (k + 1) rd rs1 rs2 imm false false).val 25 (0, 0)) := (hb2.block _ hz1).trans hi1; obtain ⟨s0, s1, s2, s3, s4, s5, s6⟩ := cells_inst hi2; simp only at s0 s1 s2 s3 s4 s5 s6; have hp2 : TabP w2 := ((HP.out.below ((Below.refl _ _).alloc (Nat.le_refl _) _)).below hb1).below hb2))
  go_quiet (first | (go_at_call 34; exact Calls.quiet_of_same (reg_i rd _ r0.1 r0.2)) | (go_at_call 34; exact Calls.quiet_of_same (reg_i rs1 _ r1.1 r1.2)) | (go_at_call 34; exact Calls.quiet_of_same (reg_i rs2 _ r2.1 r2.2)))
  go_wp2_with (first | (go_at_call 22; refine (form_f k 108 .load HK.out HF.out rfl _).mono ?_; rintro e w' ⟨rfl, rfl⟩))
  go_ret
  have b1 : Below w.heap.size w w1 := ((Below.refl _ w).alloc (Nat.le_refl _) _).trans (hb1.mono (by simp))
  have b2 : Below w.heap.size w w2 := b1.trans (hb2.mono (Nat.le_of_lt hz1))
  have b3 : ∀ q, Below w.heap.size w (w2.drewN q) := fun q => ⟨b2.os, b2.tape, b2.output, b2.size, b2.block⟩
  exact ⟨rfl, (b3 _)⟩

set_option maxRecDepth 100000 in
set_option maxHeartbeats 4000000 in
theorem rtext_b (rd rs1 rs2 imm : Int) (w : World) (hP : TabP w) (h0 : 0 ≤ imm) (h1 : imm < 4294967296) (k : Nat) (hk : k < 59) (hf : formK k = .b) (ok : okF .b (Inst.mk (k + 1) rd rs1 rs2 imm false false) = true) :
    Calls Tryd.prog 19 #[.agg (Inst.mk (k + 1) rd rs1 rs2 imm false false).val] w fun e w' => e = .returned (.string (bs (textL k (Inst.mk (k + 1) rd rs1 rs2 imm false false)))) ∧ Below w.heap.size w w' := by
  rw [okF_iff] at ok
  simp only at ok
  obtain ⟨k1, k2, k3, k4, k5⟩ := ok
  have r0 := regB_b k1
  have r1 := regB_b k2
  have r2 := regB_b k3
  clear k1 k2 k3 k4 k5
  have nn := nmL_len k hk
  have a0 := xL_len rd r0.1 r0.2
  have a1 := xL_len rs1 r1.1 r1.2
  have a2 := xL_len rs2 r2.1 r2.2
  have am := mL_len (Inst.mk (k + 1) rd rs1 rs2 imm false false) h0 h1
  have au := dec_len (imm / 4096).toNat (by omega)
  have htx : textL k (Inst.mk (k + 1) rd rs1 rs2 imm false false) = nmL k ++ sufL false false ++ endL (toldL .b (Inst.mk (k + 1) rd rs1 rs2 imm false false)) := by unfold textL; rw [hf]
  obtain ⟨L0, hL0⟩ : ∃ L, nmL k ++ [32] = L := ⟨_, rfl⟩
  have n0 : L0.length ≤ 9 := by rw [← hL0]; simp only [List.length_append, List.length_cons, List.length_nil]; omega
  have hs0 : ∀ W, (Op.stringOp .add (bs (nmL k)) (⟨#[32]⟩)).run Tryd.prog W = .ok (.string (bs L0)) W := fun W => hL0 ▸ add_bs (a := nmL k) (b := [32]) (by (try simp only [List.length_cons, List.length_nil]); omega) W
  obtain ⟨L1, hL1⟩ : ∃ L, L0 ++ xL rs1 = L := ⟨_, rfl⟩
  have n1 : L1.length ≤ 31 := by rw [← hL1]; simp only [List.length_append, List.length_cons, List.length_nil]; omega
  have hs1 : ∀ W, (Op.stringOp .add (bs L0) (bs (xL rs1))).run Tryd.prog W = .ok (.string (bs L1)) W := fun W => hL1 ▸ add_bs (a := L0) (b := xL rs1) (by (try simp only [List.length_cons, List.length_nil]); omega) W
  obtain ⟨L2, hL2⟩ : ∃ L, L1 ++ [44, 32] = L := ⟨_, rfl⟩
  have n2 : L2.length ≤ 33 := by rw [← hL2]; simp only [List.length_append, List.length_cons, List.length_nil]; omega
  have hs2 : ∀ W, (Op.stringOp .add (bs L1) (⟨#[44, 32]⟩)).run Tryd.prog W = .ok (.string (bs L2)) W := fun W => hL2 ▸ add_bs (a := L1) (b := [44, 32]) (by (try simp only [List.length_cons, List.length_nil]); omega) W
  obtain ⟨L3, hL3⟩ : ∃ L, L2 ++ xL rs2 = L := ⟨_, rfl⟩
  have n3 : L3.length ≤ 55 := by rw [← hL3]; simp only [List.length_append, List.length_cons, List.length_nil]; omega
  have hs3 : ∀ W, (Op.stringOp .add (bs L2) (bs (xL rs2))).run Tryd.prog W = .ok (.string (bs L3)) W := fun W => hL3 ▸ add_bs (a := L2) (b := xL rs2) (by (try simp only [List.length_cons, List.length_nil]); omega) W
  obtain ⟨L4, hL4⟩ : ∃ L, L3 ++ [44, 32] = L := ⟨_, rfl⟩
  have n4 : L4.length ≤ 57 := by rw [← hL4]; simp only [List.length_append, List.length_cons, List.length_nil]; omega
  have hs4 : ∀ W, (Op.stringOp .add (bs L3) (⟨#[44, 32]⟩)).run Tryd.prog W = .ok (.string (bs L4)) W := fun W => hL4 ▸ add_bs (a := L3) (b := [44, 32]) (by (try simp only [List.length_cons, List.length_nil]); omega) W
  obtain ⟨L5, hL5⟩ : ∃ L, L4 ++ mL (Inst.mk (k + 1) rd rs1 rs2 imm false false) = L := ⟨_, rfl⟩
  have n5 : L5.length ≤ 78 := by rw [← hL5]; simp only [List.length_append, List.length_cons, List.length_nil]; omega
  have hs5 : ∀ W, (Op.stringOp .add (bs L4) (bs (mL (Inst.mk (k + 1) rd rs1 rs2 imm false false)))).run Tryd.prog W = .ok (.string (bs L5)) W := fun W => hL5 ▸ add_bs (a := L4) (b := mL (Inst.mk (k + 1) rd rs1 rs2 imm false false)) (by (try simp only [List.length_cons, List.length_nil]); omega) W
  have hfin : nmL k ++ sufL false false ++ endL (toldL .b (Inst.mk (k + 1) rd rs1 rs2 imm false false)) = L5 := by
    have hm := itoa_ne (sgn imm)
    rw [← hL5, ← hL4, ← hL3, ← hL2, ← hL1, ← hL0]
    simp [sufL, endL, toldL, join2, join3, xL, mL, hm]
  rw [htx, hfin]
  have hs : -9223372036854775808 ≤ sgn imm ∧ sgn imm ≤ 9223372036854775807 := by unfold sgn; split <;> omega
  have CN := Lib.hid (fun W => rname_k k W hk)
  have CF := Lib.hid (fun W hP => fmt_i (Inst.mk (k + 1) rd rs1 rs2 imm false false) (sgn imm) rfl W hP hs.1 hs.2)
  have HK := Lib.hid hk
  have HF := Lib.hid hf
  have HP := Lib.hid hP
  clear hk hf hP hs htx hfin a0 a1 a2 am au nn hL0 n0 hL1 n1 hL2 n2 hL3 n3 hL4 n4 hL5 n5
  generalize mL (Inst.mk (k + 1) rd rs1 rs2 imm false false) = M at *
  unfold Inst.val
  go_enter Tryd.func19, Tryd.ntmps19
  go_upto_region 10 with (first | (go_at_call 17; refine (CN.out _).mono ?_; rintro e w1 ⟨rfl, hb1⟩; have hi1 : w1.heap[w.heap.size]? = some (.cells (Inst.mk (k + 1) rd rs1 rs2 imm false false).val 25 (0, 0)) := (hb1.block _ (by simp)).trans (World.alloc_heap_new w _); have hz1 : w.heap.size < w1.heap.size := (by have z := hb1.size; rw [World.size_alloc] at z; exact z); obtain ⟨q0, q1, q2, q3, q4, q5, q6⟩ := cells_inst hi1; simp only at q0 q1 q2 q3 q4 q5 q6) | (go_at_call 28; refine (signed_ref _ _ h0 h1).mono ?_; rintro e w' ⟨rfl, rfl⟩) | (go_at_call 33; refine (CF.out _ ?_).mono ?_; exact (HP.out.below ((Below.refl _ _).alloc (Nat.le_refl _) _)).below hb1; rintro e w2 ⟨rfl, hb2⟩; have hi2 : w2.heap[w.heap.size]? = some (.cells (Inst.mk (k + 1) rd rs1 rs2 imm false false).val 25 (0, 0)) := (hb2.block _ hz1).trans hi1; obtain ⟨s0, s1, s2, s3, s4, s5, s6⟩ := cells_inst hi2; simp only at s0 s1 s2 s3 s4 s5 s6; have hp2 : TabP w2 := ((HP.out.below ((Below.refl _ _).alloc (Nat.le_refl _) _)).below hb1).below hb2))
  go_quiet (first | (go_at_call 34; exact Calls.quiet_of_same (reg_i rd _ r0.1 r0.2)) | (go_at_call 34; exact Calls.quiet_of_same (reg_i rs1 _ r1.1 r1.2)) | (go_at_call 34; exact Calls.quiet_of_same (reg_i rs2 _ r2.1 r2.2)))
  go_wp2_with (first | (go_at_call 22; refine (form_f k 98 .b HK.out HF.out rfl _).mono ?_; rintro e w' ⟨rfl, rfl⟩))
  go_ret
  have b1 : Below w.heap.size w w1 := ((Below.refl _ w).alloc (Nat.le_refl _) _).trans (hb1.mono (by simp))
  have b2 : Below w.heap.size w w2 := b1.trans (hb2.mono (Nat.le_of_lt hz1))
  have b3 : ∀ q, Below w.heap.size w (w2.drewN q) := fun q => ⟨b2.os, b2.tape, b2.output, b2.size, b2.block⟩
  exact ⟨rfl, (b3 _)⟩

set_option maxRecDepth 100000 in
set_option maxHeartbeats 4000000 in
theorem rtext_s (rd rs1 rs2 imm : Int) (w : World) (hP : TabP w) (h0 : 0 ≤ imm) (h1 : imm < 4294967296) (k : Nat) (hk : k < 59) (hf : formK k = .s) (ok : okF .s (Inst.mk (k + 1) rd rs1 rs2 imm false false) = true) :
    Calls Tryd.prog 19 #[.agg (Inst.mk (k + 1) rd rs1 rs2 imm false false).val] w fun e w' => e = .returned (.string (bs (textL k (Inst.mk (k + 1) rd rs1 rs2 imm false false)))) ∧ Below w.heap.size w w' := by
  rw [okF_iff] at ok
  simp only at ok
  obtain ⟨k1, k2, k3, k4, k5⟩ := ok
  have r0 := regB_b k1
  have r1 := regB_b k2
  have r2 := regB_b k3
  clear k1 k2 k3 k4 k5
  have nn := nmL_len k hk
  have a0 := xL_len rd r0.1 r0.2
  have a1 := xL_len rs1 r1.1 r1.2
  have a2 := xL_len rs2 r2.1 r2.2
  have am := mL_len (Inst.mk (k + 1) rd rs1 rs2 imm false false) h0 h1
  have au := dec_len (imm / 4096).toNat (by omega)
  have htx : textL k (Inst.mk (k + 1) rd rs1 rs2 imm false false) = nmL k ++ sufL false false ++ endL (toldL .s (Inst.mk (k + 1) rd rs1 rs2 imm false false)) := by unfold textL; rw [hf]
  obtain ⟨L0, hL0⟩ : ∃ L, nmL k ++ [32] = L := ⟨_, rfl⟩
  have n0 : L0.length ≤ 9 := by rw [← hL0]; simp only [List.length_append, List.length_cons, List.length_nil]; omega
  have hs0 : ∀ W, (Op.stringOp .add (bs (nmL k)) (⟨#[32]⟩)).run Tryd.prog W = .ok (.string (bs L0)) W := fun W => hL0 ▸ add_bs (a := nmL k) (b := [32]) (by (try simp only [List.length_cons, List.length_nil]); omega) W
  obtain ⟨L1, hL1⟩ : ∃ L, L0 ++ xL rs2 = L := ⟨_, rfl⟩
  have n1 : L1.length ≤ 31 := by rw [← hL1]; simp only [List.length_append, List.length_cons, List.length_nil]; omega
  have hs1 : ∀ W, (Op.stringOp .add (bs L0) (bs (xL rs2))).run Tryd.prog W = .ok (.string (bs L1)) W := fun W => hL1 ▸ add_bs (a := L0) (b := xL rs2) (by (try simp only [List.length_cons, List.length_nil]); omega) W
  obtain ⟨L2, hL2⟩ : ∃ L, L1 ++ [44, 32] = L := ⟨_, rfl⟩
  have n2 : L2.length ≤ 33 := by rw [← hL2]; simp only [List.length_append, List.length_cons, List.length_nil]; omega
  have hs2 : ∀ W, (Op.stringOp .add (bs L1) (⟨#[44, 32]⟩)).run Tryd.prog W = .ok (.string (bs L2)) W := fun W => hL2 ▸ add_bs (a := L1) (b := [44, 32]) (by (try simp only [List.length_cons, List.length_nil]); omega) W
  obtain ⟨L3, hL3⟩ : ∃ L, L2 ++ mL (Inst.mk (k + 1) rd rs1 rs2 imm false false) = L := ⟨_, rfl⟩
  have n3 : L3.length ≤ 54 := by rw [← hL3]; simp only [List.length_append, List.length_cons, List.length_nil]; omega
  have hs3 : ∀ W, (Op.stringOp .add (bs L2) (bs (mL (Inst.mk (k + 1) rd rs1 rs2 imm false false)))).run Tryd.prog W = .ok (.string (bs L3)) W := fun W => hL3 ▸ add_bs (a := L2) (b := mL (Inst.mk (k + 1) rd rs1 rs2 imm false false)) (by (try simp only [List.length_cons, List.length_nil]); omega) W
  obtain ⟨L4, hL4⟩ : ∃ L, L3 ++ [40] = L := ⟨_, rfl⟩
  have n4 : L4.length ≤ 55 := by rw [← hL4]; simp only [List.length_append, List.length_cons, List.length_nil]; omega
  have hs4 : ∀ W, (Op.stringOp .add (bs L3) (⟨#[40]⟩)).run Tryd.prog W = .ok (.string (bs L4)) W := fun W => hL4 ▸ add_bs (a := L3) (b := [40]) (by (try simp only [List.length_cons, List.length_nil]); omega) W
  obtain ⟨L5, hL5⟩ : ∃ L, L4 ++ xL rs1 = L := ⟨_, rfl⟩
  have n5 : L5.length ≤ 77 := by rw [← hL5]; simp only [List.length_append, List.length_cons, List.length_nil]; omega
  have hs5 : ∀ W, (Op.stringOp .add (bs L4) (bs (xL rs1))).run Tryd.prog W = .ok (.string (bs L5)) W := fun W => hL5 ▸ add_bs (a := L4) (b := xL rs1) (by (try simp only [List.length_cons, List.length_nil]); omega) W
  obtain ⟨L6, hL6⟩ : ∃ L, L5 ++ [41] = L := ⟨_, rfl⟩
  have n6 : L6.length ≤ 78 := by rw [← hL6]; simp only [List.length_append, List.length_cons, List.length_nil]; omega
  have hs6 : ∀ W, (Op.stringOp .add (bs L5) (⟨#[41]⟩)).run Tryd.prog W = .ok (.string (bs L6)) W := fun W => hL6 ▸ add_bs (a := L5) (b := [41]) (by (try simp only [List.length_cons, List.length_nil]); omega) W
  have hfin : nmL k ++ sufL false false ++ endL (toldL .s (Inst.mk (k + 1) rd rs1 rs2 imm false false)) = L6 := by
    have hm := itoa_ne (sgn imm)
    rw [← hL6, ← hL5, ← hL4, ← hL3, ← hL2, ← hL1, ← hL0]
    simp [sufL, endL, toldL, join2, join3, xL, mL, hm]
  rw [htx, hfin]
  have hs : -9223372036854775808 ≤ sgn imm ∧ sgn imm ≤ 9223372036854775807 := by unfold sgn; split <;> omega
  have CN := Lib.hid (fun W => rname_k k W hk)
  have CF := Lib.hid (fun W hP => fmt_i (Inst.mk (k + 1) rd rs1 rs2 imm false false) (sgn imm) rfl W hP hs.1 hs.2)
  have HK := Lib.hid hk
  have HF := Lib.hid hf
  have HP := Lib.hid hP
  clear hk hf hP hs htx hfin a0 a1 a2 am au nn hL0 n0 hL1 n1 hL2 n2 hL3 n3 hL4 n4 hL5 n5 hL6 n6
  generalize mL (Inst.mk (k + 1) rd rs1 rs2 imm false false) = M at *
  unfold Inst.val
  go_enter Tryd.func19, Tryd.ntmps19
  go_upto_region 10 with (first | (go_at_call 17; refine (CN.out _).mono ?_; rintro e w1 ⟨rfl, hb1⟩; have hi1 : w1.heap[w.heap.size]? = some (.cells (Inst.mk (k + 1) rd rs1 rs2 imm false false).val 25 (0, 0)) := (hb1.block _ (by simp)).trans (World.alloc_heap_new w _); have hz1 : w.heap.size < w1.heap.size := (by have z := hb1.size; rw [World.size_alloc] at z; exact z); obtain ⟨q0, q1, q2, q3, q4, q5, q6⟩ := cells_inst hi1; simp only at q0 q1 q2 q3 q4 q5 q6) | (go_at_call 28; refine (signed_ref _ _ h0 h1).mono ?_; rintro e w' ⟨rfl, rfl⟩) | (go_at_call 33; refine (CF.out _ ?_).mono ?_; exact (HP.out.below ((Below.refl _ _).alloc (Nat.le_refl _) _)).below hb1; rintro e w2 ⟨rfl, hb2⟩; have hi2 : w2.heap[w.heap.size]? = some (.cells (Inst.mk (k + 1) rd rs1 rs2 imm false false).val 25 (0, 0)) := (hb2.block _ hz1).trans hi1; obtain ⟨s0, s1, s2, s3, s4, s5, s6⟩ := cells_inst hi2; simp only at s0 s1 s2 s3 s4 s5 s6; have hp2 : TabP w2 := ((HP.out.below ((Below.refl _ _).alloc (Nat.le_refl _) _)).below hb1).below hb2))
  go_quiet (first | (go_at_call 34; exact Calls.quiet_of_same (reg_i rd _ r0.1 r0.2)) | (go_at_call 34; exact Calls.quiet_of_same (reg_i rs1 _ r1.1 r1.2)) | (go_at_call 34; exact Calls.quiet_of_same (reg_i rs2 _ r2.1 r2.2)))
  go_wp2_with (first | (go_at_call 22; refine (form_f k 115 .s HK.out HF.out rfl _).mono ?_; rintro e w' ⟨rfl, rfl⟩))
  go_ret
  have b1 : Below w.heap.size w w1 := ((Below.refl _ w).alloc (Nat.le_refl _) _).trans (hb1.mono (by simp))
  have b2 : Below w.heap.size w w2 := b1.trans (hb2.mono (Nat.le_of_lt hz1))
  have b3 : ∀ q, Below w.heap.size w (w2.drewN q) := fun q => ⟨b2.os, b2.tape, b2.output, b2.size, b2.block⟩
  exact ⟨rfl, (b3 _)⟩

set_option maxRecDepth 100000 in
set_option maxHeartbeats 4000000 in
theorem rtext_r (rd rs1 rs2 imm : Int) (w : World) (hP : TabP w) (h0 : 0 ≤ imm) (h1 : imm < 4294967296) (k : Nat) (hk : k < 59) (hf : formK k = .r) (ok : okF .r (Inst.mk (k + 1) rd rs1 rs2 imm false false) = true) :
    Calls Tryd.prog 19 #[.agg (Inst.mk (k + 1) rd rs1 rs2 imm false false).val] w fun e w' => e = .returned (.string (bs (textL k (Inst.mk (k + 1) rd rs1 rs2 imm false false)))) ∧ Below w.heap.size w w' := by
  rw [okF_iff] at ok
  simp only at ok
  obtain ⟨k1, k2, k3, k4, k5⟩ := ok
  have r0 := regB_b k1
  have r1 := regB_b k2
  have r2 := regB_b k3
  clear k1 k2 k3 k4 k5
  have nn := nmL_len k hk
  have a0 := xL_len rd r0.1 r0.2
  have a1 := xL_len rs1 r1.1 r1.2
  have a2 := xL_len rs2 r2.1 r2.2
  have am := mL_len (Inst.mk (k + 1) rd rs1 rs2 imm false false) h0 h1
  have au := dec_len (imm / 4096).toNat (by omega)
  have htx : textL k (Inst.mk (k + 1) rd rs1 rs2 imm false false) = nmL k ++ sufL false false ++ endL (toldL .r (Inst.mk (k + 1) rd rs1 rs2 imm false false)) := by unfold textL; rw [hf]
  obtain ⟨L0, hL0⟩ : ∃ L, nmL k ++ [32] = L := ⟨_, rfl⟩
  have n0 : L0.length ≤ 9 := by rw [← hL0]; simp only [List.length_append, List.length_cons, List.length_nil]; omega
  have hs0 : ∀ W, (Op.stringOp .add (bs (nmL k)) (⟨#[32]⟩)).run Tryd.prog W = .ok (.string (bs L0)) W := fun W => hL0 ▸ add_bs (a := nmL k) (b := [32]) (by (try simp only [List.length_cons, List.length_nil]); omega) W
  obtain ⟨L1, hL1⟩ : ∃ L, L0 ++ xL rd = L := ⟨_, rfl⟩
  have n1 : L1.length ≤ 31 := by rw [← hL1]; simp only [List.length_append, List.length_cons, List.length_nil]; omega
  have hs1 : ∀ W, (Op.stringOp .add (bs L0) (bs (xL rd))).run Tryd.prog W = .ok (.string (bs L1)) W := fun W => hL1 ▸ add_bs (a := L0) (b := xL rd) (by (try simp only [List.length_cons, List.length_nil]); omega) W
  obtain ⟨L2, hL2⟩ : ∃ L, L1 ++ [44, 32] = L := ⟨_, rfl⟩
  have n2 : L2.length ≤ 33 := by rw [← hL2]; simp only [List.length_append, List.length_cons, List.length_nil]; omega
  have hs2 : ∀ W, (Op.stringOp .add (bs L1) (⟨#[44, 32]⟩)).run Tryd.prog W = .ok (.string (bs L2)) W := fun W => hL2 ▸ add_bs (a := L1) (b := [44, 32]) (by (try simp only [List.length_cons, List.length_nil]); omega) W
  obtain ⟨L3, hL3⟩ : ∃ L, L2 ++ xL rs1 = L := ⟨_, rfl⟩
  have n3 : L3.length ≤ 55 := by rw [← hL3]; simp only [List.length_append, List.length_cons, List.length_nil]; omega
  have hs3 : ∀ W, (Op.stringOp .add (bs L2) (bs (xL rs1))).run Tryd.prog W = .ok (.string (bs L3)) W := fun W => hL3 ▸ add_bs (a := L2) (b := xL rs1) (by (try simp only [List.length_cons, List.length_nil]); omega) W
  obtain ⟨L4, hL4⟩ : ∃ L, L3 ++ [44, 32] = L := ⟨_, rfl⟩
  have n4 : L4.length ≤ 57 := by rw [← hL4]; simp only [List.length_append, List.length_cons, List.length_nil]; omega
  have hs4 : ∀ W, (Op.stringOp .add (bs L3) (⟨#[44, 32]⟩)).run Tryd.prog W = .ok (.string (bs L4)) W := fun W => hL4 ▸ add_bs (a := L3) (b := [44, 32]) (by (try simp only [List.length_cons, List.length_nil]); omega) W
  obtain ⟨L5, hL5⟩ : ∃ L, L4 ++ xL rs2 = L := ⟨_, rfl⟩
  have n5 : L5.length ≤ 79 := by rw [← hL5]; simp only [List.length_append, List.length_cons, List.length_nil]; omega
  have hs5 : ∀ W, (Op.stringOp .add (bs L4) (bs (xL rs2))).run Tryd.prog W = .ok (.string (bs L5)) W := fun W => hL5 ▸ add_bs (a := L4) (b := xL rs2) (by (try simp only [List.length_cons, List.length_nil]); omega) W
  have hfin : nmL k ++ sufL false false ++ endL (toldL .r (Inst.mk (k + 1) rd rs1 rs2 imm false false)) = L5 := by
    have hm := itoa_ne (sgn imm)
    rw [← hL5, ← hL4, ← hL3, ← hL2, ← hL1, ← hL0]
    simp [sufL, endL, toldL, join2, join3, xL, mL, hm]
  rw [htx, hfin]
  have hs : -9223372036854775808 ≤ sgn imm ∧ sgn imm ≤ 9223372036854775807 := by unfold sgn; split <;> omega
  have CN := Lib.hid (fun W => rname_k k W hk)
  have CF := Lib.hid (fun W hP => fmt_i (Inst.mk (k + 1) rd rs1 rs2 imm false false) (sgn imm) rfl W hP hs.1 hs.2)
  have HK := Lib.hid hk
  have HF := Lib.hid hf
  have HP := Lib.hid hP
  clear hk hf hP hs htx hfin a0 a1 a2 am au nn hL0 n0 hL1 n1 hL2 n2 hL3 n3 hL4 n4 hL5 n5
  generalize mL (Inst.mk (k + 1) rd rs1 rs2 imm false false) = M at *
  unfold Inst.val
  go_enter Tryd.func19, Tryd.ntmps19
  go_upto_region 10 with (first | (go_at_call 17; refine (CN.out _).mono ?_; rintro e w1 ⟨rfl, hb1⟩; have hi1 : w1.heap[w.heap.size]? = some (.cells (Inst.mk (k + 1) rd rs1 rs2 imm false false).val 25 (0, 0)) := (hb1.block _ (by simp)).trans (World.alloc_heap_new w _); have hz1 : w.heap.size < w1.heap.size := (by have z := hb1.size; rw [World.size_alloc] at z; exact z); obtain ⟨q0, q1, q2, q3, q4, q5, q6⟩ := cells_inst hi1; simp only at q0 q1 q2 q3 q4 q5 q6) | (go_at_call 28; refine (signed_ref _ _ h0 h1).mono ?_; rintro e w' ⟨rfl, rfl⟩) | (go_at_call 33; refine (CF.out _ ?_).mono ?_; exact (HP.out.below ((Below.refl _ _).alloc (Nat.le_refl _) _)).below hb1; rintro e w2 ⟨rfl, hb2⟩; have hi2 : w2.heap[w.heap.size]? = some (.cells (Inst.mk (k + 1) rd rs1 rs2 imm false false).val 25 (0, 0)) := (hb2.block _ hz1).trans hi1; obtain ⟨s0, s1, s2, s3, s4, s5, s6⟩ := cells_inst hi2; simp only at s0 s1 s2 s3 s4 s5 s6; have hp2 : TabP w2 := ((HP.out.below ((Below.refl _ _).alloc (Nat.le_refl _) _)).below hb1).below hb2))
  go_quiet (first | (go_at_call 34; exact Calls.quiet_of_same (reg_i rd _ r0.1 r0.2)) | (go_at_call 34; exact Calls.quiet_of_same (reg_i rs1 _ r1.1 r1.2)) | (go_at_call 34; exact Calls.quiet_of_same (reg_i rs2 _ r2.1 r2.2)))
  go_wp2_with (first | (go_at_call 22; refine (form_f k 114 .r HK.out HF.out rfl _).mono ?_; rintro e w' ⟨rfl, rfl⟩))
  go_ret
  have b1 : Below w.heap.size w w1 := ((Below.refl _ w).alloc (Nat.le_refl _) _).trans (hb1.mono (by simp))
  have b2 : Below w.heap.size w w2 := b1.trans (hb2.mono (Nat.le_of_lt hz1))
  have b3 : ∀ q, Below w.heap.size w (w2.drewN q) := fun q => ⟨b2.os, b2.tape, b2.output, b2.size, b2.block⟩
  exact ⟨rfl, (b3 _)⟩

set_option maxRecDepth 100000 in
set_option maxHeartbeats 4000000 in
theorem rtext_fence (rd rs1 rs2 imm : Int) (w : World) (hP : TabP w) (h0 : 0 ≤ imm) (h1 : imm < 4294967296) (k : Nat) (hk : k < 59) (hf : formK k = .fence) (ok : okF .fence (Inst.mk (k + 1) rd rs1 rs2 imm false false) = true) :
    Calls Tryd.prog 19 #[.agg (Inst.mk (k + 1) rd rs1 rs2 imm false false).val] w fun e w' => e = .returned (.string (bs (textL k (Inst.mk (k + 1) rd rs1 rs2 imm false false)))) ∧ Below w.heap.size w w' := by
  rw [okF_iff] at ok
  simp only at ok
  obtain ⟨k1, k2, k3, k4, k5⟩ := ok
  have r0 := regB_b k1
  have r1 := regB_b k2
  have r2 := regB_b k3
  clear k1 k2 k3 k4 k5
  have nn := nmL_len k hk
  have a0 := xL_len rd r0.1 r0.2
  have a1 := xL_len rs1 r1.1 r1.2
  have a2 := xL_len rs2 r2.1 r2.2
  have am := mL_len (Inst.mk (k + 1) rd rs1 rs2 imm false false) h0 h1
  have au := dec_len (imm / 4096).toNat (by omega)
  have htx : textL k (Inst.mk (k + 1) rd rs1 rs2 imm false false) = nmL k ++ sufL false false ++ endL (toldL .fence (Inst.mk (k + 1) rd rs1 rs2 imm false false)) := by unfold textL; rw [hf]
  obtain ⟨L0, hL0⟩ : ∃ L, nmL k ++ [32] = L := ⟨_, rfl⟩
  have n0 : L0.length ≤ 9 := by rw [← hL0]; simp only [List.length_append, List.length_cons, List.length_nil]; omega
  have hs0 : ∀ W, (Op.stringOp .add (bs (nmL k)) (⟨#[32]⟩)).run Tryd.prog W = .ok (.string (bs L0)) W := fun W => hL0 ▸ add_bs (a := nmL k) (b := [32]) (by (try simp only [List.length_cons, List.length_nil]); omega) W
  obtain ⟨L1, hL1⟩ : ∃ L, L0 ++ mL (Inst.mk (k + 1) rd rs1 rs2 imm false false) = L := ⟨_, rfl⟩
  have n1 : L1.length ≤ 30 := by rw [← hL1]; simp only [List.length_append, List.length_cons, List.length_nil]; omega
  have hs1 : ∀ W, (Op.stringOp .add (bs L0) (bs (mL (Inst.mk (k + 1) rd rs1 rs2 imm false false)))).run Tryd.prog W = .ok (.string (bs L1)) W := fun W => hL1 ▸ add_bs (a := L0) (b := mL (Inst.mk (k + 1) rd rs1 rs2 imm false false)) (by (try simp only [List.length_cons, List.length_nil]); omega) W
  have hfin : nmL k ++ sufL false false ++ endL (toldL .fence (Inst.mk (k + 1) rd rs1 rs2 imm false false)) = L1 := by
    have hm := itoa_ne (sgn imm)
    rw [← hL1, ← hL0]
    simp [sufL, endL, toldL, join2, join3, xL, mL, hm]
  rw [htx, hfin]
  have hs : -9223372036854775808 ≤ sgn imm ∧ sgn imm ≤ 9223372036854775807 := by unfold sgn; split <;> omega
  have CN := Lib.hid (fun W => rname_k k W hk)
  have CF := Lib.hid (fun W hP => fmt_i (Inst.mk (k + 1) rd rs1 rs2 imm false false) (sgn imm) rfl W hP hs.1 hs.2)
  have HK := Lib.hid hk
  have HF := Lib.hid hf
  have HP := Lib.hid hP
  clear hk hf hP hs htx hfin a0 a1 a2 am au nn hL0 n0 hL1 n1
  generalize mL (Inst.mk (k + 1) rd rs1 rs2 imm false false) = M at *
  unfold Inst.val
  go_enter Tryd.func19, Tryd.ntmps19
  go_upto_region 10 with (first | (go_at_call 17; refine (CN.out _).mono ?_; rintro e w1 ⟨rfl, hb1⟩; have hi1 : w1.heap[w.heap.size]? = some (.cells (Inst.mk (k + 1) rd rs1 rs2 imm false false).val 25 (0, 0)) := (hb1.block _ (by simp)).trans (World.alloc_heap_new w _); have hz1 : w.heap.size < w1.heap.size := (by have z := hb1.size; rw [World.size_alloc] at z; exact z); obtain ⟨q0, q1, q2, q3, q4, q5, q6⟩ := cells_inst hi1; simp only at q0 q1 q2 q3 q4 q5 q6) | (go_at_call 28; refine (signed_ref _ _ h0 h1).mono ?_; rintro e w' ⟨rfl, rfl⟩) | (go_at_call 33; refine (CF.out _ ?_).mono ?_; exact (HP.out.below ((Below.refl _ _).alloc (Nat.le_refl _) _)).below hb1; rintro e w2 ⟨rfl, hb2⟩; have hi2 : w2.heap[w.heap.size]? = some (.cells (Inst.mk (k + 1) rd rs1 rs2 imm false false).val 25 (0, 0)) := (hb2.block _ hz1).trans hi1; obtain ⟨s0, s1, s2, s3, s4, s5, s6⟩ := cells_inst hi2; simp only at s0 s1 s2 s3 s4 s5 s6; have hp2 : TabP w2 := ((HP.out.below ((Below.refl _ _).alloc (Nat.le_refl _) _)).below hb1).below hb2))
  go_quiet (first | (go_at_call 34; exact Calls.quiet_of_same (reg_i rd _ r0.1 r0.2)) | (go_at_call 34; exact Calls.quiet_of_same (reg_i rs1 _ r1.1 r1.2)) | (go_at_call 34; exact Calls.quiet_of_same (reg_i rs2 _ r2.1 r2.2)))
  go_wp2_with (first | (go_at_call 22; refine (form_f k 102 .fence HK.out HF.out rfl _).mono ?_; rintro e w' ⟨rfl, rfl⟩))
  go_ret
  have b1 : Below w.heap.size w w1 := ((Below.refl _ w).alloc (Nat.le_refl _) _).trans (hb1.mono (by simp))
  have b2 : Below w.heap.size w w2 := b1.trans (hb2.mono (Nat.le_of_lt hz1))
  have b3 : ∀ q, Below w.heap.size w (w2.drewN q) := fun q => ⟨b2.os, b2.tape, b2.output, b2.size, b2.block⟩
  exact ⟨rfl, (b3 _)⟩

set_option maxRecDepth 100000 in
set_option maxHeartbeats 4000000 in
theorem rtext_all (rd rs1 rs2 imm : Int) (w : World) (hP : TabP w) (h0 : 0 ≤ imm) (h1 : imm < 4294967296) (k : Nat) (hk : k < 59) (hf : formK k = .all) (ok : okF .all (Inst.mk (k + 1) rd rs1 rs2 imm false false) = true) :
    Calls Tryd.prog 19 #[.agg (Inst.mk (k + 1) rd rs1 rs2 imm false false).val] w fun e w' => e = .returned (.string (bs (textL k (Inst.mk (k + 1) rd rs1 rs2 imm false false)))) ∧ Below w.heap.size w w' := by
  rw [okF_iff] at ok
  simp only at ok
  obtain ⟨k1, k2, k3, k4, k5⟩ := ok
  have r0 := regB_b k1
  have r1 := regB_b k2
  have r2 := regB_b k3
  clear k1 k2 k3 k4 k5
  have nn := nmL_len k hk
  have a0 := xL_len rd r0.1 r0.2
  have a1 := xL_len rs1 r1.1 r1.2
  have a2 := xL_len rs2 r2.1 r2.2
  have am := mL_len (Inst.mk (k + 1) rd rs1 rs2 imm false false) h0 h1
  have au := dec_len (imm / 4096).toNat (by omega)
  have htx : textL k (Inst.mk (k + 1) rd rs1 rs2 imm false false) = nmL k ++ sufL false false ++ endL (toldL .all (Inst.mk (k + 1) rd rs1 rs2 imm false false)) := by unfold textL; rw [hf]
  have hfin : nmL k ++ sufL false false ++ endL (toldL .all (Inst.mk (k + 1) rd rs1 rs2 imm false false)) = nmL k := by
    have hm := itoa_ne (sgn imm)
    skip
    simp [sufL, endL, toldL, join2, join3, xL, mL, hm]
  rw [htx, hfin]
  have hs : -9223372036854775808 ≤ sgn imm ∧ sgn imm ≤ 9223372036854775807 := by unfold sgn; split <;> omega
  have CN := Lib.hid (fun W => rname_k k W hk)
  have CF := Lib.hid (fun W hP => fmt_i (Inst.mk (k + 1) rd rs1 rs2 imm false false) (sgn imm) rfl W hP hs.1 hs.2)
  have HK := Lib.hid hk
  have HF := Lib.hid hf
  have HP := Lib.hid hP
  clear hk hf hP hs htx hfin a0 a1 a2 am au nn 
  generalize mL (Inst.mk (k + 1) rd rs1 rs2 imm false false) = M at *
  unfold Inst.val
  go_enter Tryd.func19, Tryd.ntmps19
  go_upto_region 10 with (first | (go_at_call 17; refine (CN.out _).mono ?_; rintro e w1 ⟨rfl, hb1⟩; have hi1 : w1.heap[w.heap.size]? = some (.cells (Inst.mk (k + 1) rd rs1 rs2 imm false false).val 25 (0, 0)) := (hb1.block _ (by simp)).trans (World.alloc_heap_new w _); have hz1 : w.heap.size < w1.heap.size := (by have z := hb1.size; rw [World.size_alloc] at z; exact z); obtain ⟨q0, q1, q2, q3, q4, q5, q6⟩ := cells_inst hi1; simp only at q0 q1 q2 q3 q4 q5 q6) | (go_at_call 28; refine (signed_ref _ _ h0 h1).mono ?_; rintro e w' ⟨rfl, rfl⟩) | (go_at_call 33; refine (CF.out _ ?_).mono ?_; exact (HP.out.below ((Below.refl _ _).alloc (Nat.le_refl _) _)).below hb1; rintro e w2 ⟨rfl, hb2⟩; have hi2 : w2.heap[w.heap.size]? = some (.cells (Inst.mk (k + 1) rd rs1 rs2 imm false false).val 25 (0, 0)) := (hb2.block _ hz1).trans hi1; obtain ⟨s0, s1, s2, s3, s4, s5, s6⟩ := cells_inst hi2; simp only at s0 s1 s2 s3 s4 s5 s6; have hp2 : TabP w2 := ((HP.out.below ((Below.refl _ _).alloc (Nat.le_refl _) _)).below hb1).below hb2))
  go_quiet (first | (go_at_call 34; exact Calls.quiet_of_same (reg_i rd _ r0.1 r0.2)) | (go_at_call 34; exact Calls.quiet_of_same (reg_i rs1 _ r1.1 r1.2)) | (go_at_call 34; exact Calls.quiet_of_same (reg_i rs2 _ r2.1 r2.2)))
  go_wp2_with (first | (go_at_call 22; refine (form_f k 101 .all HK.out HF.out rfl _).mono ?_; rintro e w' ⟨rfl, rfl⟩))
  go_ret
  have b1 : Below w.heap.size w w1 := ((Below.refl _ w).alloc (Nat.le_refl _) _).trans (hb1.mono (by simp))
  have b2 : Below w.heap.size w w2 := b1.trans (hb2.mono (Nat.le_of_lt hz1))
  have b3 : ∀ q, Below w.heap.size w (w2.drewN q) := fun q => ⟨b2.os, b2.tape, b2.output, b2.size, b2.block⟩
  exact ⟨rfl, (b3 _)⟩

set_option maxRecDepth 100000 in
set_option maxHeartbeats 4000000 in
theorem rtext_lr_ff (rd rs1 rs2 imm : Int) (w : World) (hP : TabP w) (h0 : 0 ≤ imm) (h1 : imm < 4294967296) (k : Nat) (hk : k < 59) (hf : formK k = .lr) (ok : okF .lr (Inst.mk (k + 1) rd rs1 rs2 imm false false) = true) :
    Calls Tryd.prog 19 #[.agg (Inst.mk (k + 1) rd rs1 rs2 imm false false).val] w fun e w' => e = .returned (.string (bs (textL k (Inst.mk (k + 1) rd rs1 rs2 imm false false)))) ∧ Below w.heap.size w w' := by
  rw [okF_iff] at ok
  simp only at ok
  obtain ⟨k1, k2, k3, k4, k5⟩ := ok
  have r0 := regB_b k1
  have r1 := regB_b k2
  have r2 := regB_b k3
  clear k1 k2 k3 k4 k5
  have nn := nmL_len k hk
  have a0 := xL_len rd r0.1 r0.2
  have a1 := xL_len rs1 r1.1 r1.2
  have a2 := xL_len rs2 r2.1 r2.2
  have am := mL_len (Inst.mk (k + 1) rd rs1 rs2 imm false false) h0 h1
  have au := dec_len (imm / 4096).toNat (by omega)
  have htx : textL k (Inst.mk (k + 1) rd rs1 rs2 imm false false) = nmL k ++ sufL false false ++ endL (toldL .lr (Inst.mk (k + 1) rd rs1 rs2 imm false false)) := by unfold textL; rw [hf]
  obtain ⟨L0, hL0⟩ : ∃ L, nmL k ++ [32] = L := ⟨_, rfl⟩
  have n0 : L0.length ≤ 9 := by rw [← hL0]; simp only [List.length_append, List.length_cons, List.length_nil]; omega
  have hs0 : ∀ W, (Op.stringOp .add (bs (nmL k)) (⟨#[32]⟩)).run Tryd.prog W = .ok (.string (bs L0)) W := fun W => hL0 ▸ add_bs (a := nmL k) (b := [32]) (by (try simp only [List.length_cons, List.length_nil]); omega) W
  obtain ⟨L1, hL1⟩ : ∃ L, L0 ++ xL rd = L := ⟨_, rfl⟩
  have n1 : L1.length ≤ 31 := by rw [← hL1]; simp only [List.length_append, List.length_cons, List.length_nil]; omega
  have hs1 : ∀ W, (Op.stringOp .add (bs L0) (bs (xL rd))).run Tryd.prog W = .ok (.string (bs L1)) W := fun W => hL1 ▸ add_bs (a := L0) (b := xL rd) (by (try simp only [List.length_cons, List.length_nil]); omega) W
  obtain ⟨L2, hL2⟩ : ∃ L, L1 ++ [44, 32, 40] = L := ⟨_, rfl⟩
  have n2 : L2.length ≤ 34 := by rw [← hL2]; simp only [List.length_append, List.length_cons, List.length_nil]; omega
  have hs2 : ∀ W, (Op.stringOp .add (bs L1) (⟨#[44, 32, 40]⟩)).run Tryd.prog W = .ok (.string (bs L2)) W := fun W => hL2 ▸ add_bs (a := L1) (b := [44, 32, 40]) (by (try simp only [List.length_cons, List.length_nil]); omega) W
  obtain ⟨L3, hL3⟩ : ∃ L, L2 ++ xL rs1 = L := ⟨_, rfl⟩
  have n3 : L3.length ≤ 56 := by rw [← hL3]; simp only [List.length_append, List.length_cons, List.length_nil]; omega
  have hs3 : ∀ W, (Op.stringOp .add (bs L2) (bs (xL rs1))).run Tryd.prog W = .ok (.string (bs L3)) W := fun W => hL3 ▸ add_bs (a := L2) (b := xL rs1) (by (try simp only [List.length_cons, List.length_nil]); omega) W
  obtain ⟨L4, hL4⟩ : ∃ L, L3 ++ [41] = L := ⟨_, rfl⟩
  have n4 : L4.length ≤ 57 := by rw [← hL4]; simp only [List.length_append, List.length_cons, List.length_nil]; omega
  have hs4 : ∀ W, (Op.stringOp .add (bs L3) (⟨#[41]⟩)).run Tryd.prog W = .ok (.string (bs L4)) W := fun W => hL4 ▸ add_bs (a := L3) (b := [41]) (by (try simp only [List.length_cons, List.length_nil]); omega) W
  have hfin : nmL k ++ sufL false false ++ endL (toldL .lr (Inst.mk (k + 1) rd rs1 rs2 imm false false)) = L4 := by
    have hm := itoa_ne (sgn imm)
    rw [← hL4, ← hL3, ← hL2, ← hL1, ← hL0]
    simp [sufL, endL, toldL, join2, join3, xL, mL, hm]
  rw [htx, hfin]
  have hs : -9223372036854775808 ≤ sgn imm ∧ sgn imm ≤ 9223372036854775807 := by unfold sgn; split <;> omega
  have CN := Lib.hid (fun W => rname_k k W hk)
  have CF := Lib.hid (fun W hP => fmt_i (Inst.mk (k + 1) rd rs1 rs2 imm false false) (sgn imm) rfl W hP hs.1 hs.2)
  have HK := Lib.hid hk
  have HF := Lib.hid hf
  have HP := Lib.hid hP
  clear hk hf hP hs htx hfin a0 a1 a2 am au nn hL0 n0 hL1 n1 hL2 n2 hL3 n3 hL4 n4
  generalize mL (Inst.mk (k + 1) rd rs1 rs2 imm false false) = M at *
  unfold Inst.val
  go_enter Tryd.func19, Tryd.ntmps19
  go_upto_region 10 with (first | (go_at_call 17; refine (CN.out _).mono ?_; rintro e w1 ⟨rfl, hb1⟩; have hi1 : w1.heap[w.heap.size]? = some (.cells (Inst.mk (k + 1) rd rs1 rs2 imm false false).val 25 (0, 0)) := (hb1.block _ (by simp)).trans (World.alloc_heap_new w _); have hz1 : w.heap.size < w1.heap.size := (by have z := hb1.size; rw [World.size_alloc] at z; exact z); obtain ⟨q0, q1, q2, q3, q4, q5, q6⟩ := cells_inst hi1; simp only at q0 q1 q2 q3 q4 q5 q6) | (go_at_call 28; refine (signed_ref _ _ h0 h1).mono ?_; rintro e w' ⟨rfl, rfl⟩) | (go_at_call 33; refine (CF.out _ ?_).mono ?_; exact (HP.out.below ((Below.refl _ _).alloc (Nat.le_refl _) _)).below hb1; rintro e w2 ⟨rfl, hb2⟩; have hi2 : w2.heap[w.heap.size]? = some (.cells (Inst.mk (k + 1) rd rs1 rs2 imm false false).val 25 (0, 0)) := (hb2.block _ hz1).trans hi1; obtain ⟨s0, s1, s2, s3, s4, s5, s6⟩ := cells_inst hi2; simp only at s0 s1 s2 s3 s4 s5 s6; have hp2 : TabP w2 := ((HP.out.below ((Below.refl _ _).alloc (Nat.le_refl _) _)).below hb1).below hb2))
  go_quiet (first | (go_at_call 34; exact Calls.quiet_of_same (reg_i rd _ r0.1 r0.2)) | (go_at_call 34; exact Calls.quiet_of_same (reg_i rs1 _ r1.1 r1.2)) | (go_at_call 34; exact Calls.quiet_of_same (reg_i rs2 _ r2.1 r2.2)))
  go_wp2_with (first | (go_at_call 22; refine (form_f k 113 .lr HK.out HF.out rfl _).mono ?_; rintro e w' ⟨rfl, rfl⟩))
  go_ret
  have b1 : Below w.heap.size w w1 := ((Below.refl _ w).alloc (Nat.le_refl _) _).trans (hb1.mono (by simp))
  have b2 : Below w.heap.size w w2 := b1.trans (hb2.mono (Nat.le_of_lt hz1))
  have b3 : ∀ q, Below w.heap.size w (w2.drewN q) := fun q => ⟨b2.os, b2.tape, b2.output, b2.size, b2.block⟩
  exact ⟨rfl, (b3 _)⟩

set_option maxRecDepth 100000 in
set_option maxHeartbeats 4000000 in
theorem rtext_lr_ft (rd rs1 rs2 imm : Int) (w : World) (hP : TabP w) (h0 : 0 ≤ imm) (h1 : imm < 4294967296) (k : Nat) (hk : k < 59) (hf : formK k = .lr) (ok : okF .lr (Inst.mk (k + 1) rd rs1 rs2 imm false true) = true) :
    Calls Tryd.prog 19 #[.agg (Inst.mk (k + 1) rd rs1 rs2 imm false true).val] w fun e w' => e = .returned (.string (bs (textL k (Inst.mk (k + 1) rd rs1 rs2 imm false true)))) ∧ Below w.heap.size w w' := by
  rw [okF_iff] at ok
  simp only at ok
  obtain ⟨k1, k2, k3, k4, k5⟩ := ok
  have r0 := regB_b k1
  have r1 := regB_b k2
  have r2 := regB_b k3
  clear k1 k2 k3 k4 k5
  have nn := nmL_len k hk
  have a0 := xL_len rd r0.1 r0.2
  have a1 := xL_len rs1 r1.1 r1.2
  have a2 := xL_len rs2 r2.1 r2.2
  have am := mL_len (Inst.mk (k + 1) rd rs1 rs2 imm false true) h0 h1
  have au := dec_len (imm / 4096).toNat (by omega)
  have htx : textL k (Inst.mk (k + 1) rd rs1 rs2 imm false true) = nmL k ++ sufL false true ++ endL (toldL .lr (Inst.mk (k + 1) rd rs1 rs2 imm false true)) := by unfold textL; rw [hf]
  obtain ⟨L0, hL0⟩ : ∃ L, nmL k ++ [46, 114, 108] = L := ⟨_, rfl⟩
  have n0 : L0.length ≤ 11 := by rw [← hL0]; simp only [List.length_append, List.length_cons, List.length_nil]; omega
  have hs0 : ∀ W, (Op.stringOp .add (bs (nmL k)) (⟨#[46, 114, 108]⟩)).run Tryd.prog W = .ok (.string (bs L0)) W := fun W => hL0 ▸ add_bs (a := nmL k) (b := [46, 114, 108]) (by (try simp only [List.length_cons, List.length_nil]); omega) W
  obtain ⟨L1, hL1⟩ : ∃ L, L0 ++ [32] = L := ⟨_, rfl⟩
  have n1 : L1.length ≤ 12 := by rw [← hL1]; simp only [List.length_append, List.length_cons, List.length_nil]; omega
  have hs1 : ∀ W, (Op.stringOp .add (bs L0) (⟨#[32]⟩)).run Tryd.prog W = .ok (.string (bs L1)) W := fun W => hL1 ▸ add_bs (a := L0) (b := [32]) (by (try simp only [List.length_cons, List.length_nil]); omega) W
  obtain ⟨L2, hL2⟩ : ∃ L, L1 ++ xL rd = L := ⟨_, rfl⟩
  have n2 : L2.length ≤ 34 := by rw [← hL2]; simp only [List.length_append, List.length_cons, List.length_nil]; omega
  have hs2 : ∀ W, (Op.stringOp .add (bs L1) (bs (xL rd))).run Tryd.prog W = .ok (.string (bs L2)) W := fun W => hL2 ▸ add_bs (a := L1) (b := xL rd) (by (try simp only [List.length_cons, List.length_nil]); omega) W
  obtain ⟨L3, hL3⟩ : ∃ L, L2 ++ [44, 32, 40] = L := ⟨_, rfl⟩
  have n3 : L3.length ≤ 37 := by rw [← hL3]; simp only [List.length_append, List.length_cons, List.length_nil]; omega
  have hs3 : ∀ W, (Op.stringOp .add (bs L2) (⟨#[44, 32, 40]⟩)).run Tryd.prog W = .ok (.string (bs L3)) W := fun W => hL3 ▸ add_bs (a := L2) (b := [44, 32, 40]) (by (try simp only [List.length_cons, List.length_nil]); omega) W
  obtain ⟨L4, hL4⟩ : ∃ L, L3 ++ xL rs1 = L := ⟨_, rfl⟩
  have n4 : L4.length ≤ 59 := by rw [← hL4]; simp only [List.length_append, List.length_cons, List.length_nil]; omega
  have hs4 : ∀ W, (Op.stringOp .add (bs L3) (bs (xL rs1))).run Tryd.prog W = .ok (.string (bs L4)) W := fun W => hL4 ▸ add_bs (a := L3) (b := xL rs1) (by (try simp only [List.length_cons, List.length_nil]); omega) W
  obtain ⟨L5, hL5⟩ : ∃ L, L4 ++ [41] = L := ⟨_, rfl⟩
  have n5 : L5.length ≤ 60 := by rw [← hL5]; simp only [List.length_append, List.length_cons, List.length_nil]; omega
  have hs5 : ∀ W, (Op.stringOp .add (bs L4) (⟨#[41]⟩)).run Tryd.prog W = .ok (.string (bs L5)) W := fun W => hL5 ▸ add_bs (a := L4) (b := [41]) (by (try simp only [List.length_cons, List.length_nil]); omega) W
  have hfin : nmL k ++ sufL false true ++ endL (toldL .lr (Inst.mk (k + 1) rd rs1 rs2 imm false true)) = L5 := by
    have hm := itoa_ne (sgn imm)
    rw [← hL5, ← hL4, ← hL3, ← hL2, ← hL1, ← hL0]
    simp [sufL, endL, toldL, join2, join3, xL, mL, hm]
  rw [htx, hfin]
  have hs : -9223372036854775808 ≤ sgn imm ∧ sgn imm ≤ 9223372036854775807 := by unfold sgn; split <;> omega
  have CN := Lib.hid (fun W => rname_k k W hk)
  have CF := Lib.hid (fun W hP => fmt_i (Inst.mk (k + 1) rd rs1 rs2 imm false true) (sgn imm) rfl W hP hs.1 hs.2)
  have HK := Lib.hid hk
  have HF := Lib.hid hf
  have HP := Lib.hid hP
  clear hk hf hP hs htx hfin a0 a1 a2 am au nn hL0 n0 hL1 n1 hL2 n2 hL3 n3 hL4 n4 hL5 n5
  generalize mL (Inst.mk (k + 1) rd rs1 rs2 imm false true) = M at *
  unfold Inst.val
  go_enter Tryd.func19, Tryd.ntmps19
  go_upto_region 10 with (first | (go_at_call 17; refine (CN.out _).mono ?_; rintro e w1 ⟨rfl, hb1⟩; have hi1 : w1.heap[w.heap.size]? = some (.cells (Inst.mk (k + 1) rd rs1 rs2 imm false true).val 25 (0, 0)) := (hb1.block _ (by simp)).trans (World.alloc_heap_new w _); have hz1 : w.heap.size < w1.heap.size := (by have z := hb1.size; rw [World.size_alloc] at z; exact z); obtain ⟨q0, q1, q2, q3, q4, q5, q6⟩ := cells_inst hi1; simp only at q0 q1 q2 q3 q4 q5 q6) | (go_at_call 28; refine (signed_ref _ _ h0 h1).mono ?_; rintro e w' ⟨rfl, rfl⟩) | (go_at_call 33; refine (CF.out _ ?_).mono ?_; exact (HP.out.below ((Below.refl _ _).alloc (Nat.le_refl _) _)).below hb1; rintro e w2 ⟨rfl, hb2⟩; have hi2 : w2.heap[w.heap.size]? = some (.cells (Inst.mk (k + 1) rd rs1 rs2 imm false true).val 25 (0, 0)) := (hb2.block _ hz1).trans hi1; obtain ⟨s0, s1, s2, s3, s4, s5, s6⟩ := cells_inst hi2; simp only at s0 s1 s2 s3 s4 s5 s6; have hp2 : TabP w2 := ((HP.out.below ((Below.refl _ _).alloc (Nat.le_refl _) _)).below hb1).below hb2))
  go_quiet (first | (go_at_call 34; exact Calls.quiet_of_same (reg_i rd _ r0.1 r0.2)) | (go_at_call 34; exact Calls.quiet_of_same (reg_i rs1 _ r1.1 r1.2)) | (go_at_call 34; exact Calls.quiet_of_same (reg_i rs2 _ r2.1 r2.2)))
  go_wp2_with (first | (go_at_call 22; refine (form_f k 113 .lr HK.out HF.out rfl _).mono ?_; rintro e w' ⟨rfl, rfl⟩))
  go_ret
  have b1 : Below w.heap.size w w1 := ((Below.refl _ w).alloc (Nat.le_refl _) _).trans (hb1.mono (by simp))
  have b2 : Below w.heap.size w w2 := b1.trans (hb2.mono (Nat.le_of_lt hz1))
  have b3 : ∀ q, Below w.heap.size w (w2.drewN q) := fun q => ⟨b2.os, b2.tape, b2.output, b2.size, b2.block⟩
  exact ⟨rfl, (b3 _)⟩

set_option maxRecDepth 100000 in
set_option maxHeartbeats 4000000 in
theorem rtext_lr_tf (rd rs1 rs2 imm : Int) (w : World) (hP : TabP w) (h0 : 0 ≤ imm) (h1 : imm < 4294967296) (k : Nat) (hk : k < 59) (hf : formK k = .lr) (ok : okF .lr (Inst.mk (k + 1) rd rs1 rs2 imm true false) = true) :
    Calls Tryd.prog 19 #[.agg (Inst.mk (k + 1) rd rs1 rs2 imm true false).val] w fun e w' => e = .returned (.string (bs (textL k (Inst.mk (k + 1) rd rs1 rs2 imm true false)))) ∧ Below w.heap.size w w' := by
  rw [okF_iff] at ok
  simp only at ok
  obtain ⟨k1, k2, k3, k4, k5⟩ := ok
  have r0 := regB_b k1
  have r1 := regB_b k2
  have r2 := regB_b k3
  clear k1 k2 k3 k4 k5
  have nn := nmL_len k hk
  have a0 := xL_len rd r0.1 r0.2
  have a1 := xL_len rs1 r1.1 r1.2
  have a2 := xL_len rs2 r2.1 r2.2
  have am := mL_len (Inst.mk (k + 1) rd rs1 rs2 imm true false) h0 h1
  have au := dec_len (imm / 4096).toNat (by omega)
  have htx : textL k (Inst.mk (k + 1) rd rs1 rs2 imm true false) = nmL k ++ sufL true false ++ endL (toldL .lr (Inst.mk (k + 1) rd rs1 rs2 imm true false)) := by unfold textL; rw [hf]
  obtain ⟨L0, hL0⟩ : ∃ L, nmL k ++ [46, 97, 113] = L := ⟨_, rfl⟩
  have n0 : L0.length ≤ 11 := by rw [← hL0]; simp only [List.length_append, List.length_cons, List.length_nil]; omega
  have hs0 : ∀ W, (Op.stringOp .add (bs (nmL k)) (⟨#[46, 97, 113]⟩)).run Tryd.prog W = .ok (.string (bs L0)) W := fun W => hL0 ▸ add_bs (a := nmL k) (b := [46, 97, 113]) (by (try simp only [List.length_cons, List.length_nil]); omega) W
  obtain ⟨L1, hL1⟩ : ∃ L, L0 ++ [32] = L := ⟨_, rfl⟩
  have n1 : L1.length ≤ 12 := by rw [← hL1]; simp only [List.length_append, List.length_cons, List.length_nil]; omega
  have hs1 : ∀ W, (Op.stringOp .add (bs L0) (⟨#[32]⟩)).run Tryd.prog W = .ok (.string (bs L1)) W := fun W => hL1 ▸ add_bs (a := L0) (b := [32]) (by (try simp only [List.length_cons, List.length_nil]); omega) W
  obtain ⟨L2, hL2⟩ : ∃ L, L1 ++ xL rd = L := ⟨_, rfl⟩
  have n2 : L2.length ≤ 34 := by rw [← hL2]; simp only [List.length_append, List.length_cons, List.length_nil]; omega
  have hs2 : ∀ W, (Op.stringOp .add (bs L1) (bs (xL rd))).run Tryd.prog W = .ok (.string (bs L2)) W := fun W => hL2 ▸ add_bs (a := L1) (b := xL rd) (by (try simp only [List.length_cons, List.length_nil]); omega) W
  obtain ⟨L3, hL3⟩ : ∃ L, L2 ++ [44, 32, 40] = L := ⟨_, rfl⟩
  have n3 : L3.length ≤ 37 := by rw [← hL3]; simp only [List.length_append, List.length_cons, List.length_nil]; omega
  have hs3 : ∀ W, (Op.stringOp .add (bs L2) (⟨#[44, 32, 40]⟩)).run Tryd.prog W = .ok (.string (bs L3)) W := fun W => hL3 ▸ add_bs (a := L2) (b := [44, 32, 40]) (by (try simp only [List.length_cons, List.length_nil]); omega) W
  obtain ⟨L4, hL4⟩ : ∃ L, L3 ++ xL rs1 = L := ⟨_, rfl⟩
  have n4 : L4.length ≤ 59 := by rw [← hL4]; simp only [List.length_append, List.length_cons, List.length_nil]; omega
  have hs4 : ∀ W, (Op.stringOp .add (bs L3) (bs (xL rs1))).run Tryd.prog W = .ok (.string (bs L4)) W := fun W => hL4 ▸ add_bs (a := L3) (b := xL rs1) (by (try simp only [List.length_cons, List.length_nil]); omega) W
  obtain ⟨L5, hL5⟩ : ∃ L, L4 ++ [41] = L := ⟨_, rfl⟩
  have n5 : L5.length ≤ 60 := by rw [← hL5]; simp only [List.length_append, List.length_cons, List.length_nil]; omega
  have hs5 : ∀ W, (Op.stringOp .add (bs L4) (⟨#[41]⟩)).run Tryd.prog W = .ok (.string (bs L5)) W := fun W => hL5 ▸ add_bs (a := L4) (b := [41]) (by (try simp only [List.length_cons, List.length_nil]); omega) W
  have hfin : nmL k ++ sufL true false ++ endL (toldL .lr (Inst.mk (k + 1) rd rs1 rs2 imm true false)) = L5 := by
    have hm := itoa_ne (sgn imm)
    rw [← hL5, ← hL4, ← hL3, ← hL2, ← hL1, ← hL0]
    simp [sufL, endL, toldL, join2, join3, xL, mL, hm]
  rw [htx, hfin]
  have hs : -9223372036854775808 ≤ sgn imm ∧ sgn imm ≤ 9223372036854775807 := by unfold sgn; split <;> omega
  have CN := Lib.hid (fun W => rname_k k W hk)
  have CF := Lib.hid (fun W hP => fmt_i (Inst.mk (k + 1) rd rs1 rs2 imm true false) (sgn imm) rfl W hP hs.1 hs.2)
  have HK := Lib.hid hk
  have HF := Lib.hid hf
  have HP := Lib.hid hP
  clear hk hf hP hs htx hfin a0 a1 a2 am au nn hL0 n0 hL1 n1 hL2 n2 hL3 n3 hL4 n4 hL5 n5
  generalize mL (Inst.mk (k + 1) rd rs1 rs2 imm true false) = M at *
  unfold Inst.val
  go_enter Tryd.func19, Tryd.ntmps19
  go_upto_region 10 with (first | (go_at_call 17; refine (CN.out _).mono ?_; rintro e w1 ⟨rfl, hb1⟩; have hi1 : w1.heap[w.heap.size]? = some (.cells (Inst.mk (k + 1) rd rs1 rs2 imm true false).val 25 (0, 0)) := (hb1.block _ (by simp)).trans (World.alloc_heap_new w _); have hz1 : w.heap.size < w1.heap.size := (by have z := hb1.size; rw [World.size_alloc] at z; exact z); obtain ⟨q0, q1, q2, q3, q4, q5, q6⟩ := cells_inst hi1; simp only at q0 q1 q2 q3 q4 q5 q6) | (go_at_call 28; refine (signed_ref _ _ h0 h1).mono ?_; rintro e w' ⟨rfl, rfl⟩) | (go_at_call 33; refine (CF.out _ ?_).mono ?_; exact (HP.out.below ((Below.refl _ _).alloc (Nat.le_refl _) _)).below hb1; rintro e w2 ⟨rfl, hb2⟩; have hi2 : w2.heap[w.heap.size]? = some (.cells (Inst.mk (k + 1) rd rs1 rs2 imm true false).val 25 (0, 0)) := (hb2.block _ hz1).trans hi1; obtain ⟨s0, s1, s2, s3, s4, s5, s6⟩ := cells_inst hi2; simp only at s0 s1 s2 s3 s4 s5 s6; have hp2 : TabP w2 := ((HP.out.below ((Below.refl _ _).alloc (Nat.le_refl _) _)).below hb1).below hb2))
  go_quiet (first | (go_at_call 34; exact Calls.quiet_of_same (reg_i rd _ r0.1 r0.2)) | (go_at_call 34; exact Calls.quiet_of_same (reg_i rs1 _ r1.1 r1.2)) | (go_at_call 34; exact Calls.quiet_of_same (reg_i rs2 _ r2.1 r2.2)))
  go_wp2_with (first | (go_at_call 22; refine (form_f k 113 .lr HK.out HF.out rfl _).mono ?_; rintro e w' ⟨rfl, rfl⟩))
  go_ret
  have b1 : Below w.heap.size w w1 := ((Below.refl _ w).alloc (Nat.le_refl _) _).trans (hb1.mono (by simp))
  have b2 : Below w.heap.size w w2 := b1.trans (hb2.mono (Nat.le_of_lt hz1))
  have b3 : ∀ q, Below w.heap.size w (w2.drewN q) := fun q => ⟨b2.os, b2.tape, b2.output, b2.size, b2.block⟩
  exact ⟨rfl, (b3 _)⟩

set_option maxRecDepth 100000 in
set_option maxHeartbeats 4000000 in
theorem rtext_lr_tt (rd rs1 rs2 imm : Int) (w : World) (hP : TabP w) (h0 : 0 ≤ imm) (h1 : imm < 4294967296) (k : Nat) (hk : k < 59) (hf : formK k = .lr) (ok : okF .lr (Inst.mk (k + 1) rd rs1 rs2 imm true true) = true) :
    Calls Tryd.prog 19 #[.agg (Inst.mk (k + 1) rd rs1 rs2 imm true true).val] w fun e w' => e = .returned (.string (bs (textL k (Inst.mk (k + 1) rd rs1 rs2 imm true true)))) ∧ Below w.heap.size w w' := by
  rw [okF_iff] at ok
  simp only at ok
  obtain ⟨k1, k2, k3, k4, k5⟩ := ok
  have r0 := regB_b k1
  have r1 := regB_b k2
  have r2 := regB_b k3
  clear k1 k2 k3 k4 k5
  have nn := nmL_len k hk
  have a0 := xL_len rd r0.1 r0.2
  have a1 := xL_len rs1 r1.1 r1.2
  have a2 := xL_len rs2 r2.1 r2.2
  have am := mL_len (Inst.mk (k + 1) rd rs1 rs2 imm true true) h0 h1
  have au := dec_len (imm / 4096).toNat (by omega)
  have htx : textL k (Inst.mk (k + 1) rd rs1 rs2 imm true true) = nmL k ++ sufL true true ++ endL (toldL .lr (Inst.mk (k + 1) rd rs1 rs2 imm true true)) := by unfold textL; rw [hf]
  obtain ⟨L0, hL0⟩ : ∃ L, nmL k ++ [46, 97, 113, 114, 108] = L := ⟨_, rfl⟩
  have n0 : L0.length ≤ 13 := by rw [← hL0]; simp only [List.length_append, List.length_cons, List.length_nil]; omega
  have hs0 : ∀ W, (Op.stringOp .add (bs (nmL k)) (⟨#[46, 97, 113, 114, 108]⟩)).run Tryd.prog W = .ok (.string (bs L0)) W := fun W => hL0 ▸ add_bs (a := nmL k) (b := [46, 97, 113, 114, 108]) (by (try simp only [List.length_cons, List.length_nil]); omega) W
  obtain ⟨L1, hL1⟩ : ∃ L, L0 ++ [32] = L := ⟨_, rfl⟩
  have n1 : L1.length ≤ 14 := by rw [← hL1]; simp only [List.length_append, List.length_cons, List.length_nil]; omega
  have hs1 : ∀ W, (Op.stringOp .add (bs L0) (⟨#[32]⟩)).run Tryd.prog W = .ok (.string (bs L1)) W := fun W => hL1 ▸ add_bs (a := L0) (b := [32]) (by (try simp only [List.length_cons, List.length_nil]); omega) W
  obtain ⟨L2, hL2⟩ : ∃ L, L1 ++ xL rd = L := ⟨_, rfl⟩
  have n2 : L2.length ≤ 36 := by rw [← hL2]; simp only [List.length_append, List.length_cons, List.length_nil]; omega
  have hs2 : ∀ W, (Op.stringOp .add (bs L1) (bs (xL rd))).run Tryd.prog W = .ok (.string (bs L2)) W := fun W => hL2 ▸ add_bs (a := L1) (b := xL rd) (by (try simp only [List.length_cons, List.length_nil]); omega) W
  obtain ⟨L3, hL3⟩ : ∃ L, L2 ++ [44, 32, 40] = L := ⟨_, rfl⟩
  have n3 : L3.length ≤ 39 := by rw [← hL3]; simp only [List.length_append, List.length_cons, List.length_nil]; omega
  have hs3 : ∀ W, (Op.stringOp .add (bs L2) (⟨#[44, 32, 40]⟩)).run Tryd.prog W = .ok (.string (bs L3)) W := fun W => hL3 ▸ add_bs (a := L2) (b := [44, 32, 40]) (by (try simp only [List.length_cons, List.length_nil]); omega) W
  obtain ⟨L4, hL4⟩ : ∃ L, L3 ++ xL rs1 = L := ⟨_, rfl⟩
  have n4 : L4.length ≤ 61 := by rw [← hL4]; simp only [List.length_append, List.length_cons, List.length_nil]; omega
  have hs4 : ∀ W, (Op.stringOp .add (bs L3) (bs (xL rs1))).run Tryd.prog W = .ok (.string (bs L4)) W := fun W => hL4 ▸ add_bs (a := L3) (b := xL rs1) (by (try simp only [List.length_cons, List.length_nil]); omega) W
  obtain ⟨L5, hL5⟩ : ∃ L, L4 ++ [41] = L := ⟨_, rfl⟩
  have n5 : L5.length ≤ 62 := by rw [← hL5]; simp only [List.length_append, List.length_cons, List.length_nil]; omega
  have hs5 : ∀ W, (Op.stringOp .add (bs L4) (⟨#[41]⟩)).run Tryd.prog W = .ok (.string (bs L5)) W := fun W => hL5 ▸ add_bs (a := L4) (b := [41]) (by (try simp only [List.length_cons, List.length_nil]); omega) W
  have hfin : nmL k ++ sufL true true ++ endL (toldL .lr (Inst.mk (k + 1) rd rs1 rs2 imm true true)) = L5 := by
    have hm := itoa_ne (sgn imm)
    rw [← hL5, ← hL4, ← hL3, ← hL2, ← hL1, ← hL0]
    simp [sufL, endL, toldL, join2, join3, xL, mL, hm]
  rw [htx, hfin]
  have hs : -9223372036854775808 ≤ sgn imm ∧ sgn imm ≤ 9223372036854775807 := by unfold sgn; split <;> omega
  have CN := Lib.hid (fun W => rname_k k W hk)
  have CF := Lib.hid (fun W hP => fmt_i (Inst.mk (k + 1) rd rs1 rs2 imm true true) (sgn imm) rfl W hP hs.1 hs.2)
  have HK := Lib.hid hk
  have HF := Lib.hid hf
  have HP := Lib.hid hP
  clear hk hf hP hs htx hfin a0 a1 a2 am au nn hL0 n0 hL1 n1 hL2 n2 hL3 n3 hL4 n4 hL5 n5
  generalize mL (Inst.mk (k + 1) rd rs1 rs2 imm true true) = M at *
  unfold Inst.val
  go_enter Tryd.func19, Tryd.ntmps19
  go_upto_region 10 with (first | (go_at_call 17; refine (CN.out _).mono ?_; rintro e w1 ⟨rfl, hb1⟩; have hi1 : w1.heap[w.heap.size]? = some (.cells (Inst.mk (k + 1) rd rs1 rs2 imm true true).val 25 (0, 0)) := (hb1.block _ (by simp)).trans (World.alloc_heap_new w _); have hz1 : w.heap.size < w1.heap.size := (by have z := hb1.size; rw [World.size_alloc] at z; exact z); obtain ⟨q0, q1, q2, q3, q4, q5, q6⟩ := cells_inst hi1; simp only at q0 q1 q2 q3 q4 q5 q6) | (go_at_call 28; refine (signed_ref _ _ h0 h1).mono ?_; rintro e w' ⟨rfl, rfl⟩) | (go_at_call 33; refine (CF.out _ ?_).mono ?_; exact (HP.out.below ((Below.refl _ _).alloc (Nat.le_refl _) _)).below hb1; rintro e w2 ⟨rfl, hb2⟩; have hi2 : w2.heap[w.heap.size]? = some (.cells (Inst.mk (k + 1) rd rs1 rs2 imm true true).val 25 (0, 0)) := (hb2.block _ hz1).trans hi1; obtain ⟨s0, s1, s2, s3, s4, s5, s6⟩ := cells_inst hi2; simp only at s0 s1 s2 s3 s4 s5 s6; have hp2 : TabP w2 := ((HP.out.below ((Below.refl _ _).alloc (Nat.le_refl _) _)).below hb1).below hb2))
  go_quiet (first | (go_at_call 34; exact Calls.quiet_of_same (reg_i rd _ r0.1 r0.2)) | (go_at_call 34; exact Calls.quiet_of_same (reg_i rs1 _ r1.1 r1.2)) | (go_at_call 34; exact Calls.quiet_of_same (reg_i rs2 _ r2.1 r2.2)))
  go_wp2_with (first | (go_at_call 22; refine (form_f k 113 .lr HK.out HF.out rfl _).mono ?_; rintro e w' ⟨rfl, rfl⟩))
  go_ret
  have b1 : Below w.heap.size w w1 := ((Below.refl _ w).alloc (Nat.le_refl _) _).trans (hb1.mono (by simp))
  have b2 : Below w.heap.size w w2 := b1.trans (hb2.mono (Nat.le_of_lt hz1))
  have b3 : ∀ q, Below w.heap.size w (w2.drewN q) := fun q => ⟨b2.os, b2.tape, b2.output, b2.size, b2.block⟩
  exact ⟨rfl, (b3 _)⟩

set_option maxRecDepth 100000 in
set_option maxHeartbeats 4000000 in
theorem rtext_a_ff (rd rs1 rs2 imm : Int) (w : World) (hP : TabP w) (h0 : 0 ≤ imm) (h1 : imm < 4294967296) (k : Nat) (hk : k < 59) (hf : formK k = .a) (ok : okF .a (Inst.mk (k + 1) rd rs1 rs2 imm false false) = true) :
    Calls Tryd.prog 19 #[.agg (Inst.mk (k + 1) rd rs1 rs2 imm false false).val] w fun e w' => e = .returned (.string (bs (textL k (Inst.mk (k + 1) rd rs1 rs2 imm false false)))) ∧ Below w.heap.size w w' := by
  rw [okF_iff] at ok
  simp only at ok
  obtain ⟨k1, k2, k3, k4, k5⟩ := ok
  have r0 := regB_b k1
  have r1 := regB_b k2
  have r2 := regB_b k3
  clear k1 k2 k3 k4 k5
  have nn := nmL_len k hk
  have a0 := xL_len rd r0.1 r0.2
  have a1 := xL_len rs1 r1.1 r1.2
  have a2 := xL_len rs2 r2.1 r2.2
  have am := mL_len (Inst.mk (k + 1) rd rs1 rs2 imm false false) h0 h1
  have au := dec_len (imm / 4096).toNat (by omega)
  have htx : textL k (Inst.mk (k + 1) rd rs1 rs2 imm false false) = nmL k ++ sufL false false ++ endL (toldL .a (Inst.mk (k + 1) rd rs1 rs2 imm false false)) := by unfold textL; rw [hf]
  obtain ⟨L0, hL0⟩ : ∃ L, nmL k ++ [32] = L := ⟨_, rfl⟩
  have n0 : L0.length ≤ 9 := by rw [← hL0]; simp only [List.length_append, List.length_cons, List.length_nil]; omega
  have hs0 : ∀ W, (Op.stringOp .add (bs (nmL k)) (⟨#[32]⟩)).run Tryd.prog W = .ok (.string (bs L0)) W := fun W => hL0 ▸ add_bs (a := nmL k) (b := [32]) (by (try simp only [List.length_cons, List.length_nil]); omega) W
  obtain ⟨L1, hL1⟩ : ∃ L, L0 ++ xL rd = L := ⟨_, rfl⟩
  have n1 : L1.length ≤ 31 := by rw [← hL1]; simp only [List.length_append, List.length_cons, List.length_nil]; omega
  have hs1 : ∀ W, (Op.stringOp .add (bs L0) (bs (xL rd))).run Tryd.prog W = .ok (.string (bs L1)) W := fun W => hL1 ▸ add_bs (a := L0) (b := xL rd) (by (try simp only [List.length_cons, List.length_nil]); omega) W
  obtain ⟨L2, hL2⟩ : ∃ L, L1 ++ [44, 32] = L := ⟨_, rfl⟩
  have n2 : L2.length ≤ 33 := by rw [← hL2]; simp only [List.length_append, List.length_cons, List.length_nil]; omega
  have hs2 : ∀ W, (Op.stringOp .add (bs L1) (⟨#[44, 32]⟩)).run Tryd.prog W = .ok (.string (bs L2)) W := fun W => hL2 ▸ add_bs (a := L1) (b := [44, 32]) (by (try simp only [List.length_cons, List.length_nil]); omega) W
  obtain ⟨L3, hL3⟩ : ∃ L, L2 ++ xL rs2 = L := ⟨_, rfl⟩
  have n3 : L3.length ≤ 55 := by rw [← hL3]; simp only [List.length_append, List.length_cons, List.length_nil]; omega
  have hs3 : ∀ W, (Op.stringOp .add (bs L2) (bs (xL rs2))).run Tryd.prog W = .ok (.string (bs L3)) W := fun W => hL3 ▸ add_bs (a := L2) (b := xL rs2) (by (try simp only [List.length_cons, List.length_nil]); omega) W
  obtain ⟨L4, hL4⟩ : ∃ L, L3 ++ [44, 32, 40] = L := ⟨_, rfl⟩
  have n4 : L4.length ≤ 58 := by rw [← hL4]; simp only [List.length_append, List.length_cons, List.length_nil]; omega
  have hs4 : ∀ W, (Op.stringOp .add (bs L3) (⟨#[44, 32, 40]⟩)).run Tryd.prog W = .ok (.string (bs L4)) W := fun W => hL4 ▸ add_bs (a := L3) (b := [44, 32, 40]) (by (try simp only [List.length_cons, List.length_nil]); omega) W
  obtain ⟨L5, hL5⟩ : ∃ L, L4 ++ xL rs1 = L := ⟨_, rfl⟩
  have n5 : L5.length ≤ 80 := by rw [← hL5]; simp only [List.length_append, List.length_cons, List.length_nil]; omega
  have hs5 : ∀ W, (Op.stringOp .add (bs L4) (bs (xL rs1))).run Tryd.prog W = .ok (.string (bs L5)) W := fun W => hL5 ▸ add_bs (a := L4) (b := xL rs1) (by (try simp only [List.length_cons, List.length_nil]); omega) W
  obtain ⟨L6, hL6⟩ : ∃ L, L5 ++ [41] = L := ⟨_, rfl⟩
  have n6 : L6.length ≤ 81 := by rw [← hL6]; simp only [List.length_append, List.length_cons, List.length_nil]; omega
  have hs6 : ∀ W, (Op.stringOp .add (bs L5) (⟨#[41]⟩)).run Tryd.prog W = .ok (.string (bs L6)) W := fun W => hL6 ▸ add_bs (a := L5) (b := [41]) (by (try simp only [List.length_cons, List.length_nil]); omega) W
  have hfin : nmL k ++ sufL false false ++ endL (toldL .a (Inst.mk (k + 1) rd rs1 rs2 imm false false)) = L6 := by
    have hm := itoa_ne (sgn imm)
    rw [← hL6, ← hL5, ← hL4, ← hL3, ← hL2, ← hL1, ← hL0]
    simp [sufL, endL, toldL, join2, join3, xL, mL, hm]
  rw [htx, hfin]
  have hs : -9223372036854775808 ≤ sgn imm ∧ sgn imm ≤ 9223372036854775807 := by unfold sgn; split <;> omega
  have CN := Lib.hid (fun W => rname_k k W hk)
  have CF := Lib.hid (fun W hP => fmt_i (Inst.mk (k + 1) rd rs1 rs2 imm false false) (sgn imm) rfl W hP hs.1 hs.2)
  have HK := Lib.hid hk
  have HF := Lib.hid hf
  have HP := Lib.hid hP
  clear hk hf hP hs htx hfin a0 a1 a2 am au nn hL0 n0 hL1 n1 hL2 n2 hL3 n3 hL4 n4 hL5 n5 hL6 n6
  generalize mL (Inst.mk (k + 1) rd rs1 rs2 imm false false) = M at *
  unfold Inst.val
  go_enter Tryd.func19, Tryd.ntmps19
  go_upto_region 10 with (first | (go_at_call 17; refine (CN.out _).mono ?_; rintro e w1 ⟨rfl, hb1⟩; have hi1 : w1.heap[w.heap.size]? = some (.cells (Inst.mk (k + 1) rd rs1 rs2 imm false false).val 25 (0, 0)) := (hb1.block _ (by simp)).trans (World.alloc_heap_new w _); have hz1 : w.heap.size < w1.heap.size := (by have z := hb1.size; rw [World.size_alloc] at z; exact z); obtain ⟨q0, q1, q2, q3, q4, q5, q6⟩ := cells_inst hi1; simp only at q0 q1 q2 q3 q4 q5 q6) | (go_at_call 28; refine (signed_ref _ _ h0 h1).mono ?_; rintro e w' ⟨rfl, rfl⟩) | (go_at_call 33; refine (CF.out _ ?_).mono ?_; exact (HP.out.below ((Below.refl _ _).alloc (Nat.le_refl _) _)).below hb1; rintro e w2 ⟨rfl, hb2⟩; have hi2 : w2.heap[w.heap.size]? = some (.cells (Inst.mk (k + 1) rd rs1 rs2 imm false false).val 25 (0, 0)) := (hb2.block _ hz1).trans hi1; obtain ⟨s0, s1, s2, s3, s4, s5, s6⟩ := cells_inst hi2; simp only at s0 s1 s2 s3 s4 s5 s6; have hp2 : TabP w2 := ((HP.out.below ((Below.refl _ _).alloc (Nat.le_refl _) _)).below hb1).below hb2))
  go_quiet (first | (go_at_call 34; exact Calls.quiet_of_same (reg_i rd _ r0.1 r0.2)) | (go_at_call 34; exact Calls.quiet_of_same (reg_i rs1 _ r1.1 r1.2)) | (go_at_call 34; exact Calls.quiet_of_same (reg_i rs2 _ r2.1 r2.2)))
  go_wp2_with (first | (go_at_call 22; refine (form_f k 97 .a HK.out HF.out rfl _).mono ?_; rintro e w' ⟨rfl, rfl⟩))
  go_ret
  have b1 : Below w.heap.size w w1 := ((Below.refl _ w).alloc (Nat.le_refl _) _).trans (hb1.mono (by simp))
  have b2 : Below w.heap.size w w2 := b1.trans (hb2.mono (Nat.le_of_lt hz1))
  have b3 : ∀ q, Below w.heap.size w (w2.drewN q) := fun q => ⟨b2.os, b2.tape, b2.output, b2.size, b2.block⟩
  exact ⟨rfl, (b3 _)⟩

set_option maxRecDepth 100000 in
set_option maxHeartbeats 4000000 in
theorem rtext_a_ft (rd rs1 rs2 imm : Int) (w : World) (hP : TabP w) (h0 : 0 ≤ imm) (h1 : imm < 4294967296) (k : Nat) (hk : k < 59) (hf : formK k = .a) (ok : okF .a (Inst.mk (k + 1) rd rs1 rs2 imm false true) = true) :
    Calls Tryd.prog 19 #[.agg (Inst.mk (k + 1) rd rs1 rs2 imm false true).val] w fun e w' => e = .returned (.string (bs (textL k (Inst.mk (k + 1) rd rs1 rs2 imm false true)))) ∧ Below w.heap.size w w' := by
  rw [okF_iff] at ok
  simp only at ok
  obtain ⟨k1, k2, k3, k4, k5⟩ := ok
  have r0 := regB_b k1
  have r1 := regB_b k2
  have r2 := regB_b k3
  clear k1 k2 k3 k4 k5
  have nn := nmL_len k hk
  have a0 := xL_len rd r0.1 r0.2
  have a1 := xL_len rs1 r1.1 r1.2
  have a2 := xL_len rs2 r2.1 r2.2
  have am := mL_len (Inst.mk (k + 1) rd rs1 rs2 imm false true) h0 h1
  have au := dec_len (imm / 4096).toNat (by omega)
  have htx : textL k (Inst.mk (k + 1) rd rs1 rs2 imm false true) = nmL k ++ sufL false true ++ endL (toldL .a (Inst.mk (k + 1) rd rs1 rs2 imm false true)) := by unfold textL; rw [hf]
  obtain ⟨L0, hL0⟩ : ∃ L, nmL k ++ [46, 114, 108] = L := ⟨_, rfl⟩
  have n0 : L0.length ≤ 11 := by rw [← hL0]; simp only [List.length_append, List.length_cons, List.length_nil]; omega
  have hs0 : ∀ W, (Op.stringOp .add (bs (nmL k)) (⟨#[46, 114, 108]⟩)).run Tryd.prog W = .ok (.string (bs L0)) W := fun W => hL0 ▸ add_bs (a := nmL k) (b := [46, 114, 108]) (by (try simp only [List.length_cons, List.length_nil]); omega) W
  obtain ⟨L1, hL1⟩ : ∃ L, L0 ++ [32] = L := ⟨_, rfl⟩
  have n1 : L1.length ≤ 12 := by rw [← hL1]; simp only [List.length_append, List.length_cons, List.length_nil]; omega
  have hs1 : ∀ W, (Op.stringOp .add (bs L0) (⟨#[32]⟩)).run Tryd.prog W = .ok (.string (bs L1)) W := fun W => hL1 ▸ add_bs (a := L0) (b := [32]) (by (try simp only [List.length_cons, List.length_nil]); omega) W
  obtain ⟨L2, hL2⟩ : ∃ L, L1 ++ xL rd = L := ⟨_, rfl⟩
  have n2 : L2.length ≤ 34 := by rw [← hL2]; simp only [List.length_append, List.length_cons, List.length_nil]; omega
  have hs2 : ∀ W, (Op.stringOp .add (bs L1) (bs (xL rd))).run Tryd.prog W = .ok (.string (bs L2)) W := fun W => hL2 ▸ add_bs (a := L1) (b := xL rd) (by (try simp only [List.length_cons, List.length_nil]); omega) W
  obtain ⟨L3, hL3⟩ : ∃ L, L2 ++ [44, 32] = L := ⟨_, rfl⟩
  have n3 : L3.length ≤ 36 := by rw [← hL3]; simp only [List.length_append, List.length_cons, List.length_nil]; omega
  have hs3 : ∀ W, (Op.stringOp .add (bs L2) (⟨#[44, 32]⟩)).run Tryd.prog W = .ok (.string (bs L3)) W := fun W => hL3 ▸ add_bs (a := L2) (b := [44, 32]) (by (try simp only [List.length_cons, List.length_nil]); omega) W
  obtain ⟨L4, hL4⟩ : ∃ L, L3 ++ xL rs2 = L := ⟨_, rfl⟩
  have n4 : L4.length ≤ 58 := by rw [← hL4]; simp only [List.length_append, List.length_cons, List.length_nil]; omega
  have hs4 : ∀ W, (Op.stringOp .add (bs L3) (bs (xL rs2))).run Tryd.prog W = .ok (.string (bs L4)) W := fun W => hL4 ▸ add_bs (a := L3) (b := xL rs2) (by (try simp only [List.length_cons, List.length_nil]); omega) W
  obtain ⟨L5, hL5⟩ : ∃ L, L4 ++ [44, 32, 40] = L := ⟨_, rfl⟩
  have n5 : L5.length ≤ 61 := by rw [← hL5]; simp only [List.length_append, List.length_cons, List.length_nil]; omega
  have hs5 : ∀ W, (Op.stringOp .add (bs L4) (⟨#[44, 32, 40]⟩)).run Tryd.prog W = .ok (.string (bs L5)) W := fun W => hL5 ▸ add_bs (a := L4) (b := [44, 32, 40]) (by (try simp only [List.length_cons, List.length_nil]); omega) W
  obtain ⟨L6, hL6⟩ : ∃ L, L5 ++ xL rs1 = L := ⟨_, rfl⟩
  have n6 : L6.length ≤ 83 := by rw [← hL6]; simp only [List.length_append, List.length_cons, List.length_nil]; omega
  have hs6 : ∀ W, (Op.stringOp .add (bs L5) (bs (xL rs1))).run Tryd.prog W = .ok (.string (bs L6)) W := fun W => hL6 ▸ add_bs (a := L5) (b := xL rs1) (by (try simp only [List.length_cons, List.length_nil]); omega) W
  obtain ⟨L7, hL7⟩ : ∃ L, L6 ++ [41] = L := ⟨_, rfl⟩
  have n7 : L7.length ≤ 84 := by rw [← hL7]; simp only [List.length_append, List.length_cons, List.length_nil]; omega
  have hs7 : ∀ W, (Op.stringOp .add (bs L6) (⟨#[41]⟩)).run Tryd.prog W = .ok (.string (bs L7)) W := fun W => hL7 ▸ add_bs (a := L6) (b := [41]) (by (try simp only [List.length_cons, List.length_nil]); omega) W
  have hfin : nmL k ++ sufL false true ++ endL (toldL .a (Inst.mk (k + 1) rd rs1 rs2 imm false true)) = L7 := by
    have hm := itoa_ne (sgn imm)
    rw [← hL7, ← hL6, ← hL5, ← hL4, ← hL3, ← hL2, ← hL1, ← hL0]
    simp [sufL, endL, toldL, join2, join3, xL, mL, hm]
  rw [htx, hfin]
  have hs : -9223372036854775808 ≤ sgn imm ∧ sgn imm ≤ 9223372036854775807 := by unfold sgn; split <;> omega
  have CN := Lib.hid (fun W => rname_k k W hk)
  have CF := Lib.hid (fun W hP => fmt_i (Inst.mk (k + 1) rd rs1 rs2 imm false true) (sgn imm) rfl W hP hs.1 hs.2)
  have HK := Lib.hid hk
  have HF := Lib.hid hf
  have HP := Lib.hid hP
  clear hk hf hP hs htx hfin a0 a1 a2 am au nn hL0 n0 hL1 n1 hL2 n2 hL3 n3 hL4 n4 hL5 n5 hL6 n6 hL7 n7
  generalize mL (Inst.mk (k + 1) rd rs1 rs2 imm false true) = M at *
  unfold Inst.val
  go_enter Tryd.func19, Tryd.ntmps19
  go_upto_region 10 with (first | (go_at_call 17; refine (CN.out _).mono ?_; rintro e w1 ⟨rfl, hb1⟩; have hi1 : w1.heap[w.heap.size]? = some (.cells (Inst.mk (k + 1) rd rs1 rs2 imm false true).val 25 (0, 0)) := (hb1.block _ (by simp)).trans (World.alloc_heap_new w _); have hz1 : w.heap.size < w1.heap.size := (by have z := hb1.size; rw [World.size_alloc] at z; exact z); obtain ⟨q0, q1, q2, q3, q4, q5, q6⟩ := cells_inst hi1; simp only at q0 q1 q2 q3 q4 q5 q6) | (go_at_call 28; refine (signed_ref _ _ h0 h1).mono ?_; rintro e w' ⟨rfl, rfl⟩) | (go_at_call 33; refine (CF.out _ ?_).mono ?_; exact (HP.out.below ((Below.refl _ _).alloc (Nat.le_refl _) _)).below hb1; rintro e w2 ⟨rfl, hb2⟩; have hi2 : w2.heap[w.heap.size]? = some (.cells (Inst.mk (k + 1) rd rs1 rs2 imm false true).val 25 (0, 0)) := (hb2.block _ hz1).trans hi1; obtain ⟨s0, s1, s2, s3, s4, s5, s6⟩ := cells_inst hi2; simp only at s0 s1 s2 s3 s4 s5 s6; have hp2 : TabP w2 := ((HP.out.below ((Below.refl _ _).alloc (Nat.le_refl _) _)).below hb1).below hb2))
  go_quiet (first | (go_at_call 34; exact Calls.quiet_of_same (reg_i rd _ r0.1 r0.2)) | (go_at_call 34; exact Calls.quiet_of_same (reg_i rs1 _ r1.1 r1.2)) | (go_at_call 34; exact Calls.quiet_of_same (reg_i rs2 _ r2.1 r2.2)))
  go_wp2_with (first | (go_at_call 22; refine (form_f k 97 .a HK.out HF.out rfl _).mono ?_; rintro e w' ⟨rfl, rfl⟩))
  go_ret
  have b1 : Below w.heap.size w w1 := ((Below.refl _ w).alloc (Nat.le_refl _) _).trans (hb1.mono (by simp))
  have b2 : Below w.heap.size w w2 := b1.trans (hb2.mono (Nat.le_of_lt hz1))
  have b3 : ∀ q, Below w.heap.size w (w2.drewN q) := fun q => ⟨b2.os, b2.tape, b2.output, b2.size, b2.block⟩
  exact ⟨rfl, (b3 _)⟩

set_option maxRecDepth 100000 in
set_option maxHeartbeats 4000000 in
theorem rtext_a_tf (rd rs1 rs2 imm : Int) (w : World) (hP : TabP w) (h0 : 0 ≤ imm) (h1 : imm < 4294967296) (k : Nat) (hk : k < 59) (hf : formK k = .a) (ok : okF .a (Inst.mk (k + 1) rd rs1 rs2 imm true false) = true) :
    Calls Tryd.prog 19 #[.agg (Inst.mk (k + 1) rd rs1 rs2 imm true false).val] w fun e w' => e = .returned (.string (bs (textL k (Inst.mk (k + 1) rd rs1 rs2 imm true false)))) ∧ Below w.heap.size w w' := by
  rw [okF_iff] at ok
  simp only at ok
  obtain ⟨k1, k2, k3, k4, k5⟩ := ok
  have r0 := regB_b k1
  have r1 := regB_b k2
  have r2 := regB_b k3
  clear k1 k2 k3 k4 k5
  have nn := nmL_len k hk
  have a0 := xL_len rd r0.1 r0.2
  have a1 := xL_len rs1 r1.1 r1.2
  have a2 := xL_len rs2 r2.1 r2.2
  have am := mL_len (Inst.mk (k + 1) rd rs1 rs2 imm true false) h0 h1
  have au := dec_len (imm / 4096).toNat (by omega)
  have htx : textL k (Inst.mk (k + 1) rd rs1 rs2 imm true false) = nmL k ++ sufL true false ++ endL (toldL .a (Inst.mk (k + 1) rd rs1 rs2 imm true false)) := by unfold textL; rw [hf]
  obtain ⟨L0, hL0⟩ : ∃ L, nmL k ++ [46, 97, 113] = L := ⟨_, rfl⟩
  have n0 : L0.length ≤ 11 := by rw [← hL0]; simp only [List.length_append, List.length_cons, List.length_nil]; omega
  have hs0 : ∀ W, (Op.stringOp .add (bs (nmL k)) (⟨#[46, 97, 113]⟩)).run Tryd.prog W = .ok (.string (bs L0)) W := fun W => hL0 ▸ add_bs (a := nmL k) (b := [46, 97, 113]) (by (try simp only [List.length_cons, List.length_nil]); omega) W
  obtain ⟨L1, hL1⟩ : ∃ L, L0 ++ [32] = L := ⟨_, rfl⟩
  have n1 : L1.length ≤ 12 := by rw [← hL1]; simp only [List.length_append, List.length_cons, List.length_nil]; omega
  have hs1 : ∀ W, (Op.stringOp .add (bs L0) (⟨#[32]⟩)).run Tryd.prog W = .ok (.string (bs L1)) W := fun W => hL1 ▸ add_bs (a := L0) (b := [32]) (by (try simp only [List.length_cons, List.length_nil]); omega) W
  obtain ⟨L2, hL2⟩ : ∃ L, L1 ++ xL rd = L := ⟨_, rfl⟩
  have n2 : L2.length ≤ 34 := by rw [← hL2]; simp only [List.length_append, List.length_cons, List.length_nil]; omega
  have hs2 : ∀ W, (Op.stringOp .add (bs L1) (bs (xL rd))).run Tryd.prog W = .ok (.string (bs L2)) W := fun W => hL2 ▸ add_bs (a := L1) (b := xL rd) (by (try simp only [List.length_cons, List.length_nil]); omega) W
  obtain ⟨L3, hL3⟩ : ∃ L, L2 ++ [44, 32] = L := ⟨_, rfl⟩
  have n3 : L3.length ≤ 36 := by rw [← hL3]; simp only [List.length_append, List.length_cons, List.length_nil]; omega
  have hs3 : ∀ W, (Op.stringOp .add (bs L2) (⟨#[44, 32]⟩)).run Tryd.prog W = .ok (.string (bs L3)) W := fun W => hL3 ▸ add_bs (a := L2) (b := [44, 32]) (by (try simp only [List.length_cons, List.length_nil]); omega) W
  obtain ⟨L4, hL4⟩ : ∃ L, L3 ++ xL rs2 = L := ⟨_, rfl⟩
  have n4 : L4.length ≤ 58 := by rw [← hL4]; simp only [List.length_append, List.length_cons, List.length_nil]; omega
  have hs4 : ∀ W, (Op.stringOp .add (bs L3) (bs (xL rs2))).run Tryd.prog W = .ok (.string (bs L4)) W := fun W => hL4 ▸ add_bs (a := L3) (b := xL rs2) (by (try simp only [List.length_cons, List.length_nil]); omega) W
  obtain ⟨L5, hL5⟩ : ∃ L, L4 ++ [44, 32, 40] = L := ⟨_, rfl⟩
  have n5 : L5.length ≤ 61 := by rw [← hL5]; simp only [List.length_append, List.length_cons, List.length_nil]; omega
  have hs5 : ∀ W, (Op.stringOp .add (bs L4) (⟨#[44, 32, 40]⟩)).run Tryd.prog W = .ok (.string (bs L5)) W := fun W => hL5 ▸ add_bs (a := L4) (b := [44, 32, 40]) (by (try simp only [List.length_cons, List.length_nil]); omega) W
  obtain ⟨L6, hL6⟩ : ∃ L, L5 ++ xL rs1 = L := ⟨_, rfl⟩
  have n6 : L6.length ≤ 83 := by rw [← hL6]; simp only [List.length_append, List.length_cons, List.length_nil]; omega
  have hs6 : ∀ W, (Op.stringOp .add (bs L5) (bs (xL rs1))).run Tryd.prog W = .ok (.string (bs L6)) W := fun W => hL6 ▸ add_bs (a := L5) (b := xL rs1) (by (try simp only [List.length_cons, List.length_nil]); omega) W
  obtain ⟨L7, hL7⟩ : ∃ L, L6 ++ [41] = L := ⟨_, rfl⟩
  have n7 : L7.length ≤ 84 := by rw [← hL7]; simp only [List.length_append, List.length_cons, List.length_nil]; omega
  have hs7 : ∀ W, (Op.stringOp .add (bs L6) (⟨#[41]⟩)).run Tryd.prog W = .ok (.string (bs L7)) W := fun W => hL7 ▸ add_bs (a := L6) (b := [41]) (by (try simp only [List.length_cons, List.length_nil]); omega) W
  have hfin : nmL k ++ sufL true false ++ endL (toldL .a (Inst.mk (k + 1) rd rs1 rs2 imm true false)) = L7 := by
    have hm := itoa_ne (sgn imm)
    rw [← hL7, ← hL6, ← hL5, ← hL4, ← hL3, ← hL2, ← hL1, ← hL0]
    simp [sufL, endL, toldL, join2, join3, xL, mL, hm]
  rw [htx, hfin]
  have hs : -9223372036854775808 ≤ sgn imm ∧ sgn imm ≤ 9223372036854775807 := by unfold sgn; split <;> omega
  have CN := Lib.hid (fun W => rname_k k W hk)
  have CF := Lib.hid (fun W hP => fmt_i (Inst.mk (k + 1) rd rs1 rs2 imm true false) (sgn imm) rfl W hP hs.1 hs.2)
  have HK := Lib.hid hk
  have HF := Lib.hid hf
  have HP := Lib.hid hP
  clear hk hf hP hs htx hfin a0 a1 a2 am au nn hL0 n0 hL1 n1 hL2 n2 hL3 n3 hL4 n4 hL5 n5 hL6 n6 hL7 n7
  generalize mL (Inst.mk (k + 1) rd rs1 rs2 imm true false) = M at *
  unfold Inst.val
  go_enter Tryd.func19, Tryd.ntmps19
  go_upto_region 10 with (first | (go_at_call 17; refine (CN.out _).mono ?_; rintro e w1 ⟨rfl, hb1⟩; have hi1 : w1.heap[w.heap.size]? = some (.cells (Inst.mk (k + 1) rd rs1 rs2 imm true false).val 25 (0, 0)) := (hb1.block _ (by simp)).trans (World.alloc_heap_new w _); have hz1 : w.heap.size < w1.heap.size := (by have z := hb1.size; rw [World.size_alloc] at z; exact z); obtain ⟨q0, q1, q2, q3, q4, q5, q6⟩ := cells_inst hi1; simp only at q0 q1 q2 q3 q4 q5 q6) | (go_at_call 28; refine (signed_ref _ _ h0 h1).mono ?_; rintro e w' ⟨rfl, rfl⟩) | (go_at_call 33; refine (CF.out _ ?_).mono ?_; exact (HP.out.below ((Below.refl _ _).alloc (Nat.le_refl _) _)).below hb1; rintro e w2 ⟨rfl, hb2⟩; have hi2 : w2.heap[w.heap.size]? = some (.cells (Inst.mk (k + 1) rd rs1 rs2 imm true false).val 25 (0, 0)) := (hb2.block _ hz1).trans hi1; obtain ⟨s0, s1, s2, s3, s4, s5, s6⟩ := cells_inst hi2; simp only at s0 s1 s2 s3 s4 s5 s6; have hp2 : TabP w2 := ((HP.out.below ((Below.refl _ _).alloc (Nat.le_refl _) _)).below hb1).below hb2))
  go_quiet (first | (go_at_call 34; exact Calls.quiet_of_same (reg_i rd _ r0.1 r0.2)) | (go_at_call 34; exact Calls.quiet_of_same (reg_i rs1 _ r1.1 r1.2)) | (go_at_call 34; exact Calls.quiet_of_same (reg_i rs2 _ r2.1 r2.2)))
  go_wp2_with (first | (go_at_call 22; refine (form_f k 97 .a HK.out HF.out rfl _).mono ?_; rintro e w' ⟨rfl, rfl⟩))
  go_ret
  have b1 : Below w.heap.size w w1 := ((Below.refl _ w).alloc (Nat.le_refl _) _).trans (hb1.mono (by simp))
  have b2 : Below w.heap.size w w2 := b1.trans (hb2.mono (Nat.le_of_lt hz1))
  have b3 : ∀ q, Below w.heap.size w (w2.drewN q) := fun q => ⟨b2.os, b2.tape, b2.output, b2.size, b2.block⟩
  exact ⟨rfl, (b3 _)⟩

set_option maxRecDepth 100000 in
set_option maxHeartbeats 4000000 in
theorem rtext_a_tt (rd rs1 rs2 imm : Int) (w : World) (hP : TabP w) (h0 : 0 ≤ imm) (h1 : imm < 4294967296) (k : Nat) (hk : k < 59) (hf : formK k = .a) (ok : okF .a (Inst.mk (k + 1) rd rs1 rs2 imm true true) = true) :
    Calls Tryd.prog 19 #[.agg (Inst.mk (k + 1) rd rs1 rs2 imm true true).val] w fun e w' => e = .returned (.string (bs (textL k (Inst.mk (k + 1) rd rs1 rs2 imm true true)))) ∧ Below w.heap.size w w' := by
  rw [okF_iff] at ok
  simp only at ok
  obtain ⟨k1, k2, k3, k4, k5⟩ := ok
  have r0 := regB_b k1
  have r1 := regB_b k2
  have r2 := regB_b k3
  clear k1 k2 k3 k4 k5
  have nn := nmL_len k hk
  have a0 := xL_len rd r0.1 r0.2
  have a1 := xL_len rs1 r1.1 r1.2
  have a2 := xL_len rs2 r2.1 r2.2
  have am := mL_len (Inst.mk (k + 1) rd rs1 rs2 imm true true) h0 h1
  have au := dec_len (imm / 4096).toNat (by omega)
  have htx : textL k (Inst.mk (k + 1) rd rs1 rs2 imm true true) = nmL k ++ sufL true true ++ endL (toldL .a (Inst.mk (k + 1) rd rs1 rs2 imm true true)) := by unfold textL; rw [hf]
  obtain ⟨L0, hL0⟩ : ∃ L, nmL k ++ [46, 97, 113, 114, 108] = L := ⟨_, rfl⟩
  have n0 : L0.length ≤ 13 := by rw [← hL0]; simp only [List.length_append, List.length_cons, List.length_nil]; omega
  have hs0 : ∀ W, (Op.stringOp .add (bs (nmL k)) (⟨#[46, 97, 113, 114, 108]⟩)).run Tryd.prog W = .ok (.string (bs L0)) W := fun W => hL0 ▸ add_bs (a := nmL k) (b := [46, 97, 113, 114, 108]) (by (try simp only [List.length_cons, List.length_nil]); omega) W
  obtain ⟨L1, hL1⟩ : ∃ L, L0 ++ [32] = L := ⟨_, rfl⟩
  have n1 : L1.length ≤ 14 := by rw [← hL1]; simp only [List.length_append, List.length_cons, List.length_nil]; omega
  have hs1 : ∀ W, (Op.stringOp .add (bs L0) (⟨#[32]⟩)).run Tryd.prog W = .ok (.string (bs L1)) W := fun W => hL1 ▸ add_bs (a := L0) (b := [32]) (by (try simp only [List.length_cons, List.length_nil]); omega) W
  obtain ⟨L2, hL2⟩ : ∃ L, L1 ++ xL rd = L := ⟨_, rfl⟩
  have n2 : L2.length ≤ 36 := by rw [← hL2]; simp only [List.length_append, List.length_cons, List.length_nil]; omega
  have hs2 : ∀ W, (Op.stringOp .add (bs L1) (bs (xL rd))).run Tryd.prog W = .ok (.string (bs L2)) W := fun W => hL2 ▸ add_bs (a := L1) (b := xL rd) (by (try simp only [List.length_cons, List.length_nil]); omega) W
  obtain ⟨L3, hL3⟩ : ∃ L, L2 ++ [44, 32] = L := ⟨_, rfl⟩
  have n3 : L3.length ≤ 38 := by rw [← hL3]; simp only [List.length_append, List.length_cons, List.length_nil]; omega
  have hs3 : ∀ W, (Op.stringOp .add (bs L2) (⟨#[44, 32]⟩)).run Tryd.prog W = .ok (.string (bs L3)) W := fun W => hL3 ▸ add_bs (a := L2) (b := [44, 32]) (by (try simp only [List.length_cons, List.length_nil]); omega) W
  obtain ⟨L4, hL4⟩ : ∃ L, L3 ++ xL rs2 = L := ⟨_, rfl⟩
  have n4 : L4.length ≤ 60 := by rw [← hL4]; simp only [List.length_append, List.length_cons, List.length_nil]; omega
  have hs4 : ∀ W, (Op.stringOp .add (bs L3) (bs (xL rs2))).run Tryd.prog W = .ok (.string (bs L4)) W := fun W => hL4 ▸ add_bs (a := L3) (b := xL rs2) (by (try simp only [List.length_cons, List.length_nil]); omega) W
  obtain ⟨L5, hL5⟩ : ∃ L, L4 ++ [44, 32, 40] = L := ⟨_, rfl⟩
  have n5 : L5.length ≤ 63 := by rw [← hL5]; simp only [List.length_append, List.length_cons, List.length_nil]; omega
  have hs5 : ∀ W, (Op.stringOp .add (bs L4) (⟨#[44, 32, 40]⟩)).run Tryd.prog W = .ok (.string (bs L5)) W := fun W => hL5 ▸ add_bs (a := L4) (b := [44, 32, 40]) (by (try simp only [List.length_cons, List.length_nil]); omega) W
  obtain ⟨L6, hL6⟩ : ∃ L, L5 ++ xL rs1 = L := ⟨_, rfl⟩
  have n6 : L6.length ≤ 85 := by rw [← hL6]; simp only [List.length_append, List.length_cons, List.length_nil]; omega
  have hs6 : ∀ W, (Op.stringOp .add (bs L5) (bs (xL rs1))).run Tryd.prog W = .ok (.string (bs L6)) W := fun W => hL6 ▸ add_bs (a := L5) (b := xL rs1) (by (try simp only [List.length_cons, List.length_nil]); omega) W
  obtain ⟨L7, hL7⟩ : ∃ L, L6 ++ [41] = L := ⟨_, rfl⟩
  have n7 : L7.length ≤ 86 := by rw [← hL7]; simp only [List.length_append, List.length_cons, List.length_nil]; omega
  have hs7 : ∀ W, (Op.stringOp .add (bs L6) (⟨#[41]⟩)).run Tryd.prog W = .ok (.string (bs L7)) W := fun W => hL7 ▸ add_bs (a := L6) (b := [41]) (by (try simp only [List.length_cons, List.length_nil]); omega) W
  have hfin : nmL k ++ sufL true true ++ endL (toldL .a (Inst.mk (k + 1) rd rs1 rs2 imm true true)) = L7 := by
    have hm := itoa_ne (sgn imm)
    rw [← hL7, ← hL6, ← hL5, ← hL4, ← hL3, ← hL2, ← hL1, ← hL0]
    simp [sufL, endL, toldL, join2, join3, xL, mL, hm]
  rw [htx, hfin]
  have hs : -9223372036854775808 ≤ sgn imm ∧ sgn imm ≤ 9223372036854775807 := by unfold sgn; split <;> omega
  have CN := Lib.hid (fun W => rname_k k W hk)
  have CF := Lib.hid (fun W hP => fmt_i (Inst.mk (k + 1) rd rs1 rs2 imm true true) (sgn imm) rfl W hP hs.1 hs.2)
  have HK := Lib.hid hk
  have HF := Lib.hid hf
  have HP := Lib.hid hP
  clear hk hf hP hs htx hfin a0 a1 a2 am au nn hL0 n0 hL1 n1 hL2 n2 hL3 n3 hL4 n4 hL5 n5 hL6 n6 hL7 n7
  generalize mL (Inst.mk (k + 1) rd rs1 rs2 imm true true) = M at *
  unfold Inst.val
  go_enter Tryd.func19, Tryd.ntmps19
  go_upto_region 10 with (first | (go_at_call 17; refine (CN.out _).mono ?_; rintro e w1 ⟨rfl, hb1⟩; have hi1 : w1.heap[w.heap.size]? = some (.cells (Inst.mk (k + 1) rd rs1 rs2 imm true true).val 25 (0, 0)) := (hb1.block _ (by simp)).trans (World.alloc_heap_new w _); have hz1 : w.heap.size < w1.heap.size := (by have z := hb1.size; rw [World.size_alloc] at z; exact z); obtain ⟨q0, q1, q2, q3, q4, q5, q6⟩ := cells_inst hi1; simp only at q0 q1 q2 q3 q4 q5 q6) | (go_at_call 28; refine (signed_ref _ _ h0 h1).mono ?_; rintro e w' ⟨rfl, rfl⟩) | (go_at_call 33; refine (CF.out _ ?_).mono ?_; exact (HP.out.below ((Below.refl _ _).alloc (Nat.le_refl _) _)).below hb1; rintro e w2 ⟨rfl, hb2⟩; have hi2 : w2.heap[w.heap.size]? = some (.cells (Inst.mk (k + 1) rd rs1 rs2 imm true true).val 25 (0, 0)) := (hb2.block _ hz1).trans hi1; obtain ⟨s0, s1, s2, s3, s4, s5, s6⟩ := cells_inst hi2; simp only at s0 s1 s2 s3 s4 s5 s6; have hp2 : TabP w2 := ((HP.out.below ((Below.refl _ _).alloc (Nat.le_refl _) _)).below hb1).below hb2))
  go_quiet (first | (go_at_call 34; exact Calls.quiet_of_same (reg_i rd _ r0.1 r0.2)) | (go_at_call 34; exact Calls.quiet_of_same (reg_i rs1 _ r1.1 r1.2)) | (go_at_call 34; exact Calls.quiet_of_same (reg_i rs2 _ r2.1 r2.2)))
  go_wp2_with (first | (go_at_call 22; refine (form_f k 97 .a HK.out HF.out rfl _).mono ?_; rintro e w' ⟨rfl, rfl⟩))
  go_ret
  have b1 : Below w.heap.size w w1 := ((Below.refl _ w).alloc (Nat.le_refl _) _).trans (hb1.mono (by simp))
  have b2 : Below w.heap.size w w2 := b1.trans (hb2.mono (Nat.le_of_lt hz1))
  have b3 : ∀ q, Below w.heap.size w (w2.drewN q) := fun q => ⟨b2.os, b2.tape, b2.output, b2.size, b2.block⟩
  exact ⟨rfl, (b3 _)⟩

set_option maxRecDepth 100000 in
set_option maxHeartbeats 4000000 in
theorem rtext_csr (rd rs1 rs2 imm : Int) (w : World) (hP : TabP w) (h0 : 0 ≤ imm) (h1 : imm < 4294967296) (k : Nat) (hk : k < 59) (hf : formK k = .csr) (ok : okF .csr (Inst.mk (k + 1) rd rs1 rs2 imm false false) = true) :
    Calls Tryd.prog 19 #[.agg (Inst.mk (k + 1) rd rs1 rs2 imm false false).val] w fun e w' => e = .returned (.string (bs (textL k (Inst.mk (k + 1) rd rs1 rs2 imm false false)))) ∧ Below w.heap.size w w' := by
  rw [okF_iff] at ok
  simp only at ok
  obtain ⟨k1, k2, k3, k4, k5⟩ := ok
  have r0 := regB_b k1
  have r1 := regB_b k2
  have r2 := regB_b k3
  clear k1 k2 k3 k4 k5
  have nn := nmL_len k hk
  have a0 := xL_len rd r0.1 r0.2
  have a1 := xL_len rs1 r1.1 r1.2
  have a2 := xL_len rs2 r2.1 r2.2
  have am := mL_len (Inst.mk (k + 1) rd rs1 rs2 imm false false) h0 h1
  have au := dec_len (imm / 4096).toNat (by omega)
  have htx : textL k (Inst.mk (k + 1) rd rs1 rs2 imm false false) = nmL k ++ sufL false false ++ endL (toldL .csr (Inst.mk (k + 1) rd rs1 rs2 imm false false)) := by unfold textL; rw [hf]
  obtain ⟨L0, hL0⟩ : ∃ L, nmL k ++ [32] = L := ⟨_, rfl⟩
  have n0 : L0.length ≤ 9 := by rw [← hL0]; simp only [List.length_append, List.length_cons, List.length_nil]; omega
  have hs0 : ∀ W, (Op.stringOp .add (bs (nmL k)) (⟨#[32]⟩)).run Tryd.prog W = .ok (.string (bs L0)) W := fun W => hL0 ▸ add_bs (a := nmL k) (b := [32]) (by (try simp only [List.length_cons, List.length_nil]); omega) W
  obtain ⟨L1, hL1⟩ : ∃ L, L0 ++ xL rd = L := ⟨_, rfl⟩
  have n1 : L1.length ≤ 31 := by rw [← hL1]; simp only [List.length_append, List.length_cons, List.length_nil]; omega
  have hs1 : ∀ W, (Op.stringOp .add (bs L0) (bs (xL rd))).run Tryd.prog W = .ok (.string (bs L1)) W := fun W => hL1 ▸ add_bs (a := L0) (b := xL rd) (by (try simp only [List.length_cons, List.length_nil]); omega) W
  have hfin : nmL k ++ sufL false false ++ endL (toldL .csr (Inst.mk (k + 1) rd rs1 rs2 imm false false)) = L1 := by
    have hm := itoa_ne (sgn imm)
    rw [← hL1, ← hL0]
    simp [sufL, endL, toldL, join2, join3, xL, mL, hm]
  rw [htx, hfin]
  have hs : -9223372036854775808 ≤ sgn imm ∧ sgn imm ≤ 9223372036854775807 := by unfold sgn; split <;> omega
  have CN := Lib.hid (fun W => rname_k k W hk)
  have CF := Lib.hid (fun W hP => fmt_i (Inst.mk (k + 1) rd rs1 rs2 imm false false) (sgn imm) rfl W hP hs.1 hs.2)
  have HK := Lib.hid hk
  have HF := Lib.hid hf
  have HP := Lib.hid hP
  clear hk hf hP hs htx hfin a0 a1 a2 am au nn hL0 n0 hL1 n1
  generalize mL (Inst.mk (k + 1) rd rs1 rs2 imm false false) = M at *
  unfold Inst.val
  go_enter Tryd.func19, Tryd.ntmps19
  go_upto_region 10 with (first | (go_at_call 17; refine (CN.out _).mono ?_; rintro e w1 ⟨rfl, hb1⟩; have hi1 : w1.heap[w.heap.size]? = some (.cells (Inst.mk (k + 1) rd rs1 rs2 imm false false).val 25 (0, 0)) := (hb1.block _ (by simp)).trans (World.alloc_heap_new w _); have hz1 : w.heap.size < w1.heap.size := (by have z := hb1.size; rw [World.size_alloc] at z; exact z); obtain ⟨q0, q1, q2, q3, q4, q5, q6⟩ := cells_inst hi1; simp only at q0 q1 q2 q3 q4 q5 q6) | (go_at_call 28; refine (signed_ref _ _ h0 h1).mono ?_; rintro e w' ⟨rfl, rfl⟩) | (go_at_call 33; refine (CF.out _ ?_).mono ?_; exact (HP.out.below ((Below.refl _ _).alloc (Nat.le_refl _) _)).below hb1; rintro e w2 ⟨rfl, hb2⟩; have hi2 : w2.heap[w.heap.size]? = some (.cells (Inst.mk (k + 1) rd rs1 rs2 imm false false).val 25 (0, 0)) := (hb2.block _ hz1).trans hi1; obtain ⟨s0, s1, s2, s3, s4, s5, s6⟩ := cells_inst hi2; simp only at s0 s1 s2 s3 s4 s5 s6; have hp2 : TabP w2 := ((HP.out.below ((Below.refl _ _).alloc (Nat.le_refl _) _)).below hb1).below hb2))
  go_quiet (first | (go_at_call 34; exact Calls.quiet_of_same (reg_i rd _ r0.1 r0.2)) | (go_at_call 34; exact Calls.quiet_of_same (reg_i rs1 _ r1.1 r1.2)) | (go_at_call 34; exact Calls.quiet_of_same (reg_i rs2 _ r2.1 r2.2)))
  go_wp2_with (first | (go_at_call 22; refine (form_f k 99 .csr HK.out HF.out rfl _).mono ?_; rintro e w' ⟨rfl, rfl⟩))
  go_ret
  have b1 : Below w.heap.size w w1 := ((Below.refl _ w).alloc (Nat.le_refl _) _).trans (hb1.mono (by simp))
  have b2 : Below w.heap.size w w2 := b1.trans (hb2.mono (Nat.le_of_lt hz1))
  have b3 : ∀ q, Below w.heap.size w (w2.drewN q) := fun q => ⟨b2.os, b2.tape, b2.output, b2.size, b2.block⟩
  exact ⟨rfl, (b3 _)⟩
end Go.Proofs.YtamilahkdinjkaaDoor
