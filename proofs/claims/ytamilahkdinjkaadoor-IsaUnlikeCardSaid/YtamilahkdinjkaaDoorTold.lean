/-
  How an instruction's parts are told, at each form.
-/
import Derived.Test.YtamilahkdinjkaaDoorText2
import Derived.Test.YtamilahkdinjkaaDoorPureW
import Derived.Test.YtamilahkdinjkaaDoorClos
import Derived.RangeFuncRecord
namespace Go.Proofs.YtamilahkdinjkaaDoor
set_option linter.unusedVariables false
set_option linter.unusedSimpArgs false
open Go.RowKit Go.Sort Go.Lib
attribute [local go_sem] Oper.semAt_some

theorem join1 (a s : List UInt8) : Lib.join [a] s = a := by simp [Lib.join, List.intercalate]
theorem join2 (a b s : List UInt8) : Lib.join [a, b] s = a ++ (s ++ b) := by simp [Lib.join, List.intercalate]
theorem join3 (a b c s : List UInt8) : Lib.join [a, b, c] s = a ++ (s ++ (b ++ (s ++ c))) := by simp [Lib.join, List.intercalate]
theorem below_drew {B : Nat} {w w' : World} (h : Below B w w') : Below B w w'.drew := ⟨h.os, h.tape, h.output, h.size, h.block⟩
theorem below_alloc_trans {w a c : World} {o : Obj} (h : Below w.heap.size w a) (hb : Below (a.alloc o).heap.size (a.alloc o) c) : Below w.heap.size w c := (h.alloc h.size o).trans (hb.mono (h.alloc h.size o).size)
theorem below_from {B : Nat} {w w' : World} (h : Below B w.drew w') : Below B w w' := ⟨h.os, h.tape, h.output, h.size, h.block⟩

set_option maxRecDepth 100000 in
set_option maxHeartbeats 4000000 in
theorem told_i (i : Inst) (w : World) (hP : TabP w) (h0 : 0 ≤ i.imm) (h1 : i.imm < 4294967296) (r0 : 0 ≤ i.rd ∧ i.rd < 32) (r1 : 0 ≤ i.rs1 ∧ i.rs1 < 32) :
    Calls Tryd.prog 50 #[.agg i.val] w fun e w' => e = .returned (.string (bs (Lib.join [xL i.rd, xL i.rs1, mL i] [44, 32]))) ∧ Below w.heap.size w w' := by
  obtain ⟨op, rd, rs1, rs2, imm, aq, rl⟩ := i
  simp only at h0 h1 r0 r1
  have a0 := xL_len rd r0.1 r0.2
  have a1 := xL_len rs1 r1.1 r1.2
  have am := mL_len (Inst.mk op rd rs1 rs2 imm aq rl) h0 h1
  have au := dec_len (imm / 4096).toNat (by omega)
  have hl : (Lib.join [xL rd, xL rs1, mL (Inst.mk op rd rs1 rs2 imm aq rl)] [44, 32]).length ≤ 140737488355328 := by
    simp only [join1, join2, join3, List.length_append, List.length_cons, List.length_nil]
    omega
  have HL := Lib.hid hl
  have hw64 : IntKind.u64.wrap (imm / 4096) = imm / 4096 := by rw [IntKind.wrap_u64]; omega
  have HW := Lib.hid hw64
  clear hw64
  clear hl am au a0 a1
  have IM := Lib.hid (fun W hP => imm_any (Inst.mk op rd rs1 rs2 imm aq rl) W hP h0 h1)
  generalize mL (Inst.mk op rd rs1 rs2 imm aq rl) = ml at *
  unfold Inst.val
  go_enter Tryd.func50, Tryd.ntmps50
  go_wp2_with fail
  have hi := World.alloc_heap_new w (.cells (Inst.mk op rd rs1 rs2 imm aq rl).val 25)
  have hb0 : Below w.heap.size w (w.alloc (.cells (Inst.mk op rd rs1 rs2 imm aq rl).val 25)) := (Below.refl _ w).alloc (Nat.le_refl _) _
  have hz0 : w.heap.size < (w.alloc (.cells (Inst.mk op rd rs1 rs2 imm aq rl).val 25)).heap.size := by rw [World.size_alloc]; exact Nat.lt_succ_self _
  have hp0 := hP.below hb0
  unfold Inst.val at hi hb0 hz0 hp0
  generalize World.alloc w _ = W0 at *
  obtain ⟨q0, q1, q2, q3, q4, q5, q6⟩ := cells_inst (i := (Inst.mk op rd rs1 rs2 imm aq rl)) hi
  simp only at q0 q1 q2 q3 q4 q5 q6
  have HI := Lib.hid hi
  have HB := Lib.hid hb0
  clear hi hb0 hP
  have hpd : ∀ W : World, TabP W.drew = TabP W := fun _ => rfl
  have hpn : ∀ (W : World) (q : Nat), TabP (W.drewN q) = TabP W := fun _ _ => rfl
  have hpa : ∀ (W : World) (o : Obj), TabP W → TabP (W.alloc o) := fun W o h => h.below ((Below.refl _ _).alloc (Nat.le_refl _) _)
  go_region_held3 (fun x => x.cell? ⟨w.heap.size, 0, none⟩ = some (.int .i64 op) ∧ x.cell? ⟨w.heap.size, 1, none⟩ = some (.int .i64 rd) ∧ x.cell? ⟨w.heap.size, 2, none⟩ = some (.int .i64 rs1) ∧ x.cell? ⟨w.heap.size, 3, none⟩ = some (.int .i64 rs2) ∧ x.cell? ⟨w.heap.size, 4, none⟩ = some (.int .u32 imm) ∧ x.cell? ⟨w.heap.size, 5, none⟩ = some (.bool aq) ∧ x.cell? ⟨w.heap.size, 6, none⟩ = some (.bool rl) ∧ TabP x) (first | go_keep | skip) (first | (go_at_call 52; refine (x_any _ _ (by omega) (by omega)).mono ?_; rintro e w' ⟨rfl, rfl⟩) | (go_at_call 53; refine (IM.out _ ?_).mono ?_; exact hp0; rintro e w1 ⟨rfl, hb1⟩; have hi1 : w1.heap[w.heap.size]? = some (.cells (Inst.mk op rd rs1 rs2 imm aq rl).val 25 (0, 0)) := (hb1.block _ hz0).trans HI.out; obtain ⟨p0, p1, p2, p3, p4, p5, p6⟩ := cells_inst hi1; have hp1 : TabP w1 := (by refine TabP.below ?_ hb1; exact hp0); simp only at p0 p1 p2 p3 p4 p5 p6; have HI1 := Lib.hid hi1; clear hi1; have hz1 : w.heap.size < w1.heap.size := Nat.lt_of_lt_of_le hz0 hb1.size) | (go_at_call 51; refine (list_any _ 0 3 [xL rd, xL rs1, ml] _ ?_ ?_ (Nat.le_refl 3) (by decide) HL.out).mono ?_; (intro j x hx; rcases j with _ | _ | _ | j; (simp at hx; subst hx; go_simp); (simp at hx; subst hx; go_simp); (simp at hx; subst hx; go_simp); (simp at hx)); go_simp; rintro e w2 ⟨rfl, hb2⟩; have hi2 : w2.heap[w.heap.size]? = some (.cells (Inst.mk op rd rs1 rs2 imm aq rl).val 25 (0, 0)) := (hb2.block _ (by first | (rw [World.size_alloc]; exact Nat.lt_succ_of_lt hz1) | (show _ < (World.alloc _ _).heap.size; rw [World.size_alloc]; exact Nat.lt_succ_of_lt hz1))).trans ((Below.heap_alloc _ _ _ hz1).trans HI1.out); obtain ⟨s0, s1, s2, s3, s4, s5, s6⟩ := cells_inst hi2; simp only at s0 s1 s2 s3 s4 s5 s6; clear hi2; have hp2 : TabP w2 := (by refine TabP.below ?_ hb2; exact hpa _ _ hp1)))
  go_wp2
  go_ret
  have e1 : Below w.heap.size w w1 := HB.out.trans (below_from (hb1.mono (Nat.le_of_lt hz0)))
  exact ⟨rfl, below_alloc_trans e1 hb2⟩

set_option maxRecDepth 100000 in
set_option maxHeartbeats 4000000 in
theorem told_load (i : Inst) (w : World) (hP : TabP w) (h0 : 0 ≤ i.imm) (h1 : i.imm < 4294967296) (r0 : 0 ≤ i.rd ∧ i.rd < 32) (r1 : 0 ≤ i.rs1 ∧ i.rs1 < 32) :
    Calls Tryd.prog 54 #[.agg i.val] w fun e w' => e = .returned (.string (bs (Lib.join [xL i.rd, mL i ++ [40] ++ xL i.rs1 ++ [41]] [44, 32]))) ∧ Below w.heap.size w w' := by
  obtain ⟨op, rd, rs1, rs2, imm, aq, rl⟩ := i
  simp only at h0 h1 r0 r1
  have a0 := xL_len rd r0.1 r0.2
  have a1 := xL_len rs1 r1.1 r1.2
  have am := mL_len (Inst.mk op rd rs1 rs2 imm aq rl) h0 h1
  have au := dec_len (imm / 4096).toNat (by omega)
  have hl : (Lib.join [xL rd, mL (Inst.mk op rd rs1 rs2 imm aq rl) ++ [40] ++ xL rs1 ++ [41]] [44, 32]).length ≤ 140737488355328 := by
    simp only [join1, join2, join3, List.length_append, List.length_cons, List.length_nil]
    omega
  have HL := Lib.hid hl
  have hw64 : IntKind.u64.wrap (imm / 4096) = imm / 4096 := by rw [IntKind.wrap_u64]; omega
  have HW := Lib.hid hw64
  clear hw64
  obtain ⟨L0, hL0⟩ : ∃ L, mL (Inst.mk op rd rs1 rs2 imm aq rl) ++ [40] = L := ⟨_, rfl⟩
  have n0 : L0.length ≤ 60 := by rw [← hL0]; simp only [List.length_append, List.length_cons, List.length_nil]; omega
  have hs0 : ∀ W, (Op.stringOp .add (bs (mL (Inst.mk op rd rs1 rs2 imm aq rl))) (⟨#[40]⟩)).run Tryd.prog W = .ok (.string (bs L0)) W := fun W => hL0 ▸ add_bs (a := mL (Inst.mk op rd rs1 rs2 imm aq rl)) (b := [40]) (by (try simp only [List.length_cons, List.length_nil]); omega) W
  obtain ⟨L1, hL1⟩ : ∃ L, L0 ++ xL rs1 = L := ⟨_, rfl⟩
  have n1 : L1.length ≤ 120 := by rw [← hL1]; simp only [List.length_append, List.length_cons, List.length_nil]; omega
  have hs1 : ∀ W, (Op.stringOp .add (bs L0) (bs (xL rs1))).run Tryd.prog W = .ok (.string (bs L1)) W := fun W => hL1 ▸ add_bs (a := L0) (b := xL rs1) (by (try simp only [List.length_cons, List.length_nil]); omega) W
  obtain ⟨L2, hL2⟩ : ∃ L, L1 ++ [41] = L := ⟨_, rfl⟩
  have n2 : L2.length ≤ 180 := by rw [← hL2]; simp only [List.length_append, List.length_cons, List.length_nil]; omega
  have hs2 : ∀ W, (Op.stringOp .add (bs L1) (⟨#[41]⟩)).run Tryd.prog W = .ok (.string (bs L2)) W := fun W => hL2 ▸ add_bs (a := L1) (b := [41]) (by (try simp only [List.length_cons, List.length_nil]); omega) W
  have hfull : mL (Inst.mk op rd rs1 rs2 imm aq rl) ++ [40] ++ xL rs1 ++ [41] = L2 := by rw [← hL2, ← hL1, ← hL0]
  rw [hfull] at HL ⊢
  clear hfull hL0 n0 hL1 n1 hL2 n2
  clear hl am au a0 a1
  have IM := Lib.hid (fun W hP => imm_any (Inst.mk op rd rs1 rs2 imm aq rl) W hP h0 h1)
  generalize mL (Inst.mk op rd rs1 rs2 imm aq rl) = ml at *
  unfold Inst.val
  go_enter Tryd.func54, Tryd.ntmps54
  go_wp2_with fail
  have hi := World.alloc_heap_new w (.cells (Inst.mk op rd rs1 rs2 imm aq rl).val 25)
  have hb0 : Below w.heap.size w (w.alloc (.cells (Inst.mk op rd rs1 rs2 imm aq rl).val 25)) := (Below.refl _ w).alloc (Nat.le_refl _) _
  have hz0 : w.heap.size < (w.alloc (.cells (Inst.mk op rd rs1 rs2 imm aq rl).val 25)).heap.size := by rw [World.size_alloc]; exact Nat.lt_succ_self _
  have hp0 := hP.below hb0
  unfold Inst.val at hi hb0 hz0 hp0
  generalize World.alloc w _ = W0 at *
  obtain ⟨q0, q1, q2, q3, q4, q5, q6⟩ := cells_inst (i := (Inst.mk op rd rs1 rs2 imm aq rl)) hi
  simp only at q0 q1 q2 q3 q4 q5 q6
  have HI := Lib.hid hi
  have HB := Lib.hid hb0
  clear hi hb0 hP
  have hpd : ∀ W : World, TabP W.drew = TabP W := fun _ => rfl
  have hpn : ∀ (W : World) (q : Nat), TabP (W.drewN q) = TabP W := fun _ _ => rfl
  have hpa : ∀ (W : World) (o : Obj), TabP W → TabP (W.alloc o) := fun W o h => h.below ((Below.refl _ _).alloc (Nat.le_refl _) _)
  go_region_held3 (fun x => x.cell? ⟨w.heap.size, 0, none⟩ = some (.int .i64 op) ∧ x.cell? ⟨w.heap.size, 1, none⟩ = some (.int .i64 rd) ∧ x.cell? ⟨w.heap.size, 2, none⟩ = some (.int .i64 rs1) ∧ x.cell? ⟨w.heap.size, 3, none⟩ = some (.int .i64 rs2) ∧ x.cell? ⟨w.heap.size, 4, none⟩ = some (.int .u32 imm) ∧ x.cell? ⟨w.heap.size, 5, none⟩ = some (.bool aq) ∧ x.cell? ⟨w.heap.size, 6, none⟩ = some (.bool rl) ∧ TabP x) (first | go_keep | skip) (first | (go_at_call 52; refine (x_any _ _ (by omega) (by omega)).mono ?_; rintro e w' ⟨rfl, rfl⟩) | (go_at_call 53; refine (IM.out _ ?_).mono ?_; exact hp0; rintro e w1 ⟨rfl, hb1⟩; have hi1 : w1.heap[w.heap.size]? = some (.cells (Inst.mk op rd rs1 rs2 imm aq rl).val 25 (0, 0)) := (hb1.block _ hz0).trans HI.out; obtain ⟨p0, p1, p2, p3, p4, p5, p6⟩ := cells_inst hi1; have hp1 : TabP w1 := (by refine TabP.below ?_ hb1; exact hp0); simp only at p0 p1 p2 p3 p4 p5 p6; have HI1 := Lib.hid hi1; clear hi1; have hz1 : w.heap.size < w1.heap.size := Nat.lt_of_lt_of_le hz0 hb1.size) | (go_at_call 51; refine (list_any _ 0 2 [xL rd, L2] _ ?_ ?_ (Nat.le_refl 2) (by decide) HL.out).mono ?_; (intro j x hx; rcases j with _ | _ | j; (simp at hx; subst hx; go_simp); (simp at hx; subst hx; go_simp); (simp at hx)); go_simp; rintro e w2 ⟨rfl, hb2⟩; have hi2 : w2.heap[w.heap.size]? = some (.cells (Inst.mk op rd rs1 rs2 imm aq rl).val 25 (0, 0)) := (hb2.block _ (by first | (rw [World.size_alloc]; exact Nat.lt_succ_of_lt hz1) | (show _ < (World.alloc _ _).heap.size; rw [World.size_alloc]; exact Nat.lt_succ_of_lt hz1))).trans ((Below.heap_alloc _ _ _ hz1).trans HI1.out); obtain ⟨s0, s1, s2, s3, s4, s5, s6⟩ := cells_inst hi2; simp only at s0 s1 s2 s3 s4 s5 s6; clear hi2; have hp2 : TabP w2 := (by refine TabP.below ?_ hb2; exact hpa _ _ hp1)))
  go_wp2
  go_ret
  have e1 : Below w.heap.size w w1 := HB.out.trans (below_from (hb1.mono (Nat.le_of_lt hz0)))
  exact ⟨rfl, below_alloc_trans e1 hb2⟩

set_option maxRecDepth 100000 in
set_option maxHeartbeats 4000000 in
theorem told_r (i : Inst) (w : World) (hP : TabP w) (h0 : 0 ≤ i.imm) (h1 : i.imm < 4294967296) (r0 : 0 ≤ i.rd ∧ i.rd < 32) (r1 : 0 ≤ i.rs1 ∧ i.rs1 < 32) (r2 : 0 ≤ i.rs2 ∧ i.rs2 < 32) :
    Calls Tryd.prog 56 #[.agg i.val] w fun e w' => e = .returned (.string (bs (Lib.join [xL i.rd, xL i.rs1, xL i.rs2] [44, 32]))) ∧ Below w.heap.size w w' := by
  obtain ⟨op, rd, rs1, rs2, imm, aq, rl⟩ := i
  simp only at h0 h1 r0 r1 r2
  have a0 := xL_len rd r0.1 r0.2
  have a1 := xL_len rs1 r1.1 r1.2
  have a2 := xL_len rs2 r2.1 r2.2
  have am := mL_len (Inst.mk op rd rs1 rs2 imm aq rl) h0 h1
  have au := dec_len (imm / 4096).toNat (by omega)
  have hl : (Lib.join [xL rd, xL rs1, xL rs2] [44, 32]).length ≤ 140737488355328 := by
    simp only [join1, join2, join3, List.length_append, List.length_cons, List.length_nil]
    omega
  have HL := Lib.hid hl
  have hw64 : IntKind.u64.wrap (imm / 4096) = imm / 4096 := by rw [IntKind.wrap_u64]; omega
  have HW := Lib.hid hw64
  clear hw64
  clear hl am au a0 a1 a2
  have IM := Lib.hid (fun W hP => imm_any (Inst.mk op rd rs1 rs2 imm aq rl) W hP h0 h1)
  generalize mL (Inst.mk op rd rs1 rs2 imm aq rl) = ml at *
  unfold Inst.val
  go_enter Tryd.func56, Tryd.ntmps56
  go_wp2_with fail
  have hi := World.alloc_heap_new w (.cells (Inst.mk op rd rs1 rs2 imm aq rl).val 25)
  have hb0 : Below w.heap.size w (w.alloc (.cells (Inst.mk op rd rs1 rs2 imm aq rl).val 25)) := (Below.refl _ w).alloc (Nat.le_refl _) _
  have hz0 : w.heap.size < (w.alloc (.cells (Inst.mk op rd rs1 rs2 imm aq rl).val 25)).heap.size := by rw [World.size_alloc]; exact Nat.lt_succ_self _
  have hp0 := hP.below hb0
  unfold Inst.val at hi hb0 hz0 hp0
  generalize World.alloc w _ = W0 at *
  obtain ⟨q0, q1, q2, q3, q4, q5, q6⟩ := cells_inst (i := (Inst.mk op rd rs1 rs2 imm aq rl)) hi
  simp only at q0 q1 q2 q3 q4 q5 q6
  have HI := Lib.hid hi
  have HB := Lib.hid hb0
  clear hi hb0 hP
  have hpd : ∀ W : World, TabP W.drew = TabP W := fun _ => rfl
  have hpn : ∀ (W : World) (q : Nat), TabP (W.drewN q) = TabP W := fun _ _ => rfl
  have hpa : ∀ (W : World) (o : Obj), TabP W → TabP (W.alloc o) := fun W o h => h.below ((Below.refl _ _).alloc (Nat.le_refl _) _)
  go_region_held3 (fun x => x.cell? ⟨w.heap.size, 0, none⟩ = some (.int .i64 op) ∧ x.cell? ⟨w.heap.size, 1, none⟩ = some (.int .i64 rd) ∧ x.cell? ⟨w.heap.size, 2, none⟩ = some (.int .i64 rs1) ∧ x.cell? ⟨w.heap.size, 3, none⟩ = some (.int .i64 rs2) ∧ x.cell? ⟨w.heap.size, 4, none⟩ = some (.int .u32 imm) ∧ x.cell? ⟨w.heap.size, 5, none⟩ = some (.bool aq) ∧ x.cell? ⟨w.heap.size, 6, none⟩ = some (.bool rl) ∧ TabP x) (first | go_keep | skip) (first | (go_at_call 52; refine (x_any _ _ (by omega) (by omega)).mono ?_; rintro e w' ⟨rfl, rfl⟩) | (go_at_call 51; refine (list_any _ 0 3 [xL rd, xL rs1, xL rs2] _ ?_ ?_ (Nat.le_refl 3) (by decide) HL.out).mono ?_; (intro j x hx; rcases j with _ | _ | _ | j; (simp at hx; subst hx; go_simp); (simp at hx; subst hx; go_simp); (simp at hx; subst hx; go_simp); (simp at hx)); go_simp; rintro e w2 ⟨rfl, hb2⟩; have hi2 : w2.heap[w.heap.size]? = some (.cells (Inst.mk op rd rs1 rs2 imm aq rl).val 25 (0, 0)) := (hb2.block _ (by first | (rw [World.size_alloc]; exact Nat.lt_succ_of_lt hz0) | (show _ < (World.alloc _ _).heap.size; rw [World.size_alloc]; exact Nat.lt_succ_of_lt hz0))).trans ((Below.heap_alloc _ _ _ hz0).trans HI.out); obtain ⟨s0, s1, s2, s3, s4, s5, s6⟩ := cells_inst hi2; simp only at s0 s1 s2 s3 s4 s5 s6; clear hi2; have hp2 : TabP w2 := (by refine TabP.below ?_ hb2; exact hpa _ _ hp0)))
  go_wp2
  go_ret
  exact ⟨rfl, below_alloc_trans (below_drew HB.out) hb2⟩

set_option maxRecDepth 100000 in
set_option maxHeartbeats 4000000 in
theorem told_a (i : Inst) (w : World) (hP : TabP w) (h0 : 0 ≤ i.imm) (h1 : i.imm < 4294967296) (r0 : 0 ≤ i.rd ∧ i.rd < 32) (r1 : 0 ≤ i.rs1 ∧ i.rs1 < 32) (r2 : 0 ≤ i.rs2 ∧ i.rs2 < 32) :
    Calls Tryd.prog 57 #[.agg i.val] w fun e w' => e = .returned (.string (bs (Lib.join [xL i.rd, xL i.rs2, [40] ++ xL i.rs1 ++ [41]] [44, 32]))) ∧ Below w.heap.size w w' := by
  obtain ⟨op, rd, rs1, rs2, imm, aq, rl⟩ := i
  simp only at h0 h1 r0 r1 r2
  have a0 := xL_len rd r0.1 r0.2
  have a1 := xL_len rs1 r1.1 r1.2
  have a2 := xL_len rs2 r2.1 r2.2
  have am := mL_len (Inst.mk op rd rs1 rs2 imm aq rl) h0 h1
  have au := dec_len (imm / 4096).toNat (by omega)
  have hl : (Lib.join [xL rd, xL rs2, [40] ++ xL rs1 ++ [41]] [44, 32]).length ≤ 140737488355328 := by
    simp only [join1, join2, join3, List.length_append, List.length_cons, List.length_nil]
    omega
  have HL := Lib.hid hl
  have hw64 : IntKind.u64.wrap (imm / 4096) = imm / 4096 := by rw [IntKind.wrap_u64]; omega
  have HW := Lib.hid hw64
  clear hw64
  obtain ⟨L0, hL0⟩ : ∃ L, [40] ++ xL rs1 = L := ⟨_, rfl⟩
  have n0 : L0.length ≤ 60 := by rw [← hL0]; simp only [List.length_append, List.length_cons, List.length_nil]; omega
  have hs0 : ∀ W, (Op.stringOp .add (⟨#[40]⟩) (bs (xL rs1))).run Tryd.prog W = .ok (.string (bs L0)) W := fun W => hL0 ▸ add_bs (a := [40]) (b := xL rs1) (by (try simp only [List.length_cons, List.length_nil]); omega) W
  obtain ⟨L1, hL1⟩ : ∃ L, L0 ++ [41] = L := ⟨_, rfl⟩
  have n1 : L1.length ≤ 120 := by rw [← hL1]; simp only [List.length_append, List.length_cons, List.length_nil]; omega
  have hs1 : ∀ W, (Op.stringOp .add (bs L0) (⟨#[41]⟩)).run Tryd.prog W = .ok (.string (bs L1)) W := fun W => hL1 ▸ add_bs (a := L0) (b := [41]) (by (try simp only [List.length_cons, List.length_nil]); omega) W
  have hfull : [40] ++ xL rs1 ++ [41] = L1 := by rw [← hL1, ← hL0]
  rw [hfull] at HL ⊢
  clear hfull hL0 n0 hL1 n1
  clear hl am au a0 a1 a2
  have IM := Lib.hid (fun W hP => imm_any (Inst.mk op rd rs1 rs2 imm aq rl) W hP h0 h1)
  generalize mL (Inst.mk op rd rs1 rs2 imm aq rl) = ml at *
  unfold Inst.val
  go_enter Tryd.func57, Tryd.ntmps57
  go_wp2_with fail
  have hi := World.alloc_heap_new w (.cells (Inst.mk op rd rs1 rs2 imm aq rl).val 25)
  have hb0 : Below w.heap.size w (w.alloc (.cells (Inst.mk op rd rs1 rs2 imm aq rl).val 25)) := (Below.refl _ w).alloc (Nat.le_refl _) _
  have hz0 : w.heap.size < (w.alloc (.cells (Inst.mk op rd rs1 rs2 imm aq rl).val 25)).heap.size := by rw [World.size_alloc]; exact Nat.lt_succ_self _
  have hp0 := hP.below hb0
  unfold Inst.val at hi hb0 hz0 hp0
  generalize World.alloc w _ = W0 at *
  obtain ⟨q0, q1, q2, q3, q4, q5, q6⟩ := cells_inst (i := (Inst.mk op rd rs1 rs2 imm aq rl)) hi
  simp only at q0 q1 q2 q3 q4 q5 q6
  have HI := Lib.hid hi
  have HB := Lib.hid hb0
  clear hi hb0 hP
  have hpd : ∀ W : World, TabP W.drew = TabP W := fun _ => rfl
  have hpn : ∀ (W : World) (q : Nat), TabP (W.drewN q) = TabP W := fun _ _ => rfl
  have hpa : ∀ (W : World) (o : Obj), TabP W → TabP (W.alloc o) := fun W o h => h.below ((Below.refl _ _).alloc (Nat.le_refl _) _)
  go_region_held3 (fun x => x.cell? ⟨w.heap.size, 0, none⟩ = some (.int .i64 op) ∧ x.cell? ⟨w.heap.size, 1, none⟩ = some (.int .i64 rd) ∧ x.cell? ⟨w.heap.size, 2, none⟩ = some (.int .i64 rs1) ∧ x.cell? ⟨w.heap.size, 3, none⟩ = some (.int .i64 rs2) ∧ x.cell? ⟨w.heap.size, 4, none⟩ = some (.int .u32 imm) ∧ x.cell? ⟨w.heap.size, 5, none⟩ = some (.bool aq) ∧ x.cell? ⟨w.heap.size, 6, none⟩ = some (.bool rl) ∧ TabP x) (first | go_keep | skip) (first | (go_at_call 52; refine (x_any _ _ (by omega) (by omega)).mono ?_; rintro e w' ⟨rfl, rfl⟩) | (go_at_call 51; refine (list_any _ 0 3 [xL rd, xL rs2, L1] _ ?_ ?_ (Nat.le_refl 3) (by decide) HL.out).mono ?_; (intro j x hx; rcases j with _ | _ | _ | j; (simp at hx; subst hx; go_simp); (simp at hx; subst hx; go_simp); (simp at hx; subst hx; go_simp); (simp at hx)); go_simp; rintro e w2 ⟨rfl, hb2⟩; have hi2 : w2.heap[w.heap.size]? = some (.cells (Inst.mk op rd rs1 rs2 imm aq rl).val 25 (0, 0)) := (hb2.block _ (by first | (rw [World.size_alloc]; exact Nat.lt_succ_of_lt hz0) | (show _ < (World.alloc _ _).heap.size; rw [World.size_alloc]; exact Nat.lt_succ_of_lt hz0))).trans ((Below.heap_alloc _ _ _ hz0).trans HI.out); obtain ⟨s0, s1, s2, s3, s4, s5, s6⟩ := cells_inst hi2; simp only at s0 s1 s2 s3 s4 s5 s6; clear hi2; have hp2 : TabP w2 := (by refine TabP.below ?_ hb2; exact hpa _ _ hp0)))
  go_wp2
  go_ret
  exact ⟨rfl, below_alloc_trans (below_drew HB.out) hb2⟩

set_option maxRecDepth 100000 in
set_option maxHeartbeats 4000000 in
theorem told_lr (i : Inst) (w : World) (hP : TabP w) (h0 : 0 ≤ i.imm) (h1 : i.imm < 4294967296) (r0 : 0 ≤ i.rd ∧ i.rd < 32) (r1 : 0 ≤ i.rs1 ∧ i.rs1 < 32) :
    Calls Tryd.prog 58 #[.agg i.val] w fun e w' => e = .returned (.string (bs (Lib.join [xL i.rd, [40] ++ xL i.rs1 ++ [41]] [44, 32]))) ∧ Below w.heap.size w w' := by
  obtain ⟨op, rd, rs1, rs2, imm, aq, rl⟩ := i
  simp only at h0 h1 r0 r1
  have a0 := xL_len rd r0.1 r0.2
  have a1 := xL_len rs1 r1.1 r1.2
  have am := mL_len (Inst.mk op rd rs1 rs2 imm aq rl) h0 h1
  have au := dec_len (imm / 4096).toNat (by omega)
  have hl : (Lib.join [xL rd, [40] ++ xL rs1 ++ [41]] [44, 32]).length ≤ 140737488355328 := by
    simp only [join1, join2, join3, List.length_append, List.length_cons, List.length_nil]
    omega
  have HL := Lib.hid hl
  have hw64 : IntKind.u64.wrap (imm / 4096) = imm / 4096 := by rw [IntKind.wrap_u64]; omega
  have HW := Lib.hid hw64
  clear hw64
  obtain ⟨L0, hL0⟩ : ∃ L, [40] ++ xL rs1 = L := ⟨_, rfl⟩
  have n0 : L0.length ≤ 60 := by rw [← hL0]; simp only [List.length_append, List.length_cons, List.length_nil]; omega
  have hs0 : ∀ W, (Op.stringOp .add (⟨#[40]⟩) (bs (xL rs1))).run Tryd.prog W = .ok (.string (bs L0)) W := fun W => hL0 ▸ add_bs (a := [40]) (b := xL rs1) (by (try simp only [List.length_cons, List.length_nil]); omega) W
  obtain ⟨L1, hL1⟩ : ∃ L, L0 ++ [41] = L := ⟨_, rfl⟩
  have n1 : L1.length ≤ 120 := by rw [← hL1]; simp only [List.length_append, List.length_cons, List.length_nil]; omega
  have hs1 : ∀ W, (Op.stringOp .add (bs L0) (⟨#[41]⟩)).run Tryd.prog W = .ok (.string (bs L1)) W := fun W => hL1 ▸ add_bs (a := L0) (b := [41]) (by (try simp only [List.length_cons, List.length_nil]); omega) W
  have hfull : [40] ++ xL rs1 ++ [41] = L1 := by rw [← hL1, ← hL0]
  rw [hfull] at HL ⊢
  clear hfull hL0 n0 hL1 n1
  clear hl am au a0 a1
  have IM := Lib.hid (fun W hP => imm_any (Inst.mk op rd rs1 rs2 imm aq rl) W hP h0 h1)
  generalize mL (Inst.mk op rd rs1 rs2 imm aq rl) = ml at *
  unfold Inst.val
  go_enter Tryd.func58, Tryd.ntmps58
  go_wp2_with fail
  have hi := World.alloc_heap_new w (.cells (Inst.mk op rd rs1 rs2 imm aq rl).val 25)
  have hb0 : Below w.heap.size w (w.alloc (.cells (Inst.mk op rd rs1 rs2 imm aq rl).val 25)) := (Below.refl _ w).alloc (Nat.le_refl _) _
  have hz0 : w.heap.size < (w.alloc (.cells (Inst.mk op rd rs1 rs2 imm aq rl).val 25)).heap.size := by rw [World.size_alloc]; exact Nat.lt_succ_self _
  have hp0 := hP.below hb0
  unfold Inst.val at hi hb0 hz0 hp0
  generalize World.alloc w _ = W0 at *
  obtain ⟨q0, q1, q2, q3, q4, q5, q6⟩ := cells_inst (i := (Inst.mk op rd rs1 rs2 imm aq rl)) hi
  simp only at q0 q1 q2 q3 q4 q5 q6
  have HI := Lib.hid hi
  have HB := Lib.hid hb0
  clear hi hb0 hP
  have hpd : ∀ W : World, TabP W.drew = TabP W := fun _ => rfl
  have hpn : ∀ (W : World) (q : Nat), TabP (W.drewN q) = TabP W := fun _ _ => rfl
  have hpa : ∀ (W : World) (o : Obj), TabP W → TabP (W.alloc o) := fun W o h => h.below ((Below.refl _ _).alloc (Nat.le_refl _) _)
  go_region_held3 (fun x => x.cell? ⟨w.heap.size, 0, none⟩ = some (.int .i64 op) ∧ x.cell? ⟨w.heap.size, 1, none⟩ = some (.int .i64 rd) ∧ x.cell? ⟨w.heap.size, 2, none⟩ = some (.int .i64 rs1) ∧ x.cell? ⟨w.heap.size, 3, none⟩ = some (.int .i64 rs2) ∧ x.cell? ⟨w.heap.size, 4, none⟩ = some (.int .u32 imm) ∧ x.cell? ⟨w.heap.size, 5, none⟩ = some (.bool aq) ∧ x.cell? ⟨w.heap.size, 6, none⟩ = some (.bool rl) ∧ TabP x) (first | go_keep | skip) (first | (go_at_call 52; refine (x_any _ _ (by omega) (by omega)).mono ?_; rintro e w' ⟨rfl, rfl⟩) | (go_at_call 51; refine (list_any _ 0 2 [xL rd, L1] _ ?_ ?_ (Nat.le_refl 2) (by decide) HL.out).mono ?_; (intro j x hx; rcases j with _ | _ | j; (simp at hx; subst hx; go_simp); (simp at hx; subst hx; go_simp); (simp at hx)); go_simp; rintro e w2 ⟨rfl, hb2⟩; have hi2 : w2.heap[w.heap.size]? = some (.cells (Inst.mk op rd rs1 rs2 imm aq rl).val 25 (0, 0)) := (hb2.block _ (by first | (rw [World.size_alloc]; exact Nat.lt_succ_of_lt hz0) | (show _ < (World.alloc _ _).heap.size; rw [World.size_alloc]; exact Nat.lt_succ_of_lt hz0))).trans ((Below.heap_alloc _ _ _ hz0).trans HI.out); obtain ⟨s0, s1, s2, s3, s4, s5, s6⟩ := cells_inst hi2; simp only at s0 s1 s2 s3 s4 s5 s6; clear hi2; have hp2 : TabP w2 := (by refine TabP.below ?_ hb2; exact hpa _ _ hp0)))
  go_wp2
  go_ret
  exact ⟨rfl, below_alloc_trans (below_drew HB.out) hb2⟩

set_option maxRecDepth 100000 in
set_option maxHeartbeats 4000000 in
theorem told_u (i : Inst) (w : World) (hP : TabP w) (h0 : 0 ≤ i.imm) (h1 : i.imm < 4294967296) (r0 : 0 ≤ i.rd ∧ i.rd < 32) :
    Calls Tryd.prog 62 #[.agg i.val] w fun e w' => e = .returned (.string (bs (Lib.join [xL i.rd, Lib.decDigits (i.imm / 4096).toNat] [44, 32]))) ∧ Below w.heap.size w w' := by
  obtain ⟨op, rd, rs1, rs2, imm, aq, rl⟩ := i
  simp only at h0 h1 r0
  have a0 := xL_len rd r0.1 r0.2
  have am := mL_len (Inst.mk op rd rs1 rs2 imm aq rl) h0 h1
  have au := dec_len (imm / 4096).toNat (by omega)
  have hl : (Lib.join [xL rd, Lib.decDigits (imm / 4096).toNat] [44, 32]).length ≤ 140737488355328 := by
    simp only [join1, join2, join3, List.length_append, List.length_cons, List.length_nil]
    omega
  have HL := Lib.hid hl
  have hw64 : IntKind.u64.wrap (imm / 4096) = imm / 4096 := by rw [IntKind.wrap_u64]; omega
  have HW := Lib.hid hw64
  clear hw64
  clear hl am au a0
  have IM := Lib.hid (fun W hP => imm_any (Inst.mk op rd rs1 rs2 imm aq rl) W hP h0 h1)
  generalize mL (Inst.mk op rd rs1 rs2 imm aq rl) = ml at *
  unfold Inst.val
  go_enter Tryd.func62, Tryd.ntmps62
  go_wp2_with fail
  have hi := World.alloc_heap_new w (.cells (Inst.mk op rd rs1 rs2 imm aq rl).val 25)
  have hb0 : Below w.heap.size w (w.alloc (.cells (Inst.mk op rd rs1 rs2 imm aq rl).val 25)) := (Below.refl _ w).alloc (Nat.le_refl _) _
  have hz0 : w.heap.size < (w.alloc (.cells (Inst.mk op rd rs1 rs2 imm aq rl).val 25)).heap.size := by rw [World.size_alloc]; exact Nat.lt_succ_self _
  have hp0 := hP.below hb0
  unfold Inst.val at hi hb0 hz0 hp0
  generalize World.alloc w _ = W0 at *
  obtain ⟨q0, q1, q2, q3, q4, q5, q6⟩ := cells_inst (i := (Inst.mk op rd rs1 rs2 imm aq rl)) hi
  simp only at q0 q1 q2 q3 q4 q5 q6
  have HI := Lib.hid hi
  have HB := Lib.hid hb0
  clear hi hb0 hP
  have hpd : ∀ W : World, TabP W.drew = TabP W := fun _ => rfl
  have hpn : ∀ (W : World) (q : Nat), TabP (W.drewN q) = TabP W := fun _ _ => rfl
  have hpa : ∀ (W : World) (o : Obj), TabP W → TabP (W.alloc o) := fun W o h => h.below ((Below.refl _ _).alloc (Nat.le_refl _) _)
  go_region_held3 (fun x => x.cell? ⟨w.heap.size, 0, none⟩ = some (.int .i64 op) ∧ x.cell? ⟨w.heap.size, 1, none⟩ = some (.int .i64 rd) ∧ x.cell? ⟨w.heap.size, 2, none⟩ = some (.int .i64 rs1) ∧ x.cell? ⟨w.heap.size, 3, none⟩ = some (.int .i64 rs2) ∧ x.cell? ⟨w.heap.size, 4, none⟩ = some (.int .u32 imm) ∧ x.cell? ⟨w.heap.size, 5, none⟩ = some (.bool aq) ∧ x.cell? ⟨w.heap.size, 6, none⟩ = some (.bool rl) ∧ TabP x) (first | go_keep | skip) (first | (go_at_call 52; refine (x_any _ _ (by omega) (by omega)).mono ?_; rintro e w' ⟨rfl, rfl⟩) | (go_at_call 63; rw [HW.out]; refine (fmtu_any (imm / 4096) _ ?_ (by omega) (by omega)).mono ?_; exact hp0; rintro e w1 ⟨rfl, hb1⟩; have hi1 : w1.heap[w.heap.size]? = some (.cells (Inst.mk op rd rs1 rs2 imm aq rl).val 25 (0, 0)) := (hb1.block _ hz0).trans HI.out; obtain ⟨p0, p1, p2, p3, p4, p5, p6⟩ := cells_inst hi1; have hp1 : TabP w1 := (by refine TabP.below ?_ hb1; exact hp0); simp only at p0 p1 p2 p3 p4 p5 p6; have HI1 := Lib.hid hi1; clear hi1; have hz1 : w.heap.size < w1.heap.size := Nat.lt_of_lt_of_le hz0 hb1.size) | (go_at_call 51; refine (list_any _ 0 2 [xL rd, Lib.decDigits (imm / 4096).toNat] _ ?_ ?_ (Nat.le_refl 2) (by decide) HL.out).mono ?_; (intro j x hx; rcases j with _ | _ | j; (simp at hx; subst hx; go_simp); (simp at hx; subst hx; go_simp); (simp at hx)); go_simp; rintro e w2 ⟨rfl, hb2⟩; have hi2 : w2.heap[w.heap.size]? = some (.cells (Inst.mk op rd rs1 rs2 imm aq rl).val 25 (0, 0)) := (hb2.block _ (by first | (rw [World.size_alloc]; exact Nat.lt_succ_of_lt hz1) | (show _ < (World.alloc _ _).heap.size; rw [World.size_alloc]; exact Nat.lt_succ_of_lt hz1))).trans ((Below.heap_alloc _ _ _ hz1).trans HI1.out); obtain ⟨s0, s1, s2, s3, s4, s5, s6⟩ := cells_inst hi2; simp only at s0 s1 s2 s3 s4 s5 s6; clear hi2; have hp2 : TabP w2 := (by refine TabP.below ?_ hb2; exact hpa _ _ hp1)))
  go_wp2
  go_ret
  have e1 : Below w.heap.size w w1 := HB.out.trans (below_from (hb1.mono (Nat.le_of_lt hz0)))
  exact ⟨rfl, below_alloc_trans e1 hb2⟩

set_option maxRecDepth 100000 in
set_option maxHeartbeats 4000000 in
theorem told_j (i : Inst) (w : World) (hP : TabP w) (h0 : 0 ≤ i.imm) (h1 : i.imm < 4294967296) (r0 : 0 ≤ i.rd ∧ i.rd < 32) :
    Calls Tryd.prog 67 #[.agg i.val] w fun e w' => e = .returned (.string (bs (Lib.join [xL i.rd, mL i] [44, 32]))) ∧ Below w.heap.size w w' := by
  obtain ⟨op, rd, rs1, rs2, imm, aq, rl⟩ := i
  simp only at h0 h1 r0
  have a0 := xL_len rd r0.1 r0.2
  have am := mL_len (Inst.mk op rd rs1 rs2 imm aq rl) h0 h1
  have au := dec_len (imm / 4096).toNat (by omega)
  have hl : (Lib.join [xL rd, mL (Inst.mk op rd rs1 rs2 imm aq rl)] [44, 32]).length ≤ 140737488355328 := by
    simp only [join1, join2, join3, List.length_append, List.length_cons, List.length_nil]
    omega
  have HL := Lib.hid hl
  have hw64 : IntKind.u64.wrap (imm / 4096) = imm / 4096 := by rw [IntKind.wrap_u64]; omega
  have HW := Lib.hid hw64
  clear hw64
  clear hl am au a0
  have IM := Lib.hid (fun W hP => imm_any (Inst.mk op rd rs1 rs2 imm aq rl) W hP h0 h1)
  generalize mL (Inst.mk op rd rs1 rs2 imm aq rl) = ml at *
  unfold Inst.val
  go_enter Tryd.func67, Tryd.ntmps67
  go_wp2_with fail
  have hi := World.alloc_heap_new w (.cells (Inst.mk op rd rs1 rs2 imm aq rl).val 25)
  have hb0 : Below w.heap.size w (w.alloc (.cells (Inst.mk op rd rs1 rs2 imm aq rl).val 25)) := (Below.refl _ w).alloc (Nat.le_refl _) _
  have hz0 : w.heap.size < (w.alloc (.cells (Inst.mk op rd rs1 rs2 imm aq rl).val 25)).heap.size := by rw [World.size_alloc]; exact Nat.lt_succ_self _
  have hp0 := hP.below hb0
  unfold Inst.val at hi hb0 hz0 hp0
  generalize World.alloc w _ = W0 at *
  obtain ⟨q0, q1, q2, q3, q4, q5, q6⟩ := cells_inst (i := (Inst.mk op rd rs1 rs2 imm aq rl)) hi
  simp only at q0 q1 q2 q3 q4 q5 q6
  have HI := Lib.hid hi
  have HB := Lib.hid hb0
  clear hi hb0 hP
  have hpd : ∀ W : World, TabP W.drew = TabP W := fun _ => rfl
  have hpn : ∀ (W : World) (q : Nat), TabP (W.drewN q) = TabP W := fun _ _ => rfl
  have hpa : ∀ (W : World) (o : Obj), TabP W → TabP (W.alloc o) := fun W o h => h.below ((Below.refl _ _).alloc (Nat.le_refl _) _)
  go_region_held3 (fun x => x.cell? ⟨w.heap.size, 0, none⟩ = some (.int .i64 op) ∧ x.cell? ⟨w.heap.size, 1, none⟩ = some (.int .i64 rd) ∧ x.cell? ⟨w.heap.size, 2, none⟩ = some (.int .i64 rs1) ∧ x.cell? ⟨w.heap.size, 3, none⟩ = some (.int .i64 rs2) ∧ x.cell? ⟨w.heap.size, 4, none⟩ = some (.int .u32 imm) ∧ x.cell? ⟨w.heap.size, 5, none⟩ = some (.bool aq) ∧ x.cell? ⟨w.heap.size, 6, none⟩ = some (.bool rl) ∧ TabP x) (first | go_keep | skip) (first | (go_at_call 52; refine (x_any _ _ (by omega) (by omega)).mono ?_; rintro e w' ⟨rfl, rfl⟩) | (go_at_call 53; refine (IM.out _ ?_).mono ?_; exact hp0; rintro e w1 ⟨rfl, hb1⟩; have hi1 : w1.heap[w.heap.size]? = some (.cells (Inst.mk op rd rs1 rs2 imm aq rl).val 25 (0, 0)) := (hb1.block _ hz0).trans HI.out; obtain ⟨p0, p1, p2, p3, p4, p5, p6⟩ := cells_inst hi1; have hp1 : TabP w1 := (by refine TabP.below ?_ hb1; exact hp0); simp only at p0 p1 p2 p3 p4 p5 p6; have HI1 := Lib.hid hi1; clear hi1; have hz1 : w.heap.size < w1.heap.size := Nat.lt_of_lt_of_le hz0 hb1.size) | (go_at_call 51; refine (list_any _ 0 2 [xL rd, ml] _ ?_ ?_ (Nat.le_refl 2) (by decide) HL.out).mono ?_; (intro j x hx; rcases j with _ | _ | j; (simp at hx; subst hx; go_simp); (simp at hx; subst hx; go_simp); (simp at hx)); go_simp; rintro e w2 ⟨rfl, hb2⟩; have hi2 : w2.heap[w.heap.size]? = some (.cells (Inst.mk op rd rs1 rs2 imm aq rl).val 25 (0, 0)) := (hb2.block _ (by first | (rw [World.size_alloc]; exact Nat.lt_succ_of_lt hz1) | (show _ < (World.alloc _ _).heap.size; rw [World.size_alloc]; exact Nat.lt_succ_of_lt hz1))).trans ((Below.heap_alloc _ _ _ hz1).trans HI1.out); obtain ⟨s0, s1, s2, s3, s4, s5, s6⟩ := cells_inst hi2; simp only at s0 s1 s2 s3 s4 s5 s6; clear hi2; have hp2 : TabP w2 := (by refine TabP.below ?_ hb2; exact hpa _ _ hp1)))
  go_wp2
  go_ret
  have e1 : Below w.heap.size w w1 := HB.out.trans (below_from (hb1.mono (Nat.le_of_lt hz0)))
  exact ⟨rfl, below_alloc_trans e1 hb2⟩

set_option maxRecDepth 100000 in
set_option maxHeartbeats 4000000 in
theorem told_b (i : Inst) (w : World) (hP : TabP w) (h0 : 0 ≤ i.imm) (h1 : i.imm < 4294967296) (r0 : 0 ≤ i.rs1 ∧ i.rs1 < 32) (r1 : 0 ≤ i.rs2 ∧ i.rs2 < 32) :
    Calls Tryd.prog 72 #[.agg i.val] w fun e w' => e = .returned (.string (bs (Lib.join [xL i.rs1, xL i.rs2, mL i] [44, 32]))) ∧ Below w.heap.size w w' := by
  obtain ⟨op, rd, rs1, rs2, imm, aq, rl⟩ := i
  simp only at h0 h1 r0 r1
  have a0 := xL_len rs1 r0.1 r0.2
  have a1 := xL_len rs2 r1.1 r1.2
  have am := mL_len (Inst.mk op rd rs1 rs2 imm aq rl) h0 h1
  have au := dec_len (imm / 4096).toNat (by omega)
  have hl : (Lib.join [xL rs1, xL rs2, mL (Inst.mk op rd rs1 rs2 imm aq rl)] [44, 32]).length ≤ 140737488355328 := by
    simp only [join1, join2, join3, List.length_append, List.length_cons, List.length_nil]
    omega
  have HL := Lib.hid hl
  have hw64 : IntKind.u64.wrap (imm / 4096) = imm / 4096 := by rw [IntKind.wrap_u64]; omega
  have HW := Lib.hid hw64
  clear hw64
  clear hl am au a0 a1
  have IM := Lib.hid (fun W hP => imm_any (Inst.mk op rd rs1 rs2 imm aq rl) W hP h0 h1)
  generalize mL (Inst.mk op rd rs1 rs2 imm aq rl) = ml at *
  unfold Inst.val
  go_enter Tryd.func72, Tryd.ntmps72
  go_wp2_with fail
  have hi := World.alloc_heap_new w (.cells (Inst.mk op rd rs1 rs2 imm aq rl).val 25)
  have hb0 : Below w.heap.size w (w.alloc (.cells (Inst.mk op rd rs1 rs2 imm aq rl).val 25)) := (Below.refl _ w).alloc (Nat.le_refl _) _
  have hz0 : w.heap.size < (w.alloc (.cells (Inst.mk op rd rs1 rs2 imm aq rl).val 25)).heap.size := by rw [World.size_alloc]; exact Nat.lt_succ_self _
  have hp0 := hP.below hb0
  unfold Inst.val at hi hb0 hz0 hp0
  generalize World.alloc w _ = W0 at *
  obtain ⟨q0, q1, q2, q3, q4, q5, q6⟩ := cells_inst (i := (Inst.mk op rd rs1 rs2 imm aq rl)) hi
  simp only at q0 q1 q2 q3 q4 q5 q6
  have HI := Lib.hid hi
  have HB := Lib.hid hb0
  clear hi hb0 hP
  have hpd : ∀ W : World, TabP W.drew = TabP W := fun _ => rfl
  have hpn : ∀ (W : World) (q : Nat), TabP (W.drewN q) = TabP W := fun _ _ => rfl
  have hpa : ∀ (W : World) (o : Obj), TabP W → TabP (W.alloc o) := fun W o h => h.below ((Below.refl _ _).alloc (Nat.le_refl _) _)
  go_region_held3 (fun x => x.cell? ⟨w.heap.size, 0, none⟩ = some (.int .i64 op) ∧ x.cell? ⟨w.heap.size, 1, none⟩ = some (.int .i64 rd) ∧ x.cell? ⟨w.heap.size, 2, none⟩ = some (.int .i64 rs1) ∧ x.cell? ⟨w.heap.size, 3, none⟩ = some (.int .i64 rs2) ∧ x.cell? ⟨w.heap.size, 4, none⟩ = some (.int .u32 imm) ∧ x.cell? ⟨w.heap.size, 5, none⟩ = some (.bool aq) ∧ x.cell? ⟨w.heap.size, 6, none⟩ = some (.bool rl) ∧ TabP x) (first | go_keep | skip) (first | (go_at_call 52; refine (x_any _ _ (by omega) (by omega)).mono ?_; rintro e w' ⟨rfl, rfl⟩) | (go_at_call 53; refine (IM.out _ ?_).mono ?_; exact hp0; rintro e w1 ⟨rfl, hb1⟩; have hi1 : w1.heap[w.heap.size]? = some (.cells (Inst.mk op rd rs1 rs2 imm aq rl).val 25 (0, 0)) := (hb1.block _ hz0).trans HI.out; obtain ⟨p0, p1, p2, p3, p4, p5, p6⟩ := cells_inst hi1; have hp1 : TabP w1 := (by refine TabP.below ?_ hb1; exact hp0); simp only at p0 p1 p2 p3 p4 p5 p6; have HI1 := Lib.hid hi1; clear hi1; have hz1 : w.heap.size < w1.heap.size := Nat.lt_of_lt_of_le hz0 hb1.size) | (go_at_call 51; refine (list_any _ 0 3 [xL rs1, xL rs2, ml] _ ?_ ?_ (Nat.le_refl 3) (by decide) HL.out).mono ?_; (intro j x hx; rcases j with _ | _ | _ | j; (simp at hx; subst hx; go_simp); (simp at hx; subst hx; go_simp); (simp at hx; subst hx; go_simp); (simp at hx)); go_simp; rintro e w2 ⟨rfl, hb2⟩; have hi2 : w2.heap[w.heap.size]? = some (.cells (Inst.mk op rd rs1 rs2 imm aq rl).val 25 (0, 0)) := (hb2.block _ (by first | (rw [World.size_alloc]; exact Nat.lt_succ_of_lt hz1) | (show _ < (World.alloc _ _).heap.size; rw [World.size_alloc]; exact Nat.lt_succ_of_lt hz1))).trans ((Below.heap_alloc _ _ _ hz1).trans HI1.out); obtain ⟨s0, s1, s2, s3, s4, s5, s6⟩ := cells_inst hi2; simp only at s0 s1 s2 s3 s4 s5 s6; clear hi2; have hp2 : TabP w2 := (by refine TabP.below ?_ hb2; exact hpa _ _ hp1)))
  go_wp2
  go_ret
  have e1 : Below w.heap.size w w1 := HB.out.trans (below_from (hb1.mono (Nat.le_of_lt hz0)))
  exact ⟨rfl, below_alloc_trans e1 hb2⟩

set_option maxRecDepth 100000 in
set_option maxHeartbeats 4000000 in
theorem told_s (i : Inst) (w : World) (hP : TabP w) (h0 : 0 ≤ i.imm) (h1 : i.imm < 4294967296) (r0 : 0 ≤ i.rs1 ∧ i.rs1 < 32) (r1 : 0 ≤ i.rs2 ∧ i.rs2 < 32) :
    Calls Tryd.prog 75 #[.agg i.val] w fun e w' => e = .returned (.string (bs (Lib.join [xL i.rs2, mL i ++ [40] ++ xL i.rs1 ++ [41]] [44, 32]))) ∧ Below w.heap.size w w' := by
  obtain ⟨op, rd, rs1, rs2, imm, aq, rl⟩ := i
  simp only at h0 h1 r0 r1
  have a0 := xL_len rs1 r0.1 r0.2
  have a1 := xL_len rs2 r1.1 r1.2
  have am := mL_len (Inst.mk op rd rs1 rs2 imm aq rl) h0 h1
  have au := dec_len (imm / 4096).toNat (by omega)
  have hl : (Lib.join [xL rs2, mL (Inst.mk op rd rs1 rs2 imm aq rl) ++ [40] ++ xL rs1 ++ [41]] [44, 32]).length ≤ 140737488355328 := by
    simp only [join1, join2, join3, List.length_append, List.length_cons, List.length_nil]
    omega
  have HL := Lib.hid hl
  have hw64 : IntKind.u64.wrap (imm / 4096) = imm / 4096 := by rw [IntKind.wrap_u64]; omega
  have HW := Lib.hid hw64
  clear hw64
  obtain ⟨L0, hL0⟩ : ∃ L, mL (Inst.mk op rd rs1 rs2 imm aq rl) ++ [40] = L := ⟨_, rfl⟩
  have n0 : L0.length ≤ 60 := by rw [← hL0]; simp only [List.length_append, List.length_cons, List.length_nil]; omega
  have hs0 : ∀ W, (Op.stringOp .add (bs (mL (Inst.mk op rd rs1 rs2 imm aq rl))) (⟨#[40]⟩)).run Tryd.prog W = .ok (.string (bs L0)) W := fun W => hL0 ▸ add_bs (a := mL (Inst.mk op rd rs1 rs2 imm aq rl)) (b := [40]) (by (try simp only [List.length_cons, List.length_nil]); omega) W
  obtain ⟨L1, hL1⟩ : ∃ L, L0 ++ xL rs1 = L := ⟨_, rfl⟩
  have n1 : L1.length ≤ 120 := by rw [← hL1]; simp only [List.length_append, List.length_cons, List.length_nil]; omega
  have hs1 : ∀ W, (Op.stringOp .add (bs L0) (bs (xL rs1))).run Tryd.prog W = .ok (.string (bs L1)) W := fun W => hL1 ▸ add_bs (a := L0) (b := xL rs1) (by (try simp only [List.length_cons, List.length_nil]); omega) W
  obtain ⟨L2, hL2⟩ : ∃ L, L1 ++ [41] = L := ⟨_, rfl⟩
  have n2 : L2.length ≤ 180 := by rw [← hL2]; simp only [List.length_append, List.length_cons, List.length_nil]; omega
  have hs2 : ∀ W, (Op.stringOp .add (bs L1) (⟨#[41]⟩)).run Tryd.prog W = .ok (.string (bs L2)) W := fun W => hL2 ▸ add_bs (a := L1) (b := [41]) (by (try simp only [List.length_cons, List.length_nil]); omega) W
  have hfull : mL (Inst.mk op rd rs1 rs2 imm aq rl) ++ [40] ++ xL rs1 ++ [41] = L2 := by rw [← hL2, ← hL1, ← hL0]
  rw [hfull] at HL ⊢
  clear hfull hL0 n0 hL1 n1 hL2 n2
  clear hl am au a0 a1
  have IM := Lib.hid (fun W hP => imm_any (Inst.mk op rd rs1 rs2 imm aq rl) W hP h0 h1)
  generalize mL (Inst.mk op rd rs1 rs2 imm aq rl) = ml at *
  unfold Inst.val
  go_enter Tryd.func75, Tryd.ntmps75
  go_wp2_with fail
  have hi := World.alloc_heap_new w (.cells (Inst.mk op rd rs1 rs2 imm aq rl).val 25)
  have hb0 : Below w.heap.size w (w.alloc (.cells (Inst.mk op rd rs1 rs2 imm aq rl).val 25)) := (Below.refl _ w).alloc (Nat.le_refl _) _
  have hz0 : w.heap.size < (w.alloc (.cells (Inst.mk op rd rs1 rs2 imm aq rl).val 25)).heap.size := by rw [World.size_alloc]; exact Nat.lt_succ_self _
  have hp0 := hP.below hb0
  unfold Inst.val at hi hb0 hz0 hp0
  generalize World.alloc w _ = W0 at *
  obtain ⟨q0, q1, q2, q3, q4, q5, q6⟩ := cells_inst (i := (Inst.mk op rd rs1 rs2 imm aq rl)) hi
  simp only at q0 q1 q2 q3 q4 q5 q6
  have HI := Lib.hid hi
  have HB := Lib.hid hb0
  clear hi hb0 hP
  have hpd : ∀ W : World, TabP W.drew = TabP W := fun _ => rfl
  have hpn : ∀ (W : World) (q : Nat), TabP (W.drewN q) = TabP W := fun _ _ => rfl
  have hpa : ∀ (W : World) (o : Obj), TabP W → TabP (W.alloc o) := fun W o h => h.below ((Below.refl _ _).alloc (Nat.le_refl _) _)
  go_region_held3 (fun x => x.cell? ⟨w.heap.size, 0, none⟩ = some (.int .i64 op) ∧ x.cell? ⟨w.heap.size, 1, none⟩ = some (.int .i64 rd) ∧ x.cell? ⟨w.heap.size, 2, none⟩ = some (.int .i64 rs1) ∧ x.cell? ⟨w.heap.size, 3, none⟩ = some (.int .i64 rs2) ∧ x.cell? ⟨w.heap.size, 4, none⟩ = some (.int .u32 imm) ∧ x.cell? ⟨w.heap.size, 5, none⟩ = some (.bool aq) ∧ x.cell? ⟨w.heap.size, 6, none⟩ = some (.bool rl) ∧ TabP x) (first | go_keep | skip) (first | (go_at_call 52; refine (x_any _ _ (by omega) (by omega)).mono ?_; rintro e w' ⟨rfl, rfl⟩) | (go_at_call 53; refine (IM.out _ ?_).mono ?_; exact hp0; rintro e w1 ⟨rfl, hb1⟩; have hi1 : w1.heap[w.heap.size]? = some (.cells (Inst.mk op rd rs1 rs2 imm aq rl).val 25 (0, 0)) := (hb1.block _ hz0).trans HI.out; obtain ⟨p0, p1, p2, p3, p4, p5, p6⟩ := cells_inst hi1; have hp1 : TabP w1 := (by refine TabP.below ?_ hb1; exact hp0); simp only at p0 p1 p2 p3 p4 p5 p6; have HI1 := Lib.hid hi1; clear hi1; have hz1 : w.heap.size < w1.heap.size := Nat.lt_of_lt_of_le hz0 hb1.size) | (go_at_call 51; refine (list_any _ 0 2 [xL rs2, L2] _ ?_ ?_ (Nat.le_refl 2) (by decide) HL.out).mono ?_; (intro j x hx; rcases j with _ | _ | j; (simp at hx; subst hx; go_simp); (simp at hx; subst hx; go_simp); (simp at hx)); go_simp; rintro e w2 ⟨rfl, hb2⟩; have hi2 : w2.heap[w.heap.size]? = some (.cells (Inst.mk op rd rs1 rs2 imm aq rl).val 25 (0, 0)) := (hb2.block _ (by first | (rw [World.size_alloc]; exact Nat.lt_succ_of_lt hz1) | (show _ < (World.alloc _ _).heap.size; rw [World.size_alloc]; exact Nat.lt_succ_of_lt hz1))).trans ((Below.heap_alloc _ _ _ hz1).trans HI1.out); obtain ⟨s0, s1, s2, s3, s4, s5, s6⟩ := cells_inst hi2; simp only at s0 s1 s2 s3 s4 s5 s6; clear hi2; have hp2 : TabP w2 := (by refine TabP.below ?_ hb2; exact hpa _ _ hp1)))
  go_wp2
  go_ret
  have e1 : Below w.heap.size w w1 := HB.out.trans (below_from (hb1.mono (Nat.le_of_lt hz0)))
  exact ⟨rfl, below_alloc_trans e1 hb2⟩
end Go.Proofs.YtamilahkdinjkaaDoor
