/-
  The reference's May: what okF says, at each form; of an Op that is none: no.
-/
import Derived.Test.YtamilahkdinjkaaDoorRef3
import Derived.BigGuardPart
import Derived.Deep.CutBlock
import Derived.Deep.DeepCutAuto
namespace Go.Proofs.YtamilahkdinjkaaDoor
set_option linter.unusedVariables false
set_option linter.unusedSimpArgs false
open Go.RowKit
attribute [local go_sem] Oper.semAt_some

theorem fin_no {f : Fm} {i : Inst} (h : okF f i = true → False) : false = okF f i := by
  cases e : okF f i
  · rfl
  · exact (h e).elim
theorem fin_imm {f : Fm} {i : Inst} {b : Bool} (h1 : regB i.rd (rdZ f) = true) (h2 : regB i.rs1 (rs1Z f) = true) (h3 : regB i.rs2 (rs2Z f) = true) (h5 : aZ f = true ∨ (i.aq = false ∧ i.rl = false)) (h : b = true ↔ mayZ f i.imm = true) : b = okF f i := by
  rw [Bool.eq_iff_iff, okF_iff]
  exact ⟨fun hb => ⟨h1, h2, h3, h.1 hb, h5⟩, fun hk => h.2 hk.2.2.2.1⟩
theorem tmod_iff (n : Int) (h0 : 0 ≤ n) (h1 : n < 4294967296) : (sgn n).tmod 2 = 0 ↔ n % 2 = 0 := by
  have s := sgn_cases n
  rw [← Int.dvd_iff_tmod_eq_zero]
  omega

set_option maxRecDepth 100000 in
set_option maxHeartbeats 4000000 in
theorem rmay_out (i : Inst) (w : World) (h : i.op < 1 ∨ 59 < i.op) :
    Calls Tryd.prog 14 #[.agg i.val] w fun e w' => e = .returned (.bool false) ∧ Below w.heap.size w w' := by
  obtain ⟨op, rd, rs1, rs2, imm, aq, rl⟩ := i
  simp only at h
  unfold Inst.val
  have H := Lib.hid h
  clear h
  go_enter Tryd.func14, Tryd.ntmps14
  go_upto_region 6 with (go_at_call 22; refine (form_out op _ H.out).mono ?_; rintro e w' ⟨rfl, rfl⟩)
  simp only [List.append]
  go_wp2_with (go_at_call 22; refine (form_out op _ H.out).mono ?_; rintro e w' ⟨rfl, rfl⟩)
  go_ret
  exact ⟨rfl, (Below.refl _ _).alloc (Nat.le_refl _) _⟩

set_option maxRecDepth 100000 in
set_option maxHeartbeats 8000000 in
theorem rmay_u (i : Inst) (w : World) (k : Nat) (hk : k < 59) (hf : formK k = .u) (ho : i.op = k + 1) (h0 : 0 ≤ i.imm) (h1 : i.imm < 4294967296) :
    Calls Tryd.prog 14 #[.agg i.val] w fun e w' => e = .returned (.bool (okF .u i)) ∧ Below w.heap.size w w' := by
  obtain ⟨op, rd, rs1, rs2, imm, aq, rl⟩ := i
  simp only at ho h0 h1
  subst ho
  have s := sgn_cases imm
  have hs1 : -2147483648 ≤ sgn imm := by omega
  have hs2 : sgn imm < 2147483648 := by omega
  have S := Lib.hid s
  clear s
  unfold Inst.val
  have HK := Lib.hid hk
  have HF := Lib.hid hf
  clear hk hf
  go_enter Tryd.func14, Tryd.ntmps14
  go_upto_region 6 with (first | (go_at_call 22; refine (form_f k 117 .u HK.out HF.out rfl _).mono ?_; rintro e w' ⟨rfl, rfl⟩) | (go_at_call 28; refine (signed_ref _ _ (by omega) (by omega)).mono ?_; rintro e w' ⟨rfl, rfl⟩))
  simp only [List.append]
  go_wp2_with (first | (go_at_call 22; refine (form_f k 117 .u HK.out HF.out rfl _).mono ?_; rintro e w' ⟨rfl, rfl⟩) | (go_at_call 28; refine (signed_ref _ _ (by omega) (by omega)).mono ?_; rintro e w' ⟨rfl, rfl⟩))
  all_goals
    go_ret
    refine ⟨ret_bool ?_, (Below.refl _ _).alloc (Nat.le_refl _) _⟩
    have s := S.out
    have tm := tmod_iff imm h0 h1
    first
    | (refine fin_no fun h => ?_
       obtain ⟨h1, h2, h3, h4, h5⟩ := (okF_iff _ _).1 h
       simp only at h1 h2 h3 h4 h5
       clear h
       have g1 := regB_t h1
       have g2 := regB_f h2
       have g3 := regB_f h3
       have g4 : imm % 4096 = 0 := by simpa [mayZ] using h4
       simp only [aZ, Bool.false_eq_true, false_or] at h5
       first | omega | simp_all)
    | (refine fin_imm (by simp [regB, rdZ]; omega) (by simp [regB, rs1Z]; omega) (by simp [regB, rs2Z]; omega) (.inr ⟨by first | rfl | assumption, by first | rfl | assumption⟩) ?_
       exact Iff.rfl)

set_option maxRecDepth 100000 in
set_option maxHeartbeats 8000000 in
theorem rmay_j (i : Inst) (w : World) (k : Nat) (hk : k < 59) (hf : formK k = .j) (ho : i.op = k + 1) (h0 : 0 ≤ i.imm) (h1 : i.imm < 4294967296) :
    Calls Tryd.prog 14 #[.agg i.val] w fun e w' => e = .returned (.bool (okF .j i)) ∧ Below w.heap.size w w' := by
  obtain ⟨op, rd, rs1, rs2, imm, aq, rl⟩ := i
  simp only at ho h0 h1
  subst ho
  have s := sgn_cases imm
  have hs1 : -2147483648 ≤ sgn imm := by omega
  have hs2 : sgn imm < 2147483648 := by omega
  have S := Lib.hid s
  clear s
  unfold Inst.val
  have HK := Lib.hid hk
  have HF := Lib.hid hf
  clear hk hf
  go_enter Tryd.func14, Tryd.ntmps14
  go_upto_region 6 with (first | (go_at_call 22; refine (form_f k 106 .j HK.out HF.out rfl _).mono ?_; rintro e w' ⟨rfl, rfl⟩) | (go_at_call 28; refine (signed_ref _ _ (by omega) (by omega)).mono ?_; rintro e w' ⟨rfl, rfl⟩))
  simp only [List.append]
  go_wp2_with (first | (go_at_call 22; refine (form_f k 106 .j HK.out HF.out rfl _).mono ?_; rintro e w' ⟨rfl, rfl⟩) | (go_at_call 28; refine (signed_ref _ _ (by omega) (by omega)).mono ?_; rintro e w' ⟨rfl, rfl⟩))
  all_goals
    go_ret
    refine ⟨ret_bool ?_, (Below.refl _ _).alloc (Nat.le_refl _) _⟩
    have s := S.out
    have tm := tmod_iff imm h0 h1
    first
    | (refine fin_no fun h => ?_
       obtain ⟨h1, h2, h3, h4, h5⟩ := (okF_iff _ _).1 h
       simp only at h1 h2 h3 h4 h5
       clear h
       have g1 := regB_t h1
       have g2 := regB_f h2
       have g3 := regB_f h3
       have g4 := (even_iff _ _ _).1 h4
       simp only [aZ, Bool.false_eq_true, false_or] at h5
       first | omega | simp_all)
    | (refine fin_imm (by simp [regB, rdZ]; omega) (by simp [regB, rs1Z]; omega) (by simp [regB, rs2Z]; omega) (.inr ⟨by first | rfl | assumption, by first | rfl | assumption⟩) ?_
       have t2 := tm.1 ‹(sgn imm).tmod 2 = 0›
       exact Iff.trans decide_eq_true_iff (Iff.trans ⟨fun h => ⟨t2, by omega, h⟩, fun h => h.2.2⟩ (even_iff _ _ _).symm))

set_option maxRecDepth 100000 in
set_option maxHeartbeats 8000000 in
theorem rmay_load (i : Inst) (w : World) (k : Nat) (hk : k < 59) (hf : formK k = .load) (ho : i.op = k + 1) (h0 : 0 ≤ i.imm) (h1 : i.imm < 4294967296) :
    Calls Tryd.prog 14 #[.agg i.val] w fun e w' => e = .returned (.bool (okF .load i)) ∧ Below w.heap.size w w' := by
  obtain ⟨op, rd, rs1, rs2, imm, aq, rl⟩ := i
  simp only at ho h0 h1
  subst ho
  have s := sgn_cases imm
  have hs1 : -2147483648 ≤ sgn imm := by omega
  have hs2 : sgn imm < 2147483648 := by omega
  have S := Lib.hid s
  clear s
  unfold Inst.val
  have HK := Lib.hid hk
  have HF := Lib.hid hf
  clear hk hf
  go_enter Tryd.func14, Tryd.ntmps14
  go_upto_region 6 with (first | (go_at_call 22; refine (form_f k 108 .load HK.out HF.out rfl _).mono ?_; rintro e w' ⟨rfl, rfl⟩) | (go_at_call 28; refine (signed_ref _ _ (by omega) (by omega)).mono ?_; rintro e w' ⟨rfl, rfl⟩))
  simp only [List.append]
  go_wp2_with (first | (go_at_call 22; refine (form_f k 108 .load HK.out HF.out rfl _).mono ?_; rintro e w' ⟨rfl, rfl⟩) | (go_at_call 28; refine (signed_ref _ _ (by omega) (by omega)).mono ?_; rintro e w' ⟨rfl, rfl⟩))
  all_goals
    go_ret
    refine ⟨ret_bool ?_, (Below.refl _ _).alloc (Nat.le_refl _) _⟩
    have s := S.out
    have tm := tmod_iff imm h0 h1
    first
    | (refine fin_no fun h => ?_
       obtain ⟨h1, h2, h3, h4, h5⟩ := (okF_iff _ _).1 h
       simp only at h1 h2 h3 h4 h5
       clear h
       have g1 := regB_t h1
       have g2 := regB_t h2
       have g3 := regB_f h3
       have g4 := (within_iff _ _ _).1 h4
       simp only [aZ, Bool.false_eq_true, false_or] at h5
       first | omega | simp_all)
    | (refine fin_imm (by simp [regB, rdZ]; omega) (by simp [regB, rs1Z]; omega) (by simp [regB, rs2Z]; omega) (.inr ⟨by first | rfl | assumption, by first | rfl | assumption⟩) ?_
       exact Iff.trans decide_eq_true_iff (Iff.trans ⟨fun h => ⟨by omega, h⟩, fun h => h.2⟩ (within_iff _ _ _).symm))

set_option maxRecDepth 100000 in
set_option maxHeartbeats 8000000 in
theorem rmay_b (i : Inst) (w : World) (k : Nat) (hk : k < 59) (hf : formK k = .b) (ho : i.op = k + 1) (h0 : 0 ≤ i.imm) (h1 : i.imm < 4294967296) :
    Calls Tryd.prog 14 #[.agg i.val] w fun e w' => e = .returned (.bool (okF .b i)) ∧ Below w.heap.size w w' := by
  obtain ⟨op, rd, rs1, rs2, imm, aq, rl⟩ := i
  simp only at ho h0 h1
  subst ho
  have s := sgn_cases imm
  have hs1 : -2147483648 ≤ sgn imm := by omega
  have hs2 : sgn imm < 2147483648 := by omega
  have S := Lib.hid s
  clear s
  unfold Inst.val
  have HK := Lib.hid hk
  have HF := Lib.hid hf
  clear hk hf
  go_enter Tryd.func14, Tryd.ntmps14
  go_upto_region 6 with (first | (go_at_call 22; refine (form_f k 98 .b HK.out HF.out rfl _).mono ?_; rintro e w' ⟨rfl, rfl⟩) | (go_at_call 28; refine (signed_ref _ _ (by omega) (by omega)).mono ?_; rintro e w' ⟨rfl, rfl⟩))
  simp only [List.append]
  go_wp2_with (first | (go_at_call 22; refine (form_f k 98 .b HK.out HF.out rfl _).mono ?_; rintro e w' ⟨rfl, rfl⟩) | (go_at_call 28; refine (signed_ref _ _ (by omega) (by omega)).mono ?_; rintro e w' ⟨rfl, rfl⟩))
  all_goals
    go_ret
    refine ⟨ret_bool ?_, (Below.refl _ _).alloc (Nat.le_refl _) _⟩
    have s := S.out
    have tm := tmod_iff imm h0 h1
    first
    | (refine fin_no fun h => ?_
       obtain ⟨h1, h2, h3, h4, h5⟩ := (okF_iff _ _).1 h
       simp only at h1 h2 h3 h4 h5
       clear h
       have g1 := regB_f h1
       have g2 := regB_t h2
       have g3 := regB_t h3
       have g4 := (even_iff _ _ _).1 h4
       simp only [aZ, Bool.false_eq_true, false_or] at h5
       first | omega | simp_all)
    | (refine fin_imm (by simp [regB, rdZ]; omega) (by simp [regB, rs1Z]; omega) (by simp [regB, rs2Z]; omega) (.inr ⟨by first | rfl | assumption, by first | rfl | assumption⟩) ?_
       have t2 := tm.1 ‹(sgn imm).tmod 2 = 0›
       exact Iff.trans decide_eq_true_iff (Iff.trans ⟨fun h => ⟨t2, by omega, h⟩, fun h => h.2.2⟩ (even_iff _ _ _).symm))

set_option maxRecDepth 100000 in
set_option maxHeartbeats 8000000 in
theorem rmay_s (i : Inst) (w : World) (k : Nat) (hk : k < 59) (hf : formK k = .s) (ho : i.op = k + 1) (h0 : 0 ≤ i.imm) (h1 : i.imm < 4294967296) :
    Calls Tryd.prog 14 #[.agg i.val] w fun e w' => e = .returned (.bool (okF .s i)) ∧ Below w.heap.size w w' := by
  obtain ⟨op, rd, rs1, rs2, imm, aq, rl⟩ := i
  simp only at ho h0 h1
  subst ho
  have s := sgn_cases imm
  have hs1 : -2147483648 ≤ sgn imm := by omega
  have hs2 : sgn imm < 2147483648 := by omega
  have S := Lib.hid s
  clear s
  unfold Inst.val
  have HK := Lib.hid hk
  have HF := Lib.hid hf
  clear hk hf
  go_enter Tryd.func14, Tryd.ntmps14
  go_upto_region 6 with (first | (go_at_call 22; refine (form_f k 115 .s HK.out HF.out rfl _).mono ?_; rintro e w' ⟨rfl, rfl⟩) | (go_at_call 28; refine (signed_ref _ _ (by omega) (by omega)).mono ?_; rintro e w' ⟨rfl, rfl⟩))
  simp only [List.append]
  go_wp2_with (first | (go_at_call 22; refine (form_f k 115 .s HK.out HF.out rfl _).mono ?_; rintro e w' ⟨rfl, rfl⟩) | (go_at_call 28; refine (signed_ref _ _ (by omega) (by omega)).mono ?_; rintro e w' ⟨rfl, rfl⟩))
  all_goals
    go_ret
    refine ⟨ret_bool ?_, (Below.refl _ _).alloc (Nat.le_refl _) _⟩
    have s := S.out
    have tm := tmod_iff imm h0 h1
    first
    | (refine fin_no fun h => ?_
       obtain ⟨h1, h2, h3, h4, h5⟩ := (okF_iff _ _).1 h
       simp only at h1 h2 h3 h4 h5
       clear h
       have g1 := regB_f h1
       have g2 := regB_t h2
       have g3 := regB_t h3
       have g4 := (within_iff _ _ _).1 h4
       simp only [aZ, Bool.false_eq_true, false_or] at h5
       first | omega | simp_all)
    | (refine fin_imm (by simp [regB, rdZ]; omega) (by simp [regB, rs1Z]; omega) (by simp [regB, rs2Z]; omega) (.inr ⟨by first | rfl | assumption, by first | rfl | assumption⟩) ?_
       exact Iff.trans decide_eq_true_iff (Iff.trans ⟨fun h => ⟨by omega, h⟩, fun h => h.2⟩ (within_iff _ _ _).symm))

set_option maxRecDepth 100000 in
set_option maxHeartbeats 8000000 in
theorem rmay_i (i : Inst) (w : World) (k : Nat) (hk : k < 59) (hf : formK k = .i) (ho : i.op = k + 1) (h0 : 0 ≤ i.imm) (h1 : i.imm < 4294967296) :
    Calls Tryd.prog 14 #[.agg i.val] w fun e w' => e = .returned (.bool (okF .i i)) ∧ Below w.heap.size w w' := by
  obtain ⟨op, rd, rs1, rs2, imm, aq, rl⟩ := i
  simp only at ho h0 h1
  subst ho
  have s := sgn_cases imm
  have hs1 : -2147483648 ≤ sgn imm := by omega
  have hs2 : sgn imm < 2147483648 := by omega
  have S := Lib.hid s
  clear s
  unfold Inst.val
  have HK := Lib.hid hk
  have HF := Lib.hid hf
  clear hk hf
  go_enter Tryd.func14, Tryd.ntmps14
  go_upto_region 6 with (first | (go_at_call 22; refine (form_f k 105 .i HK.out HF.out rfl _).mono ?_; rintro e w' ⟨rfl, rfl⟩) | (go_at_call 28; refine (signed_ref _ _ (by omega) (by omega)).mono ?_; rintro e w' ⟨rfl, rfl⟩))
  simp only [List.append]
  go_wp2_with (first | (go_at_call 22; refine (form_f k 105 .i HK.out HF.out rfl _).mono ?_; rintro e w' ⟨rfl, rfl⟩) | (go_at_call 28; refine (signed_ref _ _ (by omega) (by omega)).mono ?_; rintro e w' ⟨rfl, rfl⟩))
  all_goals
    go_ret
    refine ⟨ret_bool ?_, (Below.refl _ _).alloc (Nat.le_refl _) _⟩
    have s := S.out
    have tm := tmod_iff imm h0 h1
    first
    | (refine fin_no fun h => ?_
       obtain ⟨h1, h2, h3, h4, h5⟩ := (okF_iff _ _).1 h
       simp only at h1 h2 h3 h4 h5
       clear h
       have g1 := regB_t h1
       have g2 := regB_t h2
       have g3 := regB_f h3
       have g4 := (within_iff _ _ _).1 h4
       simp only [aZ, Bool.false_eq_true, false_or] at h5
       first | omega | simp_all)
    | (refine fin_imm (by simp [regB, rdZ]; omega) (by simp [regB, rs1Z]; omega) (by simp [regB, rs2Z]; omega) (.inr ⟨by first | rfl | assumption, by first | rfl | assumption⟩) ?_
       exact Iff.trans decide_eq_true_iff (Iff.trans ⟨fun h => ⟨by omega, h⟩, fun h => h.2⟩ (within_iff _ _ _).symm))

set_option maxRecDepth 100000 in
set_option maxHeartbeats 8000000 in
theorem rmay_shift (i : Inst) (w : World) (k : Nat) (hk : k < 59) (hf : formK k = .shift) (ho : i.op = k + 1) (h0 : 0 ≤ i.imm) (h1 : i.imm < 4294967296) :
    Calls Tryd.prog 14 #[.agg i.val] w fun e w' => e = .returned (.bool (okF .shift i)) ∧ Below w.heap.size w w' := by
  obtain ⟨op, rd, rs1, rs2, imm, aq, rl⟩ := i
  simp only at ho h0 h1
  subst ho
  have s := sgn_cases imm
  have hs1 : -2147483648 ≤ sgn imm := by omega
  have hs2 : sgn imm < 2147483648 := by omega
  have S := Lib.hid s
  clear s
  unfold Inst.val
  have HK := Lib.hid hk
  have HF := Lib.hid hf
  clear hk hf
  go_enter Tryd.func14, Tryd.ntmps14
  go_upto_region 6 with (first | (go_at_call 22; refine (form_f k 104 .shift HK.out HF.out rfl _).mono ?_; rintro e w' ⟨rfl, rfl⟩) | (go_at_call 28; refine (signed_ref _ _ (by omega) (by omega)).mono ?_; rintro e w' ⟨rfl, rfl⟩))
  simp only [List.append]
  go_wp2_with (first | (go_at_call 22; refine (form_f k 104 .shift HK.out HF.out rfl _).mono ?_; rintro e w' ⟨rfl, rfl⟩) | (go_at_call 28; refine (signed_ref _ _ (by omega) (by omega)).mono ?_; rintro e w' ⟨rfl, rfl⟩))
  all_goals
    go_ret
    refine ⟨ret_bool ?_, (Below.refl _ _).alloc (Nat.le_refl _) _⟩
    have s := S.out
    have tm := tmod_iff imm h0 h1
    first
    | (refine fin_no fun h => ?_
       obtain ⟨h1, h2, h3, h4, h5⟩ := (okF_iff _ _).1 h
       simp only at h1 h2 h3 h4 h5
       clear h
       have g1 := regB_t h1
       have g2 := regB_t h2
       have g3 := regB_f h3
       have g4 := (within_iff _ _ _).1 h4
       simp only [aZ, Bool.false_eq_true, false_or] at h5
       first | omega | simp_all)
    | (refine fin_imm (by simp [regB, rdZ]; omega) (by simp [regB, rs1Z]; omega) (by simp [regB, rs2Z]; omega) (.inr ⟨by first | rfl | assumption, by first | rfl | assumption⟩) ?_
       exact Iff.trans decide_eq_true_iff (Iff.trans ⟨fun h => ⟨by omega, h⟩, fun h => h.2⟩ (within_iff _ _ _).symm))

set_option maxRecDepth 100000 in
set_option maxHeartbeats 8000000 in
theorem rmay_r (i : Inst) (w : World) (k : Nat) (hk : k < 59) (hf : formK k = .r) (ho : i.op = k + 1) (h0 : 0 ≤ i.imm) (h1 : i.imm < 4294967296) :
    Calls Tryd.prog 14 #[.agg i.val] w fun e w' => e = .returned (.bool (okF .r i)) ∧ Below w.heap.size w w' := by
  obtain ⟨op, rd, rs1, rs2, imm, aq, rl⟩ := i
  simp only at ho h0 h1
  subst ho
  have s := sgn_cases imm
  have hs1 : -2147483648 ≤ sgn imm := by omega
  have hs2 : sgn imm < 2147483648 := by omega
  have S := Lib.hid s
  clear s
  unfold Inst.val
  have HK := Lib.hid hk
  have HF := Lib.hid hf
  clear hk hf
  go_enter Tryd.func14, Tryd.ntmps14
  go_upto_region 6 with (first | (go_at_call 22; refine (form_f k 114 .r HK.out HF.out rfl _).mono ?_; rintro e w' ⟨rfl, rfl⟩) | (go_at_call 28; refine (signed_ref _ _ (by omega) (by omega)).mono ?_; rintro e w' ⟨rfl, rfl⟩))
  simp only [List.append]
  go_wp2_with (first | (go_at_call 22; refine (form_f k 114 .r HK.out HF.out rfl _).mono ?_; rintro e w' ⟨rfl, rfl⟩) | (go_at_call 28; refine (signed_ref _ _ (by omega) (by omega)).mono ?_; rintro e w' ⟨rfl, rfl⟩))
  all_goals
    go_ret
    refine ⟨ret_bool ?_, (Below.refl _ _).alloc (Nat.le_refl _) _⟩
    have s := S.out
    have tm := tmod_iff imm h0 h1
    first
    | (refine fin_no fun h => ?_
       obtain ⟨h1, h2, h3, h4, h5⟩ := (okF_iff _ _).1 h
       simp only at h1 h2 h3 h4 h5
       clear h
       have g1 := regB_t h1
       have g2 := regB_t h2
       have g3 := regB_t h3
       have g4 : imm = 0 := by simpa [mayZ] using h4
       simp only [aZ, Bool.false_eq_true, false_or] at h5
       first | omega | simp_all)
    | (refine fin_imm (by simp [regB, rdZ]; omega) (by simp [regB, rs1Z]; omega) (by simp [regB, rs2Z]; omega) (.inr ⟨by first | rfl | assumption, by first | rfl | assumption⟩) ?_
       exact Iff.rfl)

set_option maxRecDepth 100000 in
set_option maxHeartbeats 8000000 in
theorem rmay_fence (i : Inst) (w : World) (k : Nat) (hk : k < 59) (hf : formK k = .fence) (ho : i.op = k + 1) (h0 : 0 ≤ i.imm) (h1 : i.imm < 4294967296) :
    Calls Tryd.prog 14 #[.agg i.val] w fun e w' => e = .returned (.bool (okF .fence i)) ∧ Below w.heap.size w w' := by
  obtain ⟨op, rd, rs1, rs2, imm, aq, rl⟩ := i
  simp only at ho h0 h1
  subst ho
  have s := sgn_cases imm
  have hs1 : -2147483648 ≤ sgn imm := by omega
  have hs2 : sgn imm < 2147483648 := by omega
  have S := Lib.hid s
  clear s
  unfold Inst.val
  have HK := Lib.hid hk
  have HF := Lib.hid hf
  clear hk hf
  go_enter Tryd.func14, Tryd.ntmps14
  go_upto_region 6 with (first | (go_at_call 22; refine (form_f k 102 .fence HK.out HF.out rfl _).mono ?_; rintro e w' ⟨rfl, rfl⟩) | (go_at_call 28; refine (signed_ref _ _ (by omega) (by omega)).mono ?_; rintro e w' ⟨rfl, rfl⟩))
  simp only [List.append]
  go_wp2_with (first | (go_at_call 22; refine (form_f k 102 .fence HK.out HF.out rfl _).mono ?_; rintro e w' ⟨rfl, rfl⟩) | (go_at_call 28; refine (signed_ref _ _ (by omega) (by omega)).mono ?_; rintro e w' ⟨rfl, rfl⟩))
  all_goals
    go_ret
    refine ⟨ret_bool ?_, (Below.refl _ _).alloc (Nat.le_refl _) _⟩
    have s := S.out
    have tm := tmod_iff imm h0 h1
    first
    | (refine fin_no fun h => ?_
       obtain ⟨h1, h2, h3, h4, h5⟩ := (okF_iff _ _).1 h
       simp only at h1 h2 h3 h4 h5
       clear h
       have g1 := regB_f h1
       have g2 := regB_f h2
       have g3 := regB_f h3
       have g4 := (within_iff _ _ _).1 h4
       simp only [aZ, Bool.false_eq_true, false_or] at h5
       first | omega | simp_all)
    | (refine fin_imm (by simp [regB, rdZ]; omega) (by simp [regB, rs1Z]; omega) (by simp [regB, rs2Z]; omega) (.inr ⟨by first | rfl | assumption, by first | rfl | assumption⟩) ?_
       exact Iff.trans decide_eq_true_iff (Iff.trans ⟨fun h => ⟨by omega, h⟩, fun h => h.2⟩ (within_iff _ _ _).symm))

set_option maxRecDepth 100000 in
set_option maxHeartbeats 8000000 in
theorem rmay_all (i : Inst) (w : World) (k : Nat) (hk : k < 59) (hf : formK k = .all) (ho : i.op = k + 1) (h0 : 0 ≤ i.imm) (h1 : i.imm < 4294967296) :
    Calls Tryd.prog 14 #[.agg i.val] w fun e w' => e = .returned (.bool (okF .all i)) ∧ Below w.heap.size w w' := by
  obtain ⟨op, rd, rs1, rs2, imm, aq, rl⟩ := i
  simp only at ho h0 h1
  subst ho
  have s := sgn_cases imm
  have hs1 : -2147483648 ≤ sgn imm := by omega
  have hs2 : sgn imm < 2147483648 := by omega
  have S := Lib.hid s
  clear s
  unfold Inst.val
  have HK := Lib.hid hk
  have HF := Lib.hid hf
  clear hk hf
  go_enter Tryd.func14, Tryd.ntmps14
  go_upto_region 6 with (first | (go_at_call 22; refine (form_f k 101 .all HK.out HF.out rfl _).mono ?_; rintro e w' ⟨rfl, rfl⟩) | (go_at_call 28; refine (signed_ref _ _ (by omega) (by omega)).mono ?_; rintro e w' ⟨rfl, rfl⟩))
  simp only [List.append]
  go_wp2_with (first | (go_at_call 22; refine (form_f k 101 .all HK.out HF.out rfl _).mono ?_; rintro e w' ⟨rfl, rfl⟩) | (go_at_call 28; refine (signed_ref _ _ (by omega) (by omega)).mono ?_; rintro e w' ⟨rfl, rfl⟩))
  all_goals
    go_ret
    refine ⟨ret_bool ?_, (Below.refl _ _).alloc (Nat.le_refl _) _⟩
    have s := S.out
    have tm := tmod_iff imm h0 h1
    first
    | (refine fin_no fun h => ?_
       obtain ⟨h1, h2, h3, h4, h5⟩ := (okF_iff _ _).1 h
       simp only at h1 h2 h3 h4 h5
       clear h
       have g1 := regB_f h1
       have g2 := regB_f h2
       have g3 := regB_f h3
       have g4 : imm = 0 := by simpa [mayZ] using h4
       simp only [aZ, Bool.false_eq_true, false_or] at h5
       first | omega | simp_all)
    | (refine fin_imm (by simp [regB, rdZ]; omega) (by simp [regB, rs1Z]; omega) (by simp [regB, rs2Z]; omega) (.inr ⟨by first | rfl | assumption, by first | rfl | assumption⟩) ?_
       exact Iff.rfl)

set_option maxRecDepth 100000 in
set_option maxHeartbeats 8000000 in
theorem rmay_lr (i : Inst) (w : World) (k : Nat) (hk : k < 59) (hf : formK k = .lr) (ho : i.op = k + 1) (h0 : 0 ≤ i.imm) (h1 : i.imm < 4294967296) :
    Calls Tryd.prog 14 #[.agg i.val] w fun e w' => e = .returned (.bool (okF .lr i)) ∧ Below w.heap.size w w' := by
  obtain ⟨op, rd, rs1, rs2, imm, aq, rl⟩ := i
  simp only at ho h0 h1
  subst ho
  have s := sgn_cases imm
  have hs1 : -2147483648 ≤ sgn imm := by omega
  have hs2 : sgn imm < 2147483648 := by omega
  have S := Lib.hid s
  clear s
  unfold Inst.val
  have HK := Lib.hid hk
  have HF := Lib.hid hf
  clear hk hf
  go_enter Tryd.func14, Tryd.ntmps14
  go_upto_region 6 with (first | (go_at_call 22; refine (form_f k 113 .lr HK.out HF.out rfl _).mono ?_; rintro e w' ⟨rfl, rfl⟩) | (go_at_call 28; refine (signed_ref _ _ (by omega) (by omega)).mono ?_; rintro e w' ⟨rfl, rfl⟩))
  simp only [List.append]
  go_wp2_with (first | (go_at_call 22; refine (form_f k 113 .lr HK.out HF.out rfl _).mono ?_; rintro e w' ⟨rfl, rfl⟩) | (go_at_call 28; refine (signed_ref _ _ (by omega) (by omega)).mono ?_; rintro e w' ⟨rfl, rfl⟩))
  all_goals
    go_ret
    refine ⟨ret_bool ?_, (Below.refl _ _).alloc (Nat.le_refl _) _⟩
    have s := S.out
    have tm := tmod_iff imm h0 h1
    first
    | (refine fin_no fun h => ?_
       obtain ⟨h1, h2, h3, h4, h5⟩ := (okF_iff _ _).1 h
       simp only at h1 h2 h3 h4 h5
       clear h
       have g1 := regB_t h1
       have g2 := regB_t h2
       have g3 := regB_f h3
       have g4 : imm = 0 := by simpa [mayZ] using h4
       first | omega | simp_all)
    | (refine fin_imm (by simp [regB, rdZ]; omega) (by simp [regB, rs1Z]; omega) (by simp [regB, rs2Z]; omega) (.inl rfl) ?_
       exact Iff.rfl)

set_option maxRecDepth 100000 in
set_option maxHeartbeats 8000000 in
theorem rmay_a (i : Inst) (w : World) (k : Nat) (hk : k < 59) (hf : formK k = .a) (ho : i.op = k + 1) (h0 : 0 ≤ i.imm) (h1 : i.imm < 4294967296) :
    Calls Tryd.prog 14 #[.agg i.val] w fun e w' => e = .returned (.bool (okF .a i)) ∧ Below w.heap.size w w' := by
  obtain ⟨op, rd, rs1, rs2, imm, aq, rl⟩ := i
  simp only at ho h0 h1
  subst ho
  have s := sgn_cases imm
  have hs1 : -2147483648 ≤ sgn imm := by omega
  have hs2 : sgn imm < 2147483648 := by omega
  have S := Lib.hid s
  clear s
  unfold Inst.val
  have HK := Lib.hid hk
  have HF := Lib.hid hf
  clear hk hf
  go_enter Tryd.func14, Tryd.ntmps14
  go_upto_region 6 with (first | (go_at_call 22; refine (form_f k 97 .a HK.out HF.out rfl _).mono ?_; rintro e w' ⟨rfl, rfl⟩) | (go_at_call 28; refine (signed_ref _ _ (by omega) (by omega)).mono ?_; rintro e w' ⟨rfl, rfl⟩))
  simp only [List.append]
  go_wp2_with (first | (go_at_call 22; refine (form_f k 97 .a HK.out HF.out rfl _).mono ?_; rintro e w' ⟨rfl, rfl⟩) | (go_at_call 28; refine (signed_ref _ _ (by omega) (by omega)).mono ?_; rintro e w' ⟨rfl, rfl⟩))
  all_goals
    go_ret
    refine ⟨ret_bool ?_, (Below.refl _ _).alloc (Nat.le_refl _) _⟩
    have s := S.out
    have tm := tmod_iff imm h0 h1
    first
    | (refine fin_no fun h => ?_
       obtain ⟨h1, h2, h3, h4, h5⟩ := (okF_iff _ _).1 h
       simp only at h1 h2 h3 h4 h5
       clear h
       have g1 := regB_t h1
       have g2 := regB_t h2
       have g3 := regB_t h3
       have g4 : imm = 0 := by simpa [mayZ] using h4
       first | omega | simp_all)
    | (refine fin_imm (by simp [regB, rdZ]; omega) (by simp [regB, rs1Z]; omega) (by simp [regB, rs2Z]; omega) (.inl rfl) ?_
       exact Iff.rfl)

set_option maxRecDepth 100000 in
set_option maxHeartbeats 8000000 in
theorem rmay_csr (i : Inst) (w : World) (k : Nat) (hk : k < 59) (hf : formK k = .csr) (ho : i.op = k + 1) (h0 : 0 ≤ i.imm) (h1 : i.imm < 4294967296) :
    Calls Tryd.prog 14 #[.agg i.val] w fun e w' => e = .returned (.bool (okF .csr i)) ∧ Below w.heap.size w w' := by
  obtain ⟨op, rd, rs1, rs2, imm, aq, rl⟩ := i
  simp only at ho h0 h1
  subst ho
  have s := sgn_cases imm
  have hs1 : -2147483648 ≤ sgn imm := by omega
  have hs2 : sgn imm < 2147483648 := by omega
  have S := Lib.hid s
  clear s
  unfold Inst.val
  have HK := Lib.hid hk
  have HF := Lib.hid hf
  clear hk hf
  go_enter Tryd.func14, Tryd.ntmps14
  go_upto_region 6 with (first | (go_at_call 22; refine (form_f k 99 .csr HK.out HF.out rfl _).mono ?_; rintro e w' ⟨rfl, rfl⟩) | (go_at_call 28; refine (signed_ref _ _ (by omega) (by omega)).mono ?_; rintro e w' ⟨rfl, rfl⟩))
  simp only [List.append]
  go_wp2_with (first | (go_at_call 22; refine (form_f k 99 .csr HK.out HF.out rfl _).mono ?_; rintro e w' ⟨rfl, rfl⟩) | (go_at_call 28; refine (signed_ref _ _ (by omega) (by omega)).mono ?_; rintro e w' ⟨rfl, rfl⟩))
  all_goals
    go_ret
    refine ⟨ret_bool ?_, (Below.refl _ _).alloc (Nat.le_refl _) _⟩
    have s := S.out
    have tm := tmod_iff imm h0 h1
    first
    | (refine fin_no fun h => ?_
       obtain ⟨h1, h2, h3, h4, h5⟩ := (okF_iff _ _).1 h
       simp only at h1 h2 h3 h4 h5
       clear h
       have g1 := regB_t h1
       have g2 := regB_f h2
       have g3 := regB_f h3
       have g4 : imm = 0 := by simpa [mayZ] using h4
       simp only [aZ, Bool.false_eq_true, false_or] at h5
       first | omega | simp_all)
    | (refine fin_imm (by simp [regB, rdZ]; omega) (by simp [regB, rs1Z]; omega) (by simp [regB, rs2Z]; omega) (.inr ⟨by first | rfl | assumption, by first | rfl | assumption⟩) ?_
       exact Iff.rfl)
end Go.Proofs.YtamilahkdinjkaaDoor
