/-
  law03.IsaEncode, as a call.
-/
import Derived.Test.YtamilahkdinjkaaDoorRAll
import Derived.Test.YtamilahkdinjkaaDoorLawDec
namespace Go.Proofs.YtamilahkdinjkaaDoor
set_option linter.unusedVariables false
set_option linter.unusedSimpArgs false
open Go.RowKit Go.Shelf
attribute [local go_sem] Oper.semAt_some

/-- An instruction that may be, of row k; one that may not be. -/
theorem may_cases (i : Inst) : (∃ k : Nat, k < 59 ∧ i.op = k + 1 ∧ okI k i = true) ∨ (∃ k : Nat, k < 59 ∧ i.op = k + 1 ∧ okI k i = false) ∨ (i.op < 1 ∨ 59 < i.op) := by
  by_cases h : i.op < 1 ∨ 59 < i.op
  · exact .inr (.inr h)
  · obtain ⟨k, hk, ho⟩ : ∃ k : Nat, k < 59 ∧ i.op = k + 1 := ⟨(i.op - 1).toNat, by omega, by omega⟩
    cases e : okI k i
    · exact .inr (.inl ⟨k, hk, ho, e⟩)
    · exact .inl ⟨k, hk, ho, e⟩
theorem may_no {i : Inst} (h : (∃ k : Nat, k < 59 ∧ i.op = k + 1 ∧ okI k i = false) ∨ (i.op < 1 ∨ 59 < i.op)) : ∀ j : Nat, j < 59 → i.op = j + 1 → okI j i = false := by
  intro j hj ho
  rcases h with ⟨k, hk, hk2, e⟩ | h
  · obtain rfl : j = k := by omega
    exact e
  · omega
theorem rmay_no (i : Inst) (w : World) (h0 : 0 ≤ i.imm) (h1 : i.imm < 4294967296) (h : (∃ k : Nat, k < 59 ∧ i.op = k + 1 ∧ okI k i = false) ∨ (i.op < 1 ∨ 59 < i.op)) :
    Calls Tryd.prog 14 #[.agg i.val] w fun e w' => e = .returned (.bool false) ∧ Below w.heap.size w w' := by
  rcases h with ⟨k, hk, ho, e⟩ | h
  · have := rmay_k i w k hk ho h0 h1
    rw [e] at this
    exact this
  · exact rmay_out i w h

set_option maxRecDepth 100000 in
set_option maxHeartbeats 4000000 in
theorem lawEnc_no (i : Inst) (w : World) (hT : Tab w) (h0 : 0 ≤ i.imm) (h1 : i.imm < 4294967296) (h : (∃ k : Nat, k < 59 ∧ i.op = k + 1 ∧ okI k i = false) ∨ (i.op < 1 ∨ 59 < i.op)) :
    Calls Tryd.prog 5 #[.agg i.val] w fun e w' => e = .returned (.bool true) ∧ Below w.heap.size w w' := by
  have F2 := Lib.hid (fun e => enc_no (e := e) (may_no h))
  have M := Lib.hid (fun w => rmay_no i w h0 h1 h)
  have HT := Lib.hid hT
  have E := Lib.hid (fun w hT => encode_any i w hT h0 h1)
  obtain ⟨op, rd, rs1, rs2, imm, aq, rl⟩ := i
  clear hT h h0 h1
  have b0 : Below w.heap.size w (w.alloc (.cells (Inst.mk op rd rs1 rs2 imm aq rl).val 25)) := (Below.refl _ _).alloc (Nat.le_refl _) _
  have B0 := Lib.hid b0
  clear b0
  unfold Inst.val
  go_enter Tryd.func5, Tryd.ntmps5
  go_wp2_with (first
    | (go_at_call 12; refine (E.out _ (HT.out.below B0.out)).mono ?_; rintro e w1 ⟨hb1, hd⟩; obtain rfl := F2.out e hd; have c1 : w1.heap[w.heap.size]? = some (.cells (Inst.mk op rd rs1 rs2 imm aq rl).val 25 (0, 0)) := (hb1.block _ (by simp)).trans (World.alloc_heap_new w _); have HC1 := Lib.hid c1; obtain ⟨q0, q1, q2, q3, q4, q5, q6⟩ := cells_inst c1; simp only at q0 q1 q2 q3 q4 q5 q6; clear c1 hd)
    | (go_at_call 14; refine (M.out _).mono ?_; rintro e w2 ⟨rfl, hb2⟩)
    | (go_at_call 13; refine (known_any _ ?_).mono ?_; exact ((HT.out.below B0.out).below hb1).below hb2; rintro e w3 ⟨rfl, hb3⟩))
  go_ret
  have b1 := B0.out.trans (hb1.mono (by simp))
  exact ⟨rfl, (b1.trans (hb2.mono b1.size)).trans (hb3.mono (b1.trans (hb2.mono b1.size)).size)⟩

set_option maxRecDepth 100000 in
set_option maxHeartbeats 4000000 in
theorem lawEnc_yes (i : Inst) (k : Nat) (w : World) (hT : Tab w) (h0 : 0 ≤ i.imm) (h1 : i.imm < 4294967296) (hk : k < 59) (ho : i.op = k + 1) (ok : okI k i = true) :
    Calls Tryd.prog 5 #[.agg i.val] w fun e w' => e = .returned (.bool true) ∧ Below w.heap.size w w' := by
  obtain ⟨c0, c1, c2, c3⟩ := enc_facts k i hk ho ok h0 h1
  have F1 := fun e => dec_is (e := e) c0 c1 hk c3
  rw [c2] at F1
  have F2 := fun e => enc_is (e := e) hk ho ok h0 h1
  have M := fun w => rmay_k i w k hk ho h0 h1
  rw [ok] at M
  have R := fun w => renc_k i w k hk ho h0 h1 ok
  have D := fun w hT => decode_any (encK k i) w hT c0 c1
  have E := fun w hT => encode_any i w hT h0 h1
  clear c2 c3
  generalize encK k i = c at *
  replace F1 := Lib.hid F1
  replace F2 := Lib.hid F2
  replace M := Lib.hid M
  replace R := Lib.hid R
  replace D := Lib.hid D
  replace E := Lib.hid E
  have HT := Lib.hid hT
  obtain ⟨op, rd, rs1, rs2, imm, aq, rl⟩ := i
  clear hT h0 h1 hk ho ok
  have b0 : Below w.heap.size w (w.alloc (.cells (Inst.mk op rd rs1 rs2 imm aq rl).val 25)) := (Below.refl _ _).alloc (Nat.le_refl _) _
  have B0 := Lib.hid b0
  clear b0
  unfold Inst.val
  go_enter Tryd.func5, Tryd.ntmps5
  go_wp2_with (first
    | (go_at_call 12; refine (E.out _ (HT.out.below B0.out)).mono ?_; rintro e w1 ⟨hb1, hd⟩; obtain rfl := F2.out e hd; have c1 : w1.heap[w.heap.size]? = some (.cells (Inst.mk op rd rs1 rs2 imm aq rl).val 25 (0, 0)) := (hb1.block _ (by simp)).trans (World.alloc_heap_new w _); have HC1 := Lib.hid c1; obtain ⟨q0, q1, q2, q3, q4, q5, q6⟩ := cells_inst c1; simp only at q0 q1 q2 q3 q4 q5 q6; clear c1 hd; have z1 := hb1.size; rw [World.size_alloc] at z1)
    | (go_at_call 14; refine (M.out _).mono ?_; rintro e w2 ⟨rfl, hb2⟩; have z2 := hb2.size)
    | (go_at_call 10; refine (D.out _ (((HT.out.below B0.out).below hb1).below hb2)).mono ?_; rintro e w3 ⟨hb3, hd⟩; obtain rfl := F1.out e hd; clear hd; unfold Inst.val; simp only []; have z3 := hb3.size; have hz : w.heap.size < w3.heap.size := Nat.lt_of_lt_of_le (Nat.lt_of_lt_of_le z1 z2) z3; have c3 : w3.heap[w.heap.size]? = some (.cells (Inst.mk op rd rs1 rs2 imm aq rl).val 25 (0, 0)) := (hb3.block _ (by omega)).trans ((hb2.block _ (by omega)).trans HC1.out); have HC3 := Lib.hid c3; clear q0 q1 q2 q3 q4 q5 q6; obtain ⟨q0, q1, q2, q3, q4, q5, q6⟩ := cells_inst c3; simp only at q0 q1 q2 q3 q4 q5 q6; clear c3)
    | (go_at_call 15; refine (R.out _).mono ?_; rintro e w4 ⟨rfl, hb4⟩; have z4 := hb4.size; rw [World.size_alloc] at z4; have c4 : w4.heap[w.heap.size]? = some (.cells (Inst.mk op rd rs1 rs2 imm aq rl).val 25 (0, 0)) := (hb4.block _ (by rw [World.size_alloc]; omega)).trans ((Below.heap_alloc _ _ _ hz).trans HC3.out); have c5 : w4.heap[w3.heap.size]? = some (.cells (Inst.mk op rd rs1 rs2 imm aq rl).val 25 (0, 0)) := (hb4.block _ (by rw [World.size_alloc]; omega)).trans (World.alloc_heap_new w3 _); clear q0 q1 q2 q3 q4 q5 q6; obtain ⟨q0, q1, q2, q3, q4, q5, q6⟩ := cells_inst c4; obtain ⟨s0, s1, s2, s3, s4, s5, s6⟩ := cells_inst c5; simp only at q0 q1 q2 q3 q4 q5 q6 s0 s1 s2 s3 s4 s5 s6; clear c4 c5)
    | (go_at_call 13; refine (known_any _ ?_).mono ?_; exact (((((HT.out.below B0.out).below hb1).below hb2).below hb3).below ((Below.refl _ _).alloc (Nat.le_refl _) _)).below hb4; rintro e w5 ⟨rfl, hb5⟩))
  go_ret
  have b1 := B0.out.trans (hb1.mono (by simp))
  have b2 := b1.trans (hb2.mono b1.size)
  have b3 := b2.trans (hb3.mono b2.size)
  have b4 := b3.alloc b3.size (.cells (Inst.mk op rd rs1 rs2 imm aq rl).val 25)
  have b5 := b4.trans (hb4.mono b4.size)
  exact ⟨rfl, b5.trans (hb5.mono b5.size)⟩

theorem lawEnc_any (i : Inst) (w : World) (hT : Tab w) (h0 : 0 ≤ i.imm) (h1 : i.imm < 4294967296) :
    Calls Tryd.prog 5 #[.agg i.val] w fun e w' => e = .returned (.bool true) ∧ Below w.heap.size w w' := by
  rcases may_cases i with ⟨k, hk, ho, ok⟩ | h
  · exact lawEnc_yes i k w hT h0 h1 hk ho ok
  · exact lawEnc_no i w hT h0 h1 h
end Go.Proofs.YtamilahkdinjkaaDoor
