/-
  law03.IsaText, as a call.
-/
import Derived.Test.YtamilahkdinjkaaDoorTextW
import Derived.Test.YtamilahkdinjkaaDoorRText
import Derived.Test.YtamilahkdinjkaaDoorLawEnc
namespace Go.Proofs.YtamilahkdinjkaaDoor
set_option linter.unusedVariables false
set_option linter.unusedSimpArgs false
open Go.RowKit Go.Shelf Go.Sort Go.Lib
attribute [local go_sem] Oper.semAt_some

theorem told_az {k : Nat} {op rd rs1 rs2 imm : Int} {aq rl : Bool} (ok : okI k (Inst.mk op rd rs1 rs2 imm aq rl) = true) (h : aq = true ∨ rl = true) : toldL (formK k) (Inst.mk op rd rs1 rs2 imm aq rl) ≠ [] := by
  obtain ⟨k1, k2, k3, k4, k5⟩ := (okF_iff (formK k) _).1 ok
  simp only at k5
  generalize formK k = f at *
  have hz : aZ f = true := by
    rcases k5 with h5 | ⟨h5, h6⟩
    · exact h5
    · subst h5 h6
      simp at h
  cases f <;> simp [aZ] at hz <;> simp [toldL, join2, join3, xL]

theorem text_yes (i : Inst) (w : World) (hT : Tab w) (hP : TabP w) (h0 : 0 ≤ i.imm) (h1 : i.imm < 4294967296) (k : Nat) (hk : k < 59) (ho : i.op = k + 1) (ok : okI k i = true) :
    Calls Tryd.prog 18 #[.agg i.val] w fun e w' => e = .returned (.tuple #[.string (bs (textL k i)), .int .i64 0]) ∧ Below w.heap.size w w' := by
  obtain ⟨op, rd, rs1, rs2, imm, aq, rl⟩ := i
  simp only at h0 h1 ho
  cases aq <;> cases rl
  · by_cases hte : toldL (formK k) (Inst.mk op rd rs1 rs2 imm false false) = []
    · exact text_ffe op rd rs1 rs2 imm w hT hP h0 h1 k hk ho ok _ rfl hte
    · exact text_ffn op rd rs1 rs2 imm w hT hP h0 h1 k hk ho ok _ rfl hte
  · exact text_ftn op rd rs1 rs2 imm w hT hP h0 h1 k hk ho ok _ rfl (told_az ok (.inr rfl))
  · exact text_tfn op rd rs1 rs2 imm w hT hP h0 h1 k hk ho ok _ rfl (told_az ok (.inl rfl))
  · exact text_ttn op rd rs1 rs2 imm w hT hP h0 h1 k hk ho ok _ rfl (told_az ok (.inl rfl))

set_option maxRecDepth 100000 in
set_option maxHeartbeats 4000000 in
theorem text_no (i : Inst) (w : World) (hT : Tab w) (h0 : 0 ≤ i.imm) (h1 : i.imm < 4294967296) (hn : ∀ j : Nat, j < 59 → i.op = j + 1 → okI j i = false) :
    Calls Tryd.prog 18 #[.agg i.val] w fun e w' => e = .returned (.tuple #[.string ⟨#[]⟩, .int .i64 2]) ∧ Below w.heap.size w w' := by
  have HT := Lib.hid hT
  have HN := Lib.hid hn
  have MR := Lib.hid (fun W hT => mayR_any i W hT h0 h1)
  obtain ⟨op, rd, rs1, rs2, imm, aq, rl⟩ := i
  clear hT h0 h1 hn
  unfold Inst.val
  go_enter Tryd.func18, Tryd.ntmps18
  go_wp2_with (go_at_call 26; refine (MR.out _ ?_).mono ?_; exact HT.out.below ((Below.refl _ _).alloc (Nat.le_refl _) _); rintro e w1 ⟨hb1, (⟨j, v, hj, hop, rfl, ⟨mv, rfl, hmv⟩⟩ | ⟨ho, rfl⟩)⟩ <;> (first | (rw [HN.out j hj hop]; clear hop; obtain ⟨mk, mcap, rfl⟩ := hmv.fn; unfold rowC) | (clear ho; unfold zeroRow)))
  · have b1 : Below w.heap.size w w1 := ((Below.refl _ w).alloc (Nat.le_refl _) _).trans (hb1.mono (by simp))
    go_ret2
    exact ⟨rfl, b1.alloc b1.size _⟩
  · have b1 : Below w.heap.size w w1 := ((Below.refl _ w).alloc (Nat.le_refl _) _).trans (hb1.mono (by simp))
    go_ret2
    exact ⟨rfl, b1.alloc b1.size _⟩

theorem rtext_any (i : Inst) (w : World) (hP : TabP w) (h0 : 0 ≤ i.imm) (h1 : i.imm < 4294967296) (k : Nat) (hk : k < 59) (ho : i.op = k + 1) (ok : okI k i = true) :
    Calls Tryd.prog 19 #[.agg i.val] w fun e w' => e = .returned (.string (bs (textL k i))) ∧ Below w.heap.size w w' := by
  obtain ⟨op, rd, rs1, rs2, imm, aq, rl⟩ := i
  simp only at h0 h1 ho
  subst ho
  have okf : okF (formK k) (Inst.mk (k + 1) rd rs1 rs2 imm aq rl) = true := ok
  have z := ((okF_iff _ _).1 okf).2.2.2.2
  simp only at z
  clear ok
  cases hf : formK k <;> rw [hf] at okf z <;> simp only [aZ, Bool.false_eq_true, false_or, true_or] at z
  case lr => cases aq <;> cases rl <;> (first | exact rtext_lr_ff rd rs1 rs2 imm w hP h0 h1 k hk hf okf | exact rtext_lr_ft rd rs1 rs2 imm w hP h0 h1 k hk hf okf | exact rtext_lr_tf rd rs1 rs2 imm w hP h0 h1 k hk hf okf | exact rtext_lr_tt rd rs1 rs2 imm w hP h0 h1 k hk hf okf)
  case a => cases aq <;> cases rl <;> (first | exact rtext_a_ff rd rs1 rs2 imm w hP h0 h1 k hk hf okf | exact rtext_a_ft rd rs1 rs2 imm w hP h0 h1 k hk hf okf | exact rtext_a_tf rd rs1 rs2 imm w hP h0 h1 k hk hf okf | exact rtext_a_tt rd rs1 rs2 imm w hP h0 h1 k hk hf okf)
  all_goals obtain ⟨rfl, rfl⟩ := z
  case u => exact rtext_u rd rs1 rs2 imm w hP h0 h1 k hk hf okf
  case j => exact rtext_j rd rs1 rs2 imm w hP h0 h1 k hk hf okf
  case i => exact rtext_i rd rs1 rs2 imm w hP h0 h1 k hk hf okf
  case load => exact rtext_load rd rs1 rs2 imm w hP h0 h1 k hk hf okf
  case shift => exact rtext_shift rd rs1 rs2 imm w hP h0 h1 k hk hf okf
  case b => exact rtext_b rd rs1 rs2 imm w hP h0 h1 k hk hf okf
  case s => exact rtext_s rd rs1 rs2 imm w hP h0 h1 k hk hf okf
  case r => exact rtext_r rd rs1 rs2 imm w hP h0 h1 k hk hf okf
  case fence => exact rtext_fence rd rs1 rs2 imm w hP h0 h1 k hk hf okf
  case all => exact rtext_all rd rs1 rs2 imm w hP h0 h1 k hk hf okf
  case csr => exact rtext_csr rd rs1 rs2 imm w hP h0 h1 k hk hf okf

set_option maxRecDepth 100000 in
set_option maxHeartbeats 4000000 in
theorem lawText_no (i : Inst) (w : World) (hT : Tab w) (h0 : 0 ≤ i.imm) (h1 : i.imm < 4294967296) (h : (∃ k : Nat, k < 59 ∧ i.op = k + 1 ∧ okI k i = false) ∨ (i.op < 1 ∨ 59 < i.op)) :
    Calls Tryd.prog 8 #[.agg i.val] w fun e w' => e = .returned (.bool true) ∧ Below w.heap.size w w' := by
  have M := Lib.hid (fun w => rmay_no i w h0 h1 h)
  have HT := Lib.hid hT
  have E := Lib.hid (fun w hT => text_no i w hT h0 h1 (may_no h))
  obtain ⟨op, rd, rs1, rs2, imm, aq, rl⟩ := i
  clear hT h h0 h1
  have b0 : Below w.heap.size w (w.alloc (.cells (Inst.mk op rd rs1 rs2 imm aq rl).val 25)) := (Below.refl _ _).alloc (Nat.le_refl _) _
  have B0 := Lib.hid b0
  clear b0
  unfold Inst.val
  go_enter Tryd.func8, Tryd.ntmps8
  go_wp2_with (first
    | (go_at_call 18; refine (E.out _ (HT.out.below B0.out)).mono ?_; rintro e w1 ⟨rfl, hb1⟩; have c1 : w1.heap[w.heap.size]? = some (.cells (Inst.mk op rd rs1 rs2 imm aq rl).val 25 (0, 0)) := (hb1.block _ (by simp)).trans (World.alloc_heap_new w _); have HC1 := Lib.hid c1; obtain ⟨q0, q1, q2, q3, q4, q5, q6⟩ := cells_inst c1; simp only at q0 q1 q2 q3 q4 q5 q6; clear c1)
    | (go_at_call 14; refine (M.out _).mono ?_; rintro e w2 ⟨rfl, hb2⟩)
    | (go_at_call 13; refine (known_any _ ?_).mono ?_; exact ((HT.out.below B0.out).below hb1).below hb2; rintro e w3 ⟨rfl, hb3⟩))
  go_ret
  have b1 := B0.out.trans (hb1.mono (by simp))
  exact ⟨rfl, (b1.trans (hb2.mono b1.size)).trans (hb3.mono (b1.trans (hb2.mono b1.size)).size)⟩

set_option maxRecDepth 100000 in
set_option maxHeartbeats 4000000 in
theorem lawText_yes (i : Inst) (k : Nat) (w : World) (hT : Tab w) (hP : TabP w) (h0 : 0 ≤ i.imm) (h1 : i.imm < 4294967296) (hk : k < 59) (ho : i.op = k + 1) (ok : okI k i = true) :
    Calls Tryd.prog 8 #[.agg i.val] w fun e w' => e = .returned (.bool true) ∧ Below w.heap.size w w' := by
  have M := fun w => rmay_k i w k hk ho h0 h1
  rw [ok] at M
  have TX := fun w hT hP => text_yes i w hT hP h0 h1 k hk ho ok
  have R := fun w hP => rtext_any i w hP h0 h1 k hk ho ok
  generalize textL k i = c at *
  replace M := Lib.hid M
  replace TX := Lib.hid TX
  replace R := Lib.hid R
  have HT := Lib.hid hT
  have HP := Lib.hid hP
  obtain ⟨op, rd, rs1, rs2, imm, aq, rl⟩ := i
  clear hT hP h0 h1 hk ho ok
  have b0 : Below w.heap.size w (w.alloc (.cells (Inst.mk op rd rs1 rs2 imm aq rl).val 25)) := (Below.refl _ _).alloc (Nat.le_refl _) _
  have B0 := Lib.hid b0
  clear b0
  unfold Inst.val
  go_enter Tryd.func8, Tryd.ntmps8
  go_wp2_with (first
    | (go_at_call 18; refine (TX.out _ (HT.out.below B0.out) (HP.out.below B0.out)).mono ?_; rintro e w1 ⟨rfl, hb1⟩; have c1 : w1.heap[w.heap.size]? = some (.cells (Inst.mk op rd rs1 rs2 imm aq rl).val 25 (0, 0)) := (hb1.block _ (by simp)).trans (World.alloc_heap_new w _); have HC1 := Lib.hid c1; obtain ⟨q0, q1, q2, q3, q4, q5, q6⟩ := cells_inst c1; simp only at q0 q1 q2 q3 q4 q5 q6; clear c1; have z1 := hb1.size; rw [World.size_alloc] at z1)
    | (go_at_call 14; refine (M.out _).mono ?_; rintro e w2 ⟨rfl, hb2⟩; have c2 : w2.heap[w.heap.size]? = some (.cells (Inst.mk op rd rs1 rs2 imm aq rl).val 25 (0, 0)) := (hb2.block _ (by omega)).trans HC1.out; clear q0 q1 q2 q3 q4 q5 q6; obtain ⟨q0, q1, q2, q3, q4, q5, q6⟩ := cells_inst c2; simp only at q0 q1 q2 q3 q4 q5 q6; clear c2)
    | (go_at_call 19; refine (R.out _ (((HP.out.below B0.out).below hb1).below hb2)).mono ?_; rintro e w3 ⟨rfl, hb3⟩)
    | (go_at_call 13; refine (known_any _ ?_).mono ?_; exact (((HT.out.below B0.out).below hb1).below hb2).below hb3; rintro e w5 ⟨rfl, hb5⟩))
  go_ret
  have b1 := B0.out.trans (hb1.mono (by simp))
  have b2 := b1.trans (hb2.mono b1.size)
  have b3 := b2.trans (hb3.mono b2.size)
  exact ⟨rfl, b3.trans (hb5.mono b3.size)⟩

theorem lawText_any (i : Inst) (w : World) (hT : Tab w) (hP : TabP w) (h0 : 0 ≤ i.imm) (h1 : i.imm < 4294967296) :
    Calls Tryd.prog 8 #[.agg i.val] w fun e w' => e = .returned (.bool true) ∧ Below w.heap.size w w' := by
  rcases may_cases i with ⟨k, hk, ho, ok⟩ | h
  · exact lawText_yes i k w hT hP h0 h1 hk ho ok
  · exact lawText_no i w hT h0 h1 h
end Go.Proofs.YtamilahkdinjkaaDoor
