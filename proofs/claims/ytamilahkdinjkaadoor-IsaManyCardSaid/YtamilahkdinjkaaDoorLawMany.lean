/-
  law03.IsaMany, as a call.
-/
import Derived.Test.YtamilahkdinjkaaDoorLawDec
import Derived.LoopTactic
namespace Go.Proofs.YtamilahkdinjkaaDoor
set_option linter.unusedVariables false
set_option linter.unusedSimpArgs false
open Go.RowKit Go.Shelf
attribute [local go_sem] Oper.semAt_some

set_option maxRecDepth 100000 in
set_option maxHeartbeats 4000000 in
theorem lawMany_zero (r : Option Addr) (cap : Nat) (w : World) (hT : Tab w) :
    Calls Tryd.prog 4 #[.slice r 0 cap] w fun e w' => e = .returned (.bool true) ∧ Below w.heap.size w w' := by
  have HT := Lib.hid hT
  clear hT
  go_enter Tryd.func4, Tryd.ntmps4
  go_wp2
  refine wp_loop_rounds 1 ?_
  rw [rounds_succ]
  go_wp2_with (go_at_call 13; refine (known_any _ HT.out).mono ?_; rintro e w3 ⟨rfl, hb3⟩)
  go_ret
  exact ⟨rfl, hb3⟩
set_option maxRecDepth 100000 in
set_option maxHeartbeats 4000000 in
theorem lawMany_long (r : Option Addr) (len cap : Nat) (w : World) (hT : Tab w) (h : 60 < len) :
    Calls Tryd.prog 4 #[.slice r len cap] w fun e w' => e = .returned (.bool true) ∧ Below w.heap.size w w' := by
  have HT := Lib.hid hT
  clear hT
  go_enter Tryd.func4, Tryd.ntmps4
  go_wp2_with (go_at_call 13; refine (known_any _ HT.out).mono ?_; rintro e w3 ⟨rfl, hb3⟩)
  go_ret
  exact ⟨rfl, hb3⟩
set_option maxRecDepth 100000 in
set_option maxHeartbeats 8000000 in
theorem lawMany_walk (b off len cap : Nat) (zs : List Int) (w : World) (hT : Tab w) (hl : len ≤ cap) (h60 : len ≤ 60) (hz : zs.length = cap) (hcell : ∀ j, j < zs.length → w.cell? ⟨b, off + j, none⟩ = some (.int .u32 (zs.getD j 0)))
    (hw : ∀ n ∈ zs, 0 ≤ n ∧ n < 4294967296) (hb : b < w.heap.size) :
    Calls Tryd.prog 4 #[.slice (some ⟨b, off, none⟩) len cap] w fun e w' => e = .returned (.bool true) ∧ Below w.heap.size w w' := by
  have HT := Lib.hid hT
  have HC := Lib.hid hcell
  have HW := Lib.hid hw
  have HZ := Lib.hid hz
  clear hT hcell hw hz
  go_enter Tryd.func4, Tryd.ntmps4
  go_wp2
  go_loopw [3] (fun i wr => ∃ k : Nat, k ≤ len ∧ i = .int .i64 k ∧ Below w.heap.size w wr) (fun i _ => ((len : Int) - intOf i).toNat)
  case atStart => exact ⟨0, by omega, rfl, Below.refl _ _⟩
  case round =>
    obtain ⟨k, hk, rfl, hbw⟩ := hrel
    by_cases hlt : k < len
    · have hkz : k < zs.length := by have := HZ.out; omega
      obtain ⟨z, hzk⟩ : ∃ z, zs.getD k 0 = z := ⟨_, rfl⟩
      have hmem : z ∈ zs := by
        rw [← hzk, List.getD_eq_getElem?_getD, List.getElem?_eq_getElem hkz]
        exact List.getElem_mem hkz
      obtain ⟨h0, h1⟩ := HW.out z hmem
      have c0 : wr.cell? ⟨b, off + k, none⟩ = some (.int .u32 z) := by
        rw [hbw.cell (p := ⟨b, off + k, none⟩) hb, HC.out k hkz, hzk]
      have hsz := hbw.size
      have hbr : b < wr.heap.size := by omega
      have HR := Lib.hid hbw
      clear hzk hmem hkz hk hbw
      by_cases h : ∃ k, k < 59 ∧ hitK z k = true
      · obtain ⟨m, hm, hh⟩ := h
        obtain ⟨i, hi⟩ : ∃ i, decI m z = i := ⟨_, rfl⟩
        have F1 := Lib.hid (fun e => dec_is (e := e) h0 h1 hm hh)
        rw [hi] at F1
        obtain ⟨op, rd, rs1, rs2, imm, aq, rl⟩ := i
        clear hi hh hm
        go_wp2_with (first
          | (go_at_call 10; refine (decode_any z _ (HT.out.below HR.out) h0 h1).mono ?_; rintro e w1 ⟨hb1, hd⟩; obtain rfl := F1.out e hd; clear hd; unfold Inst.val; simp only []; have c1 : w1.cell? ⟨b, off + k, none⟩ = some (.int .u32 z) := (hb1.cell (p := ⟨b, off + k, none⟩) hbr).trans c0; have z1 := hb1.size; have hb1' : b < w1.heap.size := Nat.lt_of_lt_of_le hbr z1)
          | (go_at_call 11; refine (rdec_any z _ h0 h1).mono ?_; rintro e w2 ⟨hb2, hd⟩; obtain rfl := F1.out e hd; clear hd; unfold Inst.val; simp only []; have c2 : w2.heap[w1.heap.size]? = some (.cells (Inst.mk op rd rs1 rs2 imm aq rl).val 25 (0, 0)) := (hb2.block _ (by simp)).trans (World.alloc_heap_new w1 _); obtain ⟨q0, q1, q2, q3, q4, q5, q6⟩ := cells_inst c2; simp only at q0 q1 q2 q3 q4 q5 q6; clear c2; have hz0 := hb2.size; rw [World.size_alloc] at hz0; have hz : w1.heap.size < w2.heap.size := hz0; clear hz0))
        go_roundw
        case rel =>
          have e1 := hb1.alloc hb1.size (.cells (Inst.mk op rd rs1 rs2 imm aq rl).val 25)
          have e2 := e1.trans (hb2.mono e1.size)
          have e3 := e2.alloc e2.size (.cells (Inst.mk op rd rs1 rs2 imm aq rl).val 25)
          exact ⟨k + 1, by omega, by go_num, HR.out.trans (e3.mono HR.out.size)⟩
        case measure => simp [intOf]; omega
      · have hn : ∀ j : Nat, j < 59 → hitK z j = false := fun j hj => by
          cases e : hitK z j
          · rfl
          · exact (h ⟨j, hj, e⟩).elim
        have F1 := Lib.hid (fun e => dec_no (e := e) hn)
        clear hn h
        go_wp2_with (first
          | (go_at_call 10; refine (decode_any z _ (HT.out.below HR.out) h0 h1).mono ?_; rintro e w1 ⟨hb1, hd⟩; obtain rfl := F1.out e hd; clear hd; unfold zeroI Inst.val; simp only []; have c1 : w1.cell? ⟨b, off + k, none⟩ = some (.int .u32 z) := (hb1.cell (p := ⟨b, off + k, none⟩) hbr).trans c0; have z1 := hb1.size; have hb1' : b < w1.heap.size := Nat.lt_of_lt_of_le hbr z1)
          | (go_at_call 11; refine (rdec_any z _ h0 h1).mono ?_; rintro e w2 ⟨hb2, hd⟩; obtain rfl := F1.out e hd; clear hd; unfold zeroI Inst.val; simp only []; have c2 : w2.heap[w1.heap.size]? = some (.cells zeroI.val 25 (0, 0)) := (hb2.block _ (by simp)).trans (World.alloc_heap_new w1 _); obtain ⟨q0, q1, q2, q3, q4, q5, q6⟩ := cells_inst c2; simp only [zeroI] at q0 q1 q2 q3 q4 q5 q6; clear c2; have hz0 := hb2.size; rw [World.size_alloc] at hz0; have hz : w1.heap.size < w2.heap.size := hz0; clear hz0))
        go_roundw
        case rel =>
          have e1 := hb1.alloc hb1.size (.cells zeroI.val 25)
          have e2 := e1.trans (hb2.mono e1.size)
          have e3 := e2.alloc e2.size (.cells zeroI.val 25)
          exact ⟨k + 1, by omega, by go_num, HR.out.trans (e3.mono HR.out.size)⟩
        case measure => simp [intOf]; omega
    · have HR := Lib.hid hbw
      clear hbw
      go_wp2_with (go_at_call 13; refine (known_any _ (HT.out.below HR.out)).mono ?_; rintro e w3 ⟨rfl, hb3⟩)
      go_ret
      exact ⟨rfl, HR.out.trans (hb3.mono HR.out.size)⟩
theorem lawMany_nil (w : World) (hT : Tab w) : Calls Tryd.prog 4 #[.slice none 0 0] w fun e w' => e = .returned (.bool true) ∧ Below w.heap.size w w' := lawMany_zero none 0 w hT
end Go.Proofs.YtamilahkdinjkaaDoor
