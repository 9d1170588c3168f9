/-
  law03.IsaDecode, as a call.
-/
import Derived.Test.YtamilahkdinjkaaDoorKnown
import Derived.Test.YtamilahkdinjkaaDoorRDec
import Derived.Test.YtamilahkdinjkaaDoorPureW
namespace Go.Proofs.YtamilahkdinjkaaDoor
set_option linter.unusedVariables false
set_option linter.unusedSimpArgs false
open Go.RowKit Go.Shelf
attribute [local go_sem] Oper.semAt_some

/-- What both decoders say of a word that is the instruction i. -/
theorem dec_is {c : Int} {k : Nat} {e : Ending} (h0 : 0 ≤ c) (h1 : c < 4294967296) (hk : k < 59) (hh : hitK c k = true)
    (h : (∃ j : Nat, j < 59 ∧ hitK c j = true ∧ (∀ m : Nat, m < j → hitK c m = false) ∧ e = .returned (.tuple #[.agg (decI j c).val, .bool true])) ∨
      ((∀ j : Nat, j < 59 → hitK c j = false) ∧ e = .returned (.tuple #[.agg zeroI.val, .bool false]))) : e = .returned (.tuple #[.agg (decI k c).val, .bool true]) := by
  rcases h with ⟨j, hj, a, _, rfl⟩ | ⟨a, _⟩
  · obtain rfl := hit_one h0 h1 hj hk a hh
    rfl
  · rw [a k hk] at hh; cases hh
theorem dec_no {c : Int} {e : Ending} (hn : ∀ j : Nat, j < 59 → hitK c j = false)
    (h : (∃ j : Nat, j < 59 ∧ hitK c j = true ∧ (∀ m : Nat, m < j → hitK c m = false) ∧ e = .returned (.tuple #[.agg (decI j c).val, .bool true])) ∨
      ((∀ j : Nat, j < 59 → hitK c j = false) ∧ e = .returned (.tuple #[.agg zeroI.val, .bool false]))) : e = .returned (.tuple #[.agg zeroI.val, .bool false]) := by
  rcases h with ⟨j, hj, a, _, rfl⟩ | ⟨_, h⟩
  · rw [hn j hj] at a; cases a
  · exact h
/-- What Encode says of an instruction that may be; that may not be. -/
theorem enc_is {i : Inst} {k : Nat} {e : Ending} (hk : k < 59) (ho : i.op = k + 1) (ok : okI k i = true) (n0 : 0 ≤ i.imm) (n1 : i.imm < 4294967296)
    (h : (∃ j : Nat, j < 59 ∧ i.op = j + 1 ∧ okI j i = true ∧ e = .returned (.tuple #[.int .u32 (encO j i), .int .i64 0])) ∨
      ((∀ j : Nat, j < 59 → i.op = j + 1 → okI j i = false) ∧ e = .returned (.tuple #[.int .u32 0, .int .i64 2]))) : e = .returned (.tuple #[.int .u32 (encK k i), .int .i64 0]) := by
  rcases h with ⟨j, hj, hjo, _, rfl⟩ | ⟨a, _⟩
  · obtain rfl : j = k := by omega
    rw [encO_eq j i hj ok n0 n1]
  · rw [a k hk ho] at ok; cases ok
theorem enc_no {i : Inst} {e : Ending} (hn : ∀ j : Nat, j < 59 → i.op = j + 1 → okI j i = false)
    (h : (∃ j : Nat, j < 59 ∧ i.op = j + 1 ∧ okI j i = true ∧ e = .returned (.tuple #[.int .u32 (encO j i), .int .i64 0])) ∨
      ((∀ j : Nat, j < 59 → i.op = j + 1 → okI j i = false) ∧ e = .returned (.tuple #[.int .u32 0, .int .i64 2]))) : e = .returned (.tuple #[.int .u32 0, .int .i64 2]) := by
  rcases h with ⟨j, hj, hjo, ok, rfl⟩ | ⟨_, h⟩
  · rw [hn j hj hjo] at ok; cases ok
  · exact h

set_option maxRecDepth 100000 in
set_option maxHeartbeats 4000000 in
theorem lawDec_any (c : Int) (w : World) (hT : Tab w) (h0 : 0 ≤ c) (h1 : c < 4294967296) :
    Calls Tryd.prog 3 #[.int .u32 c] w fun e w' => e = .returned (.bool true) ∧ Below w.heap.size w w' := by
  by_cases h : ∃ k, k < 59 ∧ hitK c k = true
  · obtain ⟨k, hk, hh⟩ := h
    obtain ⟨d1, d2, d3, d4⟩ := dec_facts k c h0 h1
    have d5 := d4.2 hh
    have d6 : (decI k c).op = k + 1 := rfl
    obtain ⟨i, hi⟩ : ∃ i, decI k c = i := ⟨_, rfl⟩
    rw [hi] at d1 d2 d3 d5 d6
    have F1 := Lib.hid (fun e => dec_is (e := e) h0 h1 hk hh)
    have F2 := Lib.hid (fun e => enc_is (e := e) hk d6 d1 d2 d3)
    rw [hi] at F1
    rw [d5] at F2
    obtain ⟨op, rd, rs1, rs2, imm, aq, rl⟩ := i
    have HT := Lib.hid hT
    have n0 := Lib.hid d2
    have n1 := Lib.hid d3
    clear hT d1 d2 d3 d4 d5 d6 hi hh hk
    go_enter Tryd.func3, Tryd.ntmps3
    go_wp2_with (first
      | (go_at_call 10; refine (decode_any c _ HT.out h0 h1).mono ?_; rintro e w1 ⟨hb1, hd⟩; obtain rfl := F1.out e hd; clear hd; unfold Inst.val; simp only [])
      | (go_at_call 11; refine (rdec_any c _ h0 h1).mono ?_; rintro e w2 ⟨hb2, hd⟩; obtain rfl := F1.out e hd; clear hd; unfold Inst.val; simp only []; have c2 : w2.heap[w1.heap.size]? = some (.cells (Inst.mk op rd rs1 rs2 imm aq rl).val 25 (0, 0)) := (hb2.block _ (by simp)).trans (World.alloc_heap_new w1 _); obtain ⟨q0, q1, q2, q3, q4, q5, q6⟩ := cells_inst c2; simp only at q0 q1 q2 q3 q4 q5 q6; clear c2; have hz0 := hb2.size; rw [World.size_alloc] at hz0; have hz : w1.heap.size < w2.heap.size := hz0; clear hz0)
      | (go_at_call 12; refine (encode_any (Inst.mk op rd rs1 rs2 imm aq rl) _ ?_ n0.out n1.out).mono ?_; exact ((HT.out.below (hb1.alloc hb1.size _)).below hb2).below ((Below.refl _ _).alloc (Nat.le_refl _) _); rintro e w3 ⟨hb3, hd⟩; obtain rfl := F2.out e hd; clear hd)
      | (go_at_call 13; refine (known_any _ ?_).mono ?_; exact (((HT.out.below (hb1.alloc hb1.size _)).below hb2).below ((Below.refl _ _).alloc (Nat.le_refl _) _)).below hb3; rintro e w4 ⟨rfl, hb4⟩))
    go_ret
    have e1 := hb1.alloc hb1.size (.cells (Inst.mk op rd rs1 rs2 imm aq rl).val 25)
    have e2 := e1.trans (hb2.mono e1.size)
    have e3 := e2.alloc e2.size (.cells (Inst.mk op rd rs1 rs2 imm aq rl).val 25)
    have e4 := e3.trans (hb3.mono e3.size)
    exact ⟨rfl, e4.trans (hb4.mono e4.size)⟩
  · have hn : ∀ j : Nat, j < 59 → hitK c j = false := fun j hj => by
      cases e : hitK c j
      · rfl
      · exact (h ⟨j, hj, e⟩).elim
    have F1 := Lib.hid (fun e => dec_no (e := e) hn)
    have F2 := Lib.hid (fun e => enc_no (i := zeroI) (e := e) (fun j hj ho => by have : (0 : Int) = j + 1 := ho; omega))
    have HT := Lib.hid hT
    clear hT hn h
    go_enter Tryd.func3, Tryd.ntmps3
    go_wp2_with (first
      | (go_at_call 10; refine (decode_any c _ HT.out h0 h1).mono ?_; rintro e w1 ⟨hb1, hd⟩; obtain rfl := F1.out e hd; clear hd; unfold zeroI Inst.val; simp only [])
      | (go_at_call 11; refine (rdec_any c _ h0 h1).mono ?_; rintro e w2 ⟨hb2, hd⟩; obtain rfl := F1.out e hd; clear hd; unfold zeroI Inst.val; simp only []; have c2 : w2.heap[w1.heap.size]? = some (.cells zeroI.val 25 (0, 0)) := (hb2.block _ (by simp)).trans (World.alloc_heap_new w1 _); obtain ⟨q0, q1, q2, q3, q4, q5, q6⟩ := cells_inst c2; simp only [zeroI] at q0 q1 q2 q3 q4 q5 q6; clear c2; have hz0 := hb2.size; rw [World.size_alloc] at hz0; have hz : w1.heap.size < w2.heap.size := hz0; clear hz0)
      | (go_at_call 12; refine (encode_any zeroI _ ?_ (by decide) (by decide)).mono ?_; exact ((HT.out.below (hb1.alloc hb1.size _)).below hb2).below ((Below.refl _ _).alloc (Nat.le_refl _) _); rintro e w3 ⟨hb3, hd⟩; obtain rfl := F2.out e hd; clear hd)
      | (go_at_call 13; refine (known_any _ ?_).mono ?_; exact (((HT.out.below (hb1.alloc hb1.size _)).below hb2).below ((Below.refl _ _).alloc (Nat.le_refl _) _)).below hb3; rintro e w4 ⟨rfl, hb4⟩))
    go_ret
    have e1 := hb1.alloc hb1.size (.cells zeroI.val 25)
    have e2 := e1.trans (hb2.mono e1.size)
    have e3 := e2.alloc e2.size (.cells zeroI.val 25)
    have e4 := e3.trans (hb3.mono e3.size)
    exact ⟨rfl, e4.trans (hb4.mono e4.size)⟩
end Go.Proofs.YtamilahkdinjkaaDoor
