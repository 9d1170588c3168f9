/-
  law03.IsaEncodes, as a call.
-/
import Derived.Test.YtamilahkdinjkaaDoorLawEnc
import Derived.LoopTactic
namespace Go.Proofs.YtamilahkdinjkaaDoor
set_option linter.unusedVariables false
set_option linter.unusedSimpArgs false
open Go.RowKit Go.Shelf
attribute [local go_sem] Oper.semAt_some

set_option maxRecDepth 100000 in
set_option maxHeartbeats 4000000 in
theorem lawEncs_zero (r : Option Addr) (cap : Nat) (w : World) (hT : Tab w) :
    Calls Tryd.prog 6 #[.slice r 0 cap] w fun e w' => e = .returned (.bool true) ∧ Below w.heap.size w w' := by
  have HT := Lib.hid hT
  clear hT
  go_enter Tryd.func6, Tryd.ntmps6
  go_wp2
  refine wp_loop_rounds 1 ?_
  rw [rounds_succ]
  go_wp2_with (go_at_call 13; refine (known_any _ HT.out).mono ?_; rintro e w3 ⟨rfl, hb3⟩)
  go_ret
  exact ⟨rfl, hb3⟩
set_option maxRecDepth 100000 in
set_option maxHeartbeats 4000000 in
theorem lawEncs_long (r : Option Addr) (len cap : Nat) (w : World) (hT : Tab w) (h : 60 < len) :
    Calls Tryd.prog 6 #[.slice r len cap] w fun e w' => e = .returned (.bool true) ∧ Below w.heap.size w w' := by
  have HT := Lib.hid hT
  clear hT
  go_enter Tryd.func6, Tryd.ntmps6
  go_wp2_with (go_at_call 13; refine (known_any _ HT.out).mono ?_; rintro e w3 ⟨rfl, hb3⟩)
  go_ret
  exact ⟨rfl, hb3⟩

/-- An instruction's cells, from one cell on. -/
def InstAt (w : World) (b o : Nat) (i : Inst) : Prop :=
  w.cell? ⟨b, o, none⟩ = some (.int .i64 i.op) ∧ w.cell? ⟨b, o + 1, none⟩ = some (.int .i64 i.rd) ∧ w.cell? ⟨b, o + 2, none⟩ = some (.int .i64 i.rs1) ∧ w.cell? ⟨b, o + 3, none⟩ = some (.int .i64 i.rs2) ∧
    w.cell? ⟨b, o + 4, none⟩ = some (.int .u32 i.imm) ∧ w.cell? ⟨b, o + 5, none⟩ = some (.bool i.aq) ∧ w.cell? ⟨b, o + 6, none⟩ = some (.bool i.rl)
theorem InstAt.below {w w' : World} {b o : Nat} {i : Inst} {B : Nat} (h : InstAt w b o i) (hb : Below B w w') (hlt : b < B) : InstAt w' b o i := by
  have c := fun k => hb.cell (p := ⟨b, k, none⟩) hlt
  obtain ⟨h0, h1, h2, h3, h4, h5, h6⟩ := h
  exact ⟨(c _).trans h0, (c _).trans h1, (c _).trans h2, (c _).trans h3, (c _).trans h4, (c _).trans h5, (c _).trans h6⟩
set_option maxRecDepth 100000 in
set_option maxHeartbeats 8000000 in
theorem lawEncs_walk (b off len cap : Nat) (I : Nat → Inst) (w : World) (hT : Tab w) (hl : len ≤ cap) (h60 : len ≤ 60) (hcell : ∀ j, j < len → InstAt w b (off + j * 7) (I j) ∧ 0 ≤ (I j).imm ∧ (I j).imm < 4294967296) (hb : b < w.heap.size) :
    Calls Tryd.prog 6 #[.slice (some ⟨b, off, none⟩) len cap] w fun e w' => e = .returned (.bool true) ∧ Below w.heap.size w w' := by
  have HT := Lib.hid hT
  have HC := Lib.hid hcell
  clear hT hcell
  go_enter Tryd.func6, Tryd.ntmps6
  go_wp2
  go_loopw [3] (fun i wr => ∃ k : Nat, k ≤ len ∧ i = .int .i64 k ∧ Below w.heap.size w wr) (fun i _ => ((len : Int) - intOf i).toNat)
  case atStart => exact ⟨0, by omega, rfl, Below.refl _ _⟩
  case round =>
    obtain ⟨k, hk, rfl, hbw⟩ := hrel
    by_cases hlt : k < len
    · obtain ⟨hc, h0, h1⟩ := HC.out k hlt
      have hsz := hbw.size
      have hbr : b < wr.heap.size := by omega
      have hI : InstAt wr b (off + k * 7) (I k) := hc.below hbw hb
      have HI := Lib.hid hI
      have HR := Lib.hid hbw
      have EE := Lib.hid (fun w hT => encode_any (I k) w hT h0 h1)
      rcases may_cases (I k) with ⟨m, hm, ho, ok⟩ | h
      · have F2 := fun e => enc_is (e := e) hm ho ok h0 h1
        have M := fun w => rmay_k (I k) w m hm ho h0 h1
        rw [ok] at M
        have R := fun w => renc_k (I k) w m hm ho h0 h1 ok
        generalize encK m (I k) = c at *
        replace F2 := Lib.hid F2
        replace M := Lib.hid M
        replace R := Lib.hid R
        clear hc hI hbw h0 h1 hm ho ok hk
        generalize I k = i at *
        obtain ⟨op, rd, rs1, rs2, imm, aq, rl⟩ := i
        obtain ⟨q0, q1, q2, q3, q4, q5, q6⟩ := HI.out
        simp only at q0 q1 q2 q3 q4 q5 q6
        go_wp2_with (first
          | (go_at_call 12; refine (EE.out _ (HT.out.below HR.out)).mono ?_; rintro e w1 ⟨hb1, hd⟩; obtain rfl := F2.out e hd; clear hd; have z1 := hb1.size; have i1 := Lib.hid (HI.out.below hb1 hbr); clear q0 q1 q2 q3 q4 q5 q6; obtain ⟨q0, q1, q2, q3, q4, q5, q6⟩ := i1.out; simp only at q0 q1 q2 q3 q4 q5 q6)
          | (go_at_call 14; refine (M.out _).mono ?_; rintro e w2 ⟨rfl, hb2⟩; have z2 := hb2.size; have i2 := Lib.hid (i1.out.below hb2 (Nat.lt_of_lt_of_le hbr z1)); clear q0 q1 q2 q3 q4 q5 q6; obtain ⟨q0, q1, q2, q3, q4, q5, q6⟩ := i2.out; simp only at q0 q1 q2 q3 q4 q5 q6)
          | (go_at_call 15; refine (R.out _).mono ?_; rintro e w4 ⟨rfl, hb4⟩))
        go_roundw
        case rel =>
          have e1 := hb1.trans (hb2.mono hb1.size)
          have e2 := e1.trans (hb4.mono e1.size)
          exact ⟨k + 1, by omega, by go_num, HR.out.trans (e2.mono HR.out.size)⟩
        case measure => simp [intOf]; omega
      · have F2 := Lib.hid (fun e => enc_no (e := e) (may_no h))
        have M := Lib.hid (fun w => rmay_no (I k) w h0 h1 h)
        clear hc hI hbw h0 h1 h hk
        generalize I k = i at *
        obtain ⟨op, rd, rs1, rs2, imm, aq, rl⟩ := i
        obtain ⟨q0, q1, q2, q3, q4, q5, q6⟩ := HI.out
        simp only at q0 q1 q2 q3 q4 q5 q6
        go_wp2_with (first
          | (go_at_call 12; refine (EE.out _ (HT.out.below HR.out)).mono ?_; rintro e w1 ⟨hb1, hd⟩; obtain rfl := F2.out e hd; clear hd; have z1 := hb1.size; have i1 := Lib.hid (HI.out.below hb1 hbr); clear q0 q1 q2 q3 q4 q5 q6; obtain ⟨q0, q1, q2, q3, q4, q5, q6⟩ := i1.out; simp only at q0 q1 q2 q3 q4 q5 q6)
          | (go_at_call 14; refine (M.out _).mono ?_; rintro e w2 ⟨rfl, hb2⟩))
        go_roundw
        case rel =>
          have e1 := hb1.trans (hb2.mono hb1.size)
          exact ⟨k + 1, by omega, by go_num, HR.out.trans (e1.mono HR.out.size)⟩
        case measure => simp [intOf]; omega
    · have HR := Lib.hid hbw
      clear hbw
      go_wp2_with (go_at_call 13; refine (known_any _ (HT.out.below HR.out)).mono ?_; rintro e w3 ⟨rfl, hb3⟩)
      go_ret
      exact ⟨rfl, HR.out.trans (hb3.mono HR.out.size)⟩
end Go.Proofs.YtamilahkdinjkaaDoor
