/-
  The reference's Decode: the first row whose own bits are the word's.
-/
import Derived.Test.YtamilahkdinjkaaDoorRMay
import Derived.Test.YtamilahkdinjkaaDoorREnc
import Derived.Test.YtamilahkdinjkaaDoorPut
import Derived.LoopTactic
namespace Go.Proofs.YtamilahkdinjkaaDoor
set_option linter.unusedVariables false
set_option linter.unusedSimpArgs false
open Go.RowKit
attribute [local go_sem] Oper.semAt_some

theorem sgnF_eq (n : Int) (m : Nat) (q : Int) (hq : p2 m = q) : sgnF n m = if q ≤ n then (n - q * 2) % 4294967296 else n := by
  subst hq; rfl
theorem sgn_j (c : Int) (h0 : 0 ≤ c) (h1 : c < 4294967296) : sgnF (c / 2147483648 % 2 * 1048576 + c / 4096 % 256 * 4096 + c / 1048576 % 2 * 2048 + c / 2097152 % 1024 * 2) 20 = takeZ .j c := by
  rw [sgnF_eq _ 20 1048576 (by decide)]
  simp only [takeZ]
  rcases Int.lt_or_le c 2147483648 with hc | hc
  · rw [hi_lo hc, if_neg (by omega)]; omega
  · rw [hi_up hc, if_pos (by omega)]; omega
theorem sgn_b (c : Int) (h0 : 0 ≤ c) (h1 : c < 4294967296) : sgnF (c / 2147483648 % 2 * 4096 + c / 128 % 2 * 2048 + c / 33554432 % 64 * 32 + c / 256 % 16 * 2) 12 = takeZ .b c := by
  rw [sgnF_eq _ 12 4096 (by decide)]
  simp only [takeZ]
  rcases Int.lt_or_le c 2147483648 with hc | hc
  · rw [hi_lo hc, if_neg (by omega)]; omega
  · rw [hi_up hc, if_pos (by omega)]; omega
theorem sgn_s (c : Int) (h0 : 0 ≤ c) (h1 : c < 4294967296) : sgnF (c / 33554432 % 128 * 32 + c / 128 % 32) 11 = takeZ .s c := by
  rw [sgnF_eq _ 11 2048 (by decide)]
  simp only [takeZ]
  have e1 : c / 33554432 % 128 = c / 33554432 := by omega
  have e2 : 0 ≤ c / 128 % 32 ∧ c / 128 % 32 < 32 := by omega
  rw [e1]
  generalize c / 128 % 32 = r at *
  rcases Int.lt_or_le c 2147483648 with hc | hc
  · have e3 : c / 33554432 < 64 := by omega
    have e4 : c / 33554432 % 64 = c / 33554432 := by omega
    rw [hi_lo hc, if_neg (by omega), e4]; omega
  · have e3 : 64 ≤ c / 33554432 ∧ c / 33554432 < 128 := by omega
    have e4 : c / 33554432 % 64 = c / 33554432 - 64 := by omega
    rw [hi_up hc, if_pos (by omega), e4]; omega
theorem sgn_i (c : Int) (h0 : 0 ≤ c) (h1 : c < 4294967296) : sgnF (c / 1048576 % 4096) 11 = takeZ .i c := by
  rw [sgnF_eq _ 11 2048 (by decide)]
  simp only [takeZ]
  rcases Int.lt_or_le c 2147483648 with hc | hc
  · rw [hi_lo hc, if_neg (by omega)]; omega
  · rw [hi_up hc, if_pos (by omega)]; omega

theorem hit_enc (k : Nat) (f : Fm) (c : Int) (hf : formK k = f) (h0 : 0 ≤ c) (h1 : c < 4294967296) : hitK c k = (encF f (bitsK k) (decF f (k + 1) c) == c) := by
  have h := (dec_facts k c h0 h1).2.2.2
  subst hf
  rw [Bool.eq_iff_iff, ← h, beq_iff_eq]
  rfl

set_option maxRecDepth 100000 in
set_option maxHeartbeats 20000000 in
theorem rdec_any (c : Int) (w : World) (h0 : 0 ≤ c) (h1 : c < 4294967296) :
    Calls Tryd.prog 11 #[.int .u32 c] w fun e w' => Below w.heap.size w w' ∧
      ((∃ k : Nat, k < 59 ∧ hitK c k = true ∧ (∀ j : Nat, j < k → hitK c j = false) ∧ e = .returned (.tuple #[.agg (decI k c).val, .bool true])) ∨
      ((∀ j : Nat, j < 59 → hitK c j = false) ∧ e = .returned (.tuple #[.agg zeroI.val, .bool false]))) := by
  go_enter Tryd.func11, Tryd.ntmps11
  go_wp2
  go_loopw [4] (fun i wr => ∃ k : Nat, k ≤ 59 ∧ i = .int .i64 ((k : Int) + 1) ∧ (∀ j : Nat, j < k → hitK c j = false) ∧ Below w.heap.size w wr ∧ w.heap.size < wr.heap.size ∧ wr.heap[w.heap.size]? = some (.cells zeroI.val 25 (0, 0))) (fun i _ => (60 - intOf i).toNat)
  case atStart => exact ⟨0, by omega, rfl, fun j hj => by omega, (Below.refl _ _).alloc (Nat.le_refl _) _, by simp, World.alloc_heap_new _ _⟩
  case round =>
    obtain ⟨k, hk, rfl, hno, hbw, hsz, hcell⟩ := hrel
    have HN := Lib.hid hno
    have HC := Lib.hid hcell
    clear hno hcell
    by_cases hlt : k < 59
    · have HK := Lib.hid hlt
      have hk59 : (k : Int) + 1 ≤ 59 := by omega
      clear hlt hk
      obtain ⟨f, hf⟩ : ∃ f, formK k = f := ⟨_, rfl⟩
      have hh := hit_enc k f c hf h0 h1
      have HF := Lib.hid hf
      clear hf
      cases f
      case u =>
        have im0 : (0 : Int) ≤ c - c % 4096 := (dec_imm .u c h0 h1).2.1
        have im1 : (c - c % 4096 : Int) < 4294967296 := (dec_imm .u c h0 h1).2.2
        have hok : okF .u (Inst.mk ((k : Int) + 1) (c / 128 % 32) (0) (0) (c - c % 4096) false false) = true := dec_ok .u ((k : Int) + 1) c h0 h1
        obtain ⟨E, hE⟩ : ∃ E, encF .u (bitsK k) (Inst.mk ((k : Int) + 1) (c / 128 % 32) (0) (0) (c - c % 4096) false false) = E := ⟨_, rfl⟩
        replace hh : hitK c k = (E == c) := hE ▸ hh
        have HH := Lib.hid hh
        clear hh
        go_wp2_with (first | (go_at_call 22; refine (form_f k 117 .u HK.out HF.out rfl _).mono ?_; rintro e w' ⟨rfl, rfl⟩) | (go_at_call 23; refine (bits_p c _ _ _ h0 h1 (by decide) (by decide) (by decide)).mono ?_; rintro e w' ⟨rfl, rfl⟩) | (go_at_call 25; refine (pow_p _ _ (by decide) (by decide)).mono ?_; rintro e w' ⟨rfl, rfl⟩) | (go_at_call 14; refine (rmay_u (Inst.mk ((k : Int) + 1) (c / 128 % 32) (0) (0) (c - c % 4096) false false) _ k HK.out HF.out rfl im0 im1).mono ?_; rw [hok]; rintro e wa ⟨rfl, hba⟩; have ca : wa.heap[wr.heap.size]? = some (.cells (Inst.mk ((k : Int) + 1) (c / 128 % 32) (0) (0) (c - c % 4096) false false).val 25 (0, 0)) := (hba.block _ (by simp)).trans (World.alloc_heap_new wr _); obtain ⟨q0, q1, q2, q3, q4, q5, q6⟩ := cells_inst ca; simp only at q0 q1 q2 q3 q4 q5 q6) | (go_at_call 15; refine (renc_u (Inst.mk ((k : Int) + 1) (c / 128 % 32) (0) (0) (c - c % 4096) false false) _ k HK.out HF.out rfl im0 im1 hok).mono ?_; rw [hE]; rintro e wb ⟨rfl, hbb⟩; have hz0 := hba.size; rw [World.size_alloc] at hz0; have hz1 : wr.heap.size < wa.heap.size := hz0; have cb : wb.heap[wr.heap.size]? = some (.cells (Inst.mk ((k : Int) + 1) (c / 128 % 32) (0) (0) (c - c % 4096) false false).val 25 (0, 0)) := (hbb.block _ hz1).trans ca; have cz : wb.heap[w.heap.size]? = some (.cells zeroI.val 25 (0, 0)) := (hbb.block _ (by omega)).trans ((hba.block _ (Nat.lt_of_lt_of_le hsz (by rw [World.size_alloc]; exact Nat.le_succ _))).trans ((Below.heap_alloc _ _ _ hsz).trans HC.out)); clear q0 q1 q2 q3 q4 q5 q6; obtain ⟨q0, q1, q2, q3, q4, q5, q6⟩ := cells_inst cb; obtain ⟨z0, z1, z2, z3, z4, z5, z6⟩ := cells_inst cz; have fz := free_o cz; simp only at q0 q1 q2 q3 q4 q5 q6; simp only [zeroI] at z0 z1 z2 z3 z4 z5 z6))
        · have p1 := putB_inst cz (.int .i64 ((k : Int) + 1)) (.int .i64 (c / 128 % 32)) (.int .i64 (0)) (.int .i64 (0)) (.int .u32 (c - c % 4096)) (.bool false) (.bool false)
          have bb : Below w.heap.size w wb := hbw.trans ((((Below.refl _ wr).alloc (Nat.le_refl _) _).trans ((hba.mono (by simp)).trans (hbb.mono (by omega)))).mono (by omega))
          have bz := bb.trans (p1.below (Nat.le_refl _))
          obtain ⟨y0, y1, y2, y3, y4, y5, y6⟩ := cells_inst (i := (Inst.mk ((k : Int) + 1) (c / 128 % 32) (0) (0) (c - c % 4096) false false)) p1.here
          simp only at y0 y1 y2 y3 y4 y5 y6
          generalize hW9 : World.setCell _ ⟨w.heap.size, 6, none⟩ _ = W9 at *
          refine bodyPost_ret (v := .tuple #[.agg (Inst.val (Inst.mk ((k : Int) + 1) (c / 128 % 32) (0) (0) (c - c % 4096) false false)), .bool true]) (by simp [results, Tryd.f11, go_sem, Inst.val, y0, y1, y2, y3, y4, y5, y6]) rfl ⟨bz, .inl ⟨k, HK.out, HH.out.trans ‹_›, HN.out, ?_⟩⟩
          have e : decI k c = (Inst.mk ((k : Int) + 1) (c / 128 % 32) (0) (0) (c - c % 4096) false false) := by unfold decI; rw [HF.out]; rfl
          rw [e]
        · rename_i hne
          have bb : Below w.heap.size w wb := hbw.trans ((((Below.refl _ wr).alloc (Nat.le_refl _) _).trans ((hba.mono (by simp)).trans (hbb.mono (by omega)))).mono (by omega))
          have hsb := hbb.size
          have HE := HH.out.trans hne
          go_roundw
          case rel =>
            refine ⟨k + 1, by have := HK.out; omega, by go_num, fun j hj => ?_, bb, by omega, cz⟩
            rcases Nat.lt_succ_iff_lt_or_eq.1 hj with h | rfl
            · exact HN.out j h
            · exact HE
          case measure => simp [intOf]; omega
      case j =>
        have im0 : (0 : Int) ≤ takeZ .j c := (dec_imm .j c h0 h1).2.1
        have im1 : (takeZ .j c : Int) < 4294967296 := (dec_imm .j c h0 h1).2.2
        have hok : okF .j (Inst.mk ((k : Int) + 1) (c / 128 % 32) (0) (0) (takeZ .j c) false false) = true := dec_ok .j ((k : Int) + 1) c h0 h1
        obtain ⟨E, hE⟩ : ∃ E, encF .j (bitsK k) (Inst.mk ((k : Int) + 1) (c / 128 % 32) (0) (0) (takeZ .j c) false false) = E := ⟨_, rfl⟩
        replace hh : hitK c k = (E == c) := hE ▸ hh
        have HH := Lib.hid hh
        clear hh
        go_wp2_with (first | (go_at_call 22; refine (form_f k 106 .j HK.out HF.out rfl _).mono ?_; rintro e w' ⟨rfl, rfl⟩) | (go_at_call 23; refine (bits_p c _ _ _ h0 h1 (by decide) (by decide) (by decide)).mono ?_; rintro e w' ⟨rfl, rfl⟩) | (go_at_call 25; refine (pow_p _ _ (by decide) (by decide)).mono ?_; rintro e w' ⟨rfl, rfl⟩) | (go_at_call 24; refine (sign_v _ 21 (takeZ .j c) _ (by omega) (by omega) (by decide) (by decide) (sgn_j c h0 h1)).mono ?_; rintro e w' ⟨rfl, rfl⟩) | (go_at_call 14; refine (rmay_j (Inst.mk ((k : Int) + 1) (c / 128 % 32) (0) (0) (takeZ .j c) false false) _ k HK.out HF.out rfl im0 im1).mono ?_; rw [hok]; rintro e wa ⟨rfl, hba⟩; have ca : wa.heap[wr.heap.size]? = some (.cells (Inst.mk ((k : Int) + 1) (c / 128 % 32) (0) (0) (takeZ .j c) false false).val 25 (0, 0)) := (hba.block _ (by simp)).trans (World.alloc_heap_new wr _); obtain ⟨q0, q1, q2, q3, q4, q5, q6⟩ := cells_inst ca; simp only at q0 q1 q2 q3 q4 q5 q6) | (go_at_call 15; refine (renc_j (Inst.mk ((k : Int) + 1) (c / 128 % 32) (0) (0) (takeZ .j c) false false) _ k HK.out HF.out rfl im0 im1 hok).mono ?_; rw [hE]; rintro e wb ⟨rfl, hbb⟩; have hz0 := hba.size; rw [World.size_alloc] at hz0; have hz1 : wr.heap.size < wa.heap.size := hz0; have cb : wb.heap[wr.heap.size]? = some (.cells (Inst.mk ((k : Int) + 1) (c / 128 % 32) (0) (0) (takeZ .j c) false false).val 25 (0, 0)) := (hbb.block _ hz1).trans ca; have cz : wb.heap[w.heap.size]? = some (.cells zeroI.val 25 (0, 0)) := (hbb.block _ (by omega)).trans ((hba.block _ (Nat.lt_of_lt_of_le hsz (by rw [World.size_alloc]; exact Nat.le_succ _))).trans ((Below.heap_alloc _ _ _ hsz).trans HC.out)); clear q0 q1 q2 q3 q4 q5 q6; obtain ⟨q0, q1, q2, q3, q4, q5, q6⟩ := cells_inst cb; obtain ⟨z0, z1, z2, z3, z4, z5, z6⟩ := cells_inst cz; have fz := free_o cz; simp only at q0 q1 q2 q3 q4 q5 q6; simp only [zeroI] at z0 z1 z2 z3 z4 z5 z6))
        · have p1 := putB_inst cz (.int .i64 ((k : Int) + 1)) (.int .i64 (c / 128 % 32)) (.int .i64 (0)) (.int .i64 (0)) (.int .u32 (takeZ .j c)) (.bool false) (.bool false)
          have bb : Below w.heap.size w wb := hbw.trans ((((Below.refl _ wr).alloc (Nat.le_refl _) _).trans ((hba.mono (by simp)).trans (hbb.mono (by omega)))).mono (by omega))
          have bz := bb.trans (p1.below (Nat.le_refl _))
          obtain ⟨y0, y1, y2, y3, y4, y5, y6⟩ := cells_inst (i := (Inst.mk ((k : Int) + 1) (c / 128 % 32) (0) (0) (takeZ .j c) false false)) p1.here
          simp only at y0 y1 y2 y3 y4 y5 y6
          generalize hW9 : World.setCell _ ⟨w.heap.size, 6, none⟩ _ = W9 at *
          refine bodyPost_ret (v := .tuple #[.agg (Inst.val (Inst.mk ((k : Int) + 1) (c / 128 % 32) (0) (0) (takeZ .j c) false false)), .bool true]) (by simp [results, Tryd.f11, go_sem, Inst.val, y0, y1, y2, y3, y4, y5, y6]) rfl ⟨bz, .inl ⟨k, HK.out, HH.out.trans ‹_›, HN.out, ?_⟩⟩
          have e : decI k c = (Inst.mk ((k : Int) + 1) (c / 128 % 32) (0) (0) (takeZ .j c) false false) := by unfold decI; rw [HF.out]; rfl
          rw [e]
        · rename_i hne
          have bb : Below w.heap.size w wb := hbw.trans ((((Below.refl _ wr).alloc (Nat.le_refl _) _).trans ((hba.mono (by simp)).trans (hbb.mono (by omega)))).mono (by omega))
          have hsb := hbb.size
          have HE := HH.out.trans hne
          go_roundw
          case rel =>
            refine ⟨k + 1, by have := HK.out; omega, by go_num, fun j hj => ?_, bb, by omega, cz⟩
            rcases Nat.lt_succ_iff_lt_or_eq.1 hj with h | rfl
            · exact HN.out j h
            · exact HE
          case measure => simp [intOf]; omega
      case load =>
        have im0 : (0 : Int) ≤ takeZ .i c := (dec_imm .load c h0 h1).2.1
        have im1 : (takeZ .i c : Int) < 4294967296 := (dec_imm .load c h0 h1).2.2
        have hok : okF .load (Inst.mk ((k : Int) + 1) (c / 128 % 32) (c / 32768 % 32) (0) (takeZ .i c) false false) = true := dec_ok .load ((k : Int) + 1) c h0 h1
        obtain ⟨E, hE⟩ : ∃ E, encF .load (bitsK k) (Inst.mk ((k : Int) + 1) (c / 128 % 32) (c / 32768 % 32) (0) (takeZ .i c) false false) = E := ⟨_, rfl⟩
        replace hh : hitK c k = (E == c) := hE ▸ hh
        have HH := Lib.hid hh
        clear hh
        go_wp2_with (first | (go_at_call 22; refine (form_f k 108 .load HK.out HF.out rfl _).mono ?_; rintro e w' ⟨rfl, rfl⟩) | (go_at_call 23; refine (bits_p c _ _ _ h0 h1 (by decide) (by decide) (by decide)).mono ?_; rintro e w' ⟨rfl, rfl⟩) | (go_at_call 25; refine (pow_p _ _ (by decide) (by decide)).mono ?_; rintro e w' ⟨rfl, rfl⟩) | (go_at_call 24; refine (sign_v _ 12 (takeZ .i c) _ (by omega) (by omega) (by decide) (by decide) (sgn_i c h0 h1)).mono ?_; rintro e w' ⟨rfl, rfl⟩) | (go_at_call 14; refine (rmay_load (Inst.mk ((k : Int) + 1) (c / 128 % 32) (c / 32768 % 32) (0) (takeZ .i c) false false) _ k HK.out HF.out rfl im0 im1).mono ?_; rw [hok]; rintro e wa ⟨rfl, hba⟩; have ca : wa.heap[wr.heap.size]? = some (.cells (Inst.mk ((k : Int) + 1) (c / 128 % 32) (c / 32768 % 32) (0) (takeZ .i c) false false).val 25 (0, 0)) := (hba.block _ (by simp)).trans (World.alloc_heap_new wr _); obtain ⟨q0, q1, q2, q3, q4, q5, q6⟩ := cells_inst ca; simp only at q0 q1 q2 q3 q4 q5 q6) | (go_at_call 15; refine (renc_load (Inst.mk ((k : Int) + 1) (c / 128 % 32) (c / 32768 % 32) (0) (takeZ .i c) false false) _ k HK.out HF.out rfl im0 im1 hok).mono ?_; rw [hE]; rintro e wb ⟨rfl, hbb⟩; have hz0 := hba.size; rw [World.size_alloc] at hz0; have hz1 : wr.heap.size < wa.heap.size := hz0; have cb : wb.heap[wr.heap.size]? = some (.cells (Inst.mk ((k : Int) + 1) (c / 128 % 32) (c / 32768 % 32) (0) (takeZ .i c) false false).val 25 (0, 0)) := (hbb.block _ hz1).trans ca; have cz : wb.heap[w.heap.size]? = some (.cells zeroI.val 25 (0, 0)) := (hbb.block _ (by omega)).trans ((hba.block _ (Nat.lt_of_lt_of_le hsz (by rw [World.size_alloc]; exact Nat.le_succ _))).trans ((Below.heap_alloc _ _ _ hsz).trans HC.out)); clear q0 q1 q2 q3 q4 q5 q6; obtain ⟨q0, q1, q2, q3, q4, q5, q6⟩ := cells_inst cb; obtain ⟨z0, z1, z2, z3, z4, z5, z6⟩ := cells_inst cz; have fz := free_o cz; simp only at q0 q1 q2 q3 q4 q5 q6; simp only [zeroI] at z0 z1 z2 z3 z4 z5 z6))
        · have p1 := putB_inst cz (.int .i64 ((k : Int) + 1)) (.int .i64 (c / 128 % 32)) (.int .i64 (c / 32768 % 32)) (.int .i64 (0)) (.int .u32 (takeZ .i c)) (.bool false) (.bool false)
          have bb : Below w.heap.size w wb := hbw.trans ((((Below.refl _ wr).alloc (Nat.le_refl _) _).trans ((hba.mono (by simp)).trans (hbb.mono (by omega)))).mono (by omega))
          have bz := bb.trans (p1.below (Nat.le_refl _))
          obtain ⟨y0, y1, y2, y3, y4, y5, y6⟩ := cells_inst (i := (Inst.mk ((k : Int) + 1) (c / 128 % 32) (c / 32768 % 32) (0) (takeZ .i c) false false)) p1.here
          simp only at y0 y1 y2 y3 y4 y5 y6
          generalize hW9 : World.setCell _ ⟨w.heap.size, 6, none⟩ _ = W9 at *
          refine bodyPost_ret (v := .tuple #[.agg (Inst.val (Inst.mk ((k : Int) + 1) (c / 128 % 32) (c / 32768 % 32) (0) (takeZ .i c) false false)), .bool true]) (by simp [results, Tryd.f11, go_sem, Inst.val, y0, y1, y2, y3, y4, y5, y6]) rfl ⟨bz, .inl ⟨k, HK.out, HH.out.trans ‹_›, HN.out, ?_⟩⟩
          have e : decI k c = (Inst.mk ((k : Int) + 1) (c / 128 % 32) (c / 32768 % 32) (0) (takeZ .i c) false false) := by unfold decI; rw [HF.out]; rfl
          rw [e]
        · rename_i hne
          have bb : Below w.heap.size w wb := hbw.trans ((((Below.refl _ wr).alloc (Nat.le_refl _) _).trans ((hba.mono (by simp)).trans (hbb.mono (by omega)))).mono (by omega))
          have hsb := hbb.size
          have HE := HH.out.trans hne
          go_roundw
          case rel =>
            refine ⟨k + 1, by have := HK.out; omega, by go_num, fun j hj => ?_, bb, by omega, cz⟩
            rcases Nat.lt_succ_iff_lt_or_eq.1 hj with h | rfl
            · exact HN.out j h
            · exact HE
          case measure => simp [intOf]; omega
      case b =>
        have im0 : (0 : Int) ≤ takeZ .b c := (dec_imm .b c h0 h1).2.1
        have im1 : (takeZ .b c : Int) < 4294967296 := (dec_imm .b c h0 h1).2.2
        have hok : okF .b (Inst.mk ((k : Int) + 1) (0) (c / 32768 % 32) (c / 1048576 % 32) (takeZ .b c) false false) = true := dec_ok .b ((k : Int) + 1) c h0 h1
        obtain ⟨E, hE⟩ : ∃ E, encF .b (bitsK k) (Inst.mk ((k : Int) + 1) (0) (c / 32768 % 32) (c / 1048576 % 32) (takeZ .b c) false false) = E := ⟨_, rfl⟩
        replace hh : hitK c k = (E == c) := hE ▸ hh
        have HH := Lib.hid hh
        clear hh
        go_wp2_with (first | (go_at_call 22; refine (form_f k 98 .b HK.out HF.out rfl _).mono ?_; rintro e w' ⟨rfl, rfl⟩) | (go_at_call 23; refine (bits_p c _ _ _ h0 h1 (by decide) (by decide) (by decide)).mono ?_; rintro e w' ⟨rfl, rfl⟩) | (go_at_call 25; refine (pow_p _ _ (by decide) (by decide)).mono ?_; rintro e w' ⟨rfl, rfl⟩) | (go_at_call 24; refine (sign_v _ 13 (takeZ .b c) _ (by omega) (by omega) (by decide) (by decide) (sgn_b c h0 h1)).mono ?_; rintro e w' ⟨rfl, rfl⟩) | (go_at_call 14; refine (rmay_b (Inst.mk ((k : Int) + 1) (0) (c / 32768 % 32) (c / 1048576 % 32) (takeZ .b c) false false) _ k HK.out HF.out rfl im0 im1).mono ?_; rw [hok]; rintro e wa ⟨rfl, hba⟩; have ca : wa.heap[wr.heap.size]? = some (.cells (Inst.mk ((k : Int) + 1) (0) (c / 32768 % 32) (c / 1048576 % 32) (takeZ .b c) false false).val 25 (0, 0)) := (hba.block _ (by simp)).trans (World.alloc_heap_new wr _); obtain ⟨q0, q1, q2, q3, q4, q5, q6⟩ := cells_inst ca; simp only at q0 q1 q2 q3 q4 q5 q6) | (go_at_call 15; refine (renc_b (Inst.mk ((k : Int) + 1) (0) (c / 32768 % 32) (c / 1048576 % 32) (takeZ .b c) false false) _ k HK.out HF.out rfl im0 im1 hok).mono ?_; rw [hE]; rintro e wb ⟨rfl, hbb⟩; have hz0 := hba.size; rw [World.size_alloc] at hz0; have hz1 : wr.heap.size < wa.heap.size := hz0; have cb : wb.heap[wr.heap.size]? = some (.cells (Inst.mk ((k : Int) + 1) (0) (c / 32768 % 32) (c / 1048576 % 32) (takeZ .b c) false false).val 25 (0, 0)) := (hbb.block _ hz1).trans ca; have cz : wb.heap[w.heap.size]? = some (.cells zeroI.val 25 (0, 0)) := (hbb.block _ (by omega)).trans ((hba.block _ (Nat.lt_of_lt_of_le hsz (by rw [World.size_alloc]; exact Nat.le_succ _))).trans ((Below.heap_alloc _ _ _ hsz).trans HC.out)); clear q0 q1 q2 q3 q4 q5 q6; obtain ⟨q0, q1, q2, q3, q4, q5, q6⟩ := cells_inst cb; obtain ⟨z0, z1, z2, z3, z4, z5, z6⟩ := cells_inst cz; have fz := free_o cz; simp only at q0 q1 q2 q3 q4 q5 q6; simp only [zeroI] at z0 z1 z2 z3 z4 z5 z6))
        · have p1 := putB_inst cz (.int .i64 ((k : Int) + 1)) (.int .i64 (0)) (.int .i64 (c / 32768 % 32)) (.int .i64 (c / 1048576 % 32)) (.int .u32 (takeZ .b c)) (.bool false) (.bool false)
          have bb : Below w.heap.size w wb := hbw.trans ((((Below.refl _ wr).alloc (Nat.le_refl _) _).trans ((hba.mono (by simp)).trans (hbb.mono (by omega)))).mono (by omega))
          have bz := bb.trans (p1.below (Nat.le_refl _))
          obtain ⟨y0, y1, y2, y3, y4, y5, y6⟩ := cells_inst (i := (Inst.mk ((k : Int) + 1) (0) (c / 32768 % 32) (c / 1048576 % 32) (takeZ .b c) false false)) p1.here
          simp only at y0 y1 y2 y3 y4 y5 y6
          generalize hW9 : World.setCell _ ⟨w.heap.size, 6, none⟩ _ = W9 at *
          refine bodyPost_ret (v := .tuple #[.agg (Inst.val (Inst.mk ((k : Int) + 1) (0) (c / 32768 % 32) (c / 1048576 % 32) (takeZ .b c) false false)), .bool true]) (by simp [results, Tryd.f11, go_sem, Inst.val, y0, y1, y2, y3, y4, y5, y6]) rfl ⟨bz, .inl ⟨k, HK.out, HH.out.trans ‹_›, HN.out, ?_⟩⟩
          have e : decI k c = (Inst.mk ((k : Int) + 1) (0) (c / 32768 % 32) (c / 1048576 % 32) (takeZ .b c) false false) := by unfold decI; rw [HF.out]; rfl
          rw [e]
        · rename_i hne
          have bb : Below w.heap.size w wb := hbw.trans ((((Below.refl _ wr).alloc (Nat.le_refl _) _).trans ((hba.mono (by simp)).trans (hbb.mono (by omega)))).mono (by omega))
          have hsb := hbb.size
          have HE := HH.out.trans hne
          go_roundw
          case rel =>
            refine ⟨k + 1, by have := HK.out; omega, by go_num, fun j hj => ?_, bb, by omega, cz⟩
            rcases Nat.lt_succ_iff_lt_or_eq.1 hj with h | rfl
            · exact HN.out j h
            · exact HE
          case measure => simp [intOf]; omega
      case s =>
        have im0 : (0 : Int) ≤ takeZ .s c := (dec_imm .s c h0 h1).2.1
        have im1 : (takeZ .s c : Int) < 4294967296 := (dec_imm .s c h0 h1).2.2
        have hok : okF .s (Inst.mk ((k : Int) + 1) (0) (c / 32768 % 32) (c / 1048576 % 32) (takeZ .s c) false false) = true := dec_ok .s ((k : Int) + 1) c h0 h1
        obtain ⟨E, hE⟩ : ∃ E, encF .s (bitsK k) (Inst.mk ((k : Int) + 1) (0) (c / 32768 % 32) (c / 1048576 % 32) (takeZ .s c) false false) = E := ⟨_, rfl⟩
        replace hh : hitK c k = (E == c) := hE ▸ hh
        have HH := Lib.hid hh
        clear hh
        go_wp2_with (first | (go_at_call 22; refine (form_f k 115 .s HK.out HF.out rfl _).mono ?_; rintro e w' ⟨rfl, rfl⟩) | (go_at_call 23; refine (bits_p c _ _ _ h0 h1 (by decide) (by decide) (by decide)).mono ?_; rintro e w' ⟨rfl, rfl⟩) | (go_at_call 25; refine (pow_p _ _ (by decide) (by decide)).mono ?_; rintro e w' ⟨rfl, rfl⟩) | (go_at_call 24; refine (sign_v _ 12 (takeZ .s c) _ (by omega) (by omega) (by decide) (by decide) (sgn_s c h0 h1)).mono ?_; rintro e w' ⟨rfl, rfl⟩) | (go_at_call 14; refine (rmay_s (Inst.mk ((k : Int) + 1) (0) (c / 32768 % 32) (c / 1048576 % 32) (takeZ .s c) false false) _ k HK.out HF.out rfl im0 im1).mono ?_; rw [hok]; rintro e wa ⟨rfl, hba⟩; have ca : wa.heap[wr.heap.size]? = some (.cells (Inst.mk ((k : Int) + 1) (0) (c / 32768 % 32) (c / 1048576 % 32) (takeZ .s c) false false).val 25 (0, 0)) := (hba.block _ (by simp)).trans (World.alloc_heap_new wr _); obtain ⟨q0, q1, q2, q3, q4, q5, q6⟩ := cells_inst ca; simp only at q0 q1 q2 q3 q4 q5 q6) | (go_at_call 15; refine (renc_s (Inst.mk ((k : Int) + 1) (0) (c / 32768 % 32) (c / 1048576 % 32) (takeZ .s c) false false) _ k HK.out HF.out rfl im0 im1 hok).mono ?_; rw [hE]; rintro e wb ⟨rfl, hbb⟩; have hz0 := hba.size; rw [World.size_alloc] at hz0; have hz1 : wr.heap.size < wa.heap.size := hz0; have cb : wb.heap[wr.heap.size]? = some (.cells (Inst.mk ((k : Int) + 1) (0) (c / 32768 % 32) (c / 1048576 % 32) (takeZ .s c) false false).val 25 (0, 0)) := (hbb.block _ hz1).trans ca; have cz : wb.heap[w.heap.size]? = some (.cells zeroI.val 25 (0, 0)) := (hbb.block _ (by omega)).trans ((hba.block _ (Nat.lt_of_lt_of_le hsz (by rw [World.size_alloc]; exact Nat.le_succ _))).trans ((Below.heap_alloc _ _ _ hsz).trans HC.out)); clear q0 q1 q2 q3 q4 q5 q6; obtain ⟨q0, q1, q2, q3, q4, q5, q6⟩ := cells_inst cb; obtain ⟨z0, z1, z2, z3, z4, z5, z6⟩ := cells_inst cz; have fz := free_o cz; simp only at q0 q1 q2 q3 q4 q5 q6; simp only [zeroI] at z0 z1 z2 z3 z4 z5 z6))
        · have p1 := putB_inst cz (.int .i64 ((k : Int) + 1)) (.int .i64 (0)) (.int .i64 (c / 32768 % 32)) (.int .i64 (c / 1048576 % 32)) (.int .u32 (takeZ .s c)) (.bool false) (.bool false)
          have bb : Below w.heap.size w wb := hbw.trans ((((Below.refl _ wr).alloc (Nat.le_refl _) _).trans ((hba.mono (by simp)).trans (hbb.mono (by omega)))).mono (by omega))
          have bz := bb.trans (p1.below (Nat.le_refl _))
          obtain ⟨y0, y1, y2, y3, y4, y5, y6⟩ := cells_inst (i := (Inst.mk ((k : Int) + 1) (0) (c / 32768 % 32) (c / 1048576 % 32) (takeZ .s c) false false)) p1.here
          simp only at y0 y1 y2 y3 y4 y5 y6
          generalize hW9 : World.setCell _ ⟨w.heap.size, 6, none⟩ _ = W9 at *
          refine bodyPost_ret (v := .tuple #[.agg (Inst.val (Inst.mk ((k : Int) + 1) (0) (c / 32768 % 32) (c / 1048576 % 32) (takeZ .s c) false false)), .bool true]) (by simp [results, Tryd.f11, go_sem, Inst.val, y0, y1, y2, y3, y4, y5, y6]) rfl ⟨bz, .inl ⟨k, HK.out, HH.out.trans ‹_›, HN.out, ?_⟩⟩
          have e : decI k c = (Inst.mk ((k : Int) + 1) (0) (c / 32768 % 32) (c / 1048576 % 32) (takeZ .s c) false false) := by unfold decI; rw [HF.out]; rfl
          rw [e]
        · rename_i hne
          have bb : Below w.heap.size w wb := hbw.trans ((((Below.refl _ wr).alloc (Nat.le_refl _) _).trans ((hba.mono (by simp)).trans (hbb.mono (by omega)))).mono (by omega))
          have hsb := hbb.size
          have HE := HH.out.trans hne
          go_roundw
          case rel =>
            refine ⟨k + 1, by have := HK.out; omega, by go_num, fun j hj => ?_, bb, by omega, cz⟩
            rcases Nat.lt_succ_iff_lt_or_eq.1 hj with h | rfl
            · exact HN.out j h
            · exact HE
          case measure => simp [intOf]; omega
      case i =>
        have im0 : (0 : Int) ≤ takeZ .i c := (dec_imm .i c h0 h1).2.1
        have im1 : (takeZ .i c : Int) < 4294967296 := (dec_imm .i c h0 h1).2.2
        have hok : okF .i (Inst.mk ((k : Int) + 1) (c / 128 % 32) (c / 32768 % 32) (0) (takeZ .i c) false false) = true := dec_ok .i ((k : Int) + 1) c h0 h1
        obtain ⟨E, hE⟩ : ∃ E, encF .i (bitsK k) (Inst.mk ((k : Int) + 1) (c / 128 % 32) (c / 32768 % 32) (0) (takeZ .i c) false false) = E := ⟨_, rfl⟩
        replace hh : hitK c k = (E == c) := hE ▸ hh
        have HH := Lib.hid hh
        clear hh
        go_wp2_with (first | (go_at_call 22; refine (form_f k 105 .i HK.out HF.out rfl _).mono ?_; rintro e w' ⟨rfl, rfl⟩) | (go_at_call 23; refine (bits_p c _ _ _ h0 h1 (by decide) (by decide) (by decide)).mono ?_; rintro e w' ⟨rfl, rfl⟩) | (go_at_call 25; refine (pow_p _ _ (by decide) (by decide)).mono ?_; rintro e w' ⟨rfl, rfl⟩) | (go_at_call 24; refine (sign_v _ 12 (takeZ .i c) _ (by omega) (by omega) (by decide) (by decide) (sgn_i c h0 h1)).mono ?_; rintro e w' ⟨rfl, rfl⟩) | (go_at_call 14; refine (rmay_i (Inst.mk ((k : Int) + 1) (c / 128 % 32) (c / 32768 % 32) (0) (takeZ .i c) false false) _ k HK.out HF.out rfl im0 im1).mono ?_; rw [hok]; rintro e wa ⟨rfl, hba⟩; have ca : wa.heap[wr.heap.size]? = some (.cells (Inst.mk ((k : Int) + 1) (c / 128 % 32) (c / 32768 % 32) (0) (takeZ .i c) false false).val 25 (0, 0)) := (hba.block _ (by simp)).trans (World.alloc_heap_new wr _); obtain ⟨q0, q1, q2, q3, q4, q5, q6⟩ := cells_inst ca; simp only at q0 q1 q2 q3 q4 q5 q6) | (go_at_call 15; refine (renc_i (Inst.mk ((k : Int) + 1) (c / 128 % 32) (c / 32768 % 32) (0) (takeZ .i c) false false) _ k HK.out HF.out rfl im0 im1 hok).mono ?_; rw [hE]; rintro e wb ⟨rfl, hbb⟩; have hz0 := hba.size; rw [World.size_alloc] at hz0; have hz1 : wr.heap.size < wa.heap.size := hz0; have cb : wb.heap[wr.heap.size]? = some (.cells (Inst.mk ((k : Int) + 1) (c / 128 % 32) (c / 32768 % 32) (0) (takeZ .i c) false false).val 25 (0, 0)) := (hbb.block _ hz1).trans ca; have cz : wb.heap[w.heap.size]? = some (.cells zeroI.val 25 (0, 0)) := (hbb.block _ (by omega)).trans ((hba.block _ (Nat.lt_of_lt_of_le hsz (by rw [World.size_alloc]; exact Nat.le_succ _))).trans ((Below.heap_alloc _ _ _ hsz).trans HC.out)); clear q0 q1 q2 q3 q4 q5 q6; obtain ⟨q0, q1, q2, q3, q4, q5, q6⟩ := cells_inst cb; obtain ⟨z0, z1, z2, z3, z4, z5, z6⟩ := cells_inst cz; have fz := free_o cz; simp only at q0 q1 q2 q3 q4 q5 q6; simp only [zeroI] at z0 z1 z2 z3 z4 z5 z6))
        · have p1 := putB_inst cz (.int .i64 ((k : Int) + 1)) (.int .i64 (c / 128 % 32)) (.int .i64 (c / 32768 % 32)) (.int .i64 (0)) (.int .u32 (takeZ .i c)) (.bool false) (.bool false)
          have bb : Below w.heap.size w wb := hbw.trans ((((Below.refl _ wr).alloc (Nat.le_refl _) _).trans ((hba.mono (by simp)).trans (hbb.mono (by omega)))).mono (by omega))
          have bz := bb.trans (p1.below (Nat.le_refl _))
          obtain ⟨y0, y1, y2, y3, y4, y5, y6⟩ := cells_inst (i := (Inst.mk ((k : Int) + 1) (c / 128 % 32) (c / 32768 % 32) (0) (takeZ .i c) false false)) p1.here
          simp only at y0 y1 y2 y3 y4 y5 y6
          generalize hW9 : World.setCell _ ⟨w.heap.size, 6, none⟩ _ = W9 at *
          refine bodyPost_ret (v := .tuple #[.agg (Inst.val (Inst.mk ((k : Int) + 1) (c / 128 % 32) (c / 32768 % 32) (0) (takeZ .i c) false false)), .bool true]) (by simp [results, Tryd.f11, go_sem, Inst.val, y0, y1, y2, y3, y4, y5, y6]) rfl ⟨bz, .inl ⟨k, HK.out, HH.out.trans ‹_›, HN.out, ?_⟩⟩
          have e : decI k c = (Inst.mk ((k : Int) + 1) (c / 128 % 32) (c / 32768 % 32) (0) (takeZ .i c) false false) := by unfold decI; rw [HF.out]; rfl
          rw [e]
        · rename_i hne
          have bb : Below w.heap.size w wb := hbw.trans ((((Below.refl _ wr).alloc (Nat.le_refl _) _).trans ((hba.mono (by simp)).trans (hbb.mono (by omega)))).mono (by omega))
          have hsb := hbb.size
          have HE := HH.out.trans hne
          go_roundw
          case rel =>
            refine ⟨k + 1, by have := HK.out; omega, by go_num, fun j hj => ?_, bb, by omega, cz⟩
            rcases Nat.lt_succ_iff_lt_or_eq.1 hj with h | rfl
            · exact HN.out j h
            · exact HE
          case measure => simp [intOf]; omega
      case shift =>
        have im0 : (0 : Int) ≤ c / 1048576 % 32 := (dec_imm .shift c h0 h1).2.1
        have im1 : (c / 1048576 % 32 : Int) < 4294967296 := (dec_imm .shift c h0 h1).2.2
        have hok : okF .shift (Inst.mk ((k : Int) + 1) (c / 128 % 32) (c / 32768 % 32) (0) (c / 1048576 % 32) false false) = true := dec_ok .shift ((k : Int) + 1) c h0 h1
        obtain ⟨E, hE⟩ : ∃ E, encF .shift (bitsK k) (Inst.mk ((k : Int) + 1) (c / 128 % 32) (c / 32768 % 32) (0) (c / 1048576 % 32) false false) = E := ⟨_, rfl⟩
        replace hh : hitK c k = (E == c) := hE ▸ hh
        have HH := Lib.hid hh
        clear hh
        go_wp2_with (first | (go_at_call 22; refine (form_f k 104 .shift HK.out HF.out rfl _).mono ?_; rintro e w' ⟨rfl, rfl⟩) | (go_at_call 23; refine (bits_p c _ _ _ h0 h1 (by decide) (by decide) (by decide)).mono ?_; rintro e w' ⟨rfl, rfl⟩) | (go_at_call 25; refine (pow_p _ _ (by decide) (by decide)).mono ?_; rintro e w' ⟨rfl, rfl⟩) | (go_at_call 14; refine (rmay_shift (Inst.mk ((k : Int) + 1) (c / 128 % 32) (c / 32768 % 32) (0) (c / 1048576 % 32) false false) _ k HK.out HF.out rfl im0 im1).mono ?_; rw [hok]; rintro e wa ⟨rfl, hba⟩; have ca : wa.heap[wr.heap.size]? = some (.cells (Inst.mk ((k : Int) + 1) (c / 128 % 32) (c / 32768 % 32) (0) (c / 1048576 % 32) false false).val 25 (0, 0)) := (hba.block _ (by simp)).trans (World.alloc_heap_new wr _); obtain ⟨q0, q1, q2, q3, q4, q5, q6⟩ := cells_inst ca; simp only at q0 q1 q2 q3 q4 q5 q6) | (go_at_call 15; refine (renc_shift (Inst.mk ((k : Int) + 1) (c / 128 % 32) (c / 32768 % 32) (0) (c / 1048576 % 32) false false) _ k HK.out HF.out rfl im0 im1 hok).mono ?_; rw [hE]; rintro e wb ⟨rfl, hbb⟩; have hz0 := hba.size; rw [World.size_alloc] at hz0; have hz1 : wr.heap.size < wa.heap.size := hz0; have cb : wb.heap[wr.heap.size]? = some (.cells (Inst.mk ((k : Int) + 1) (c / 128 % 32) (c / 32768 % 32) (0) (c / 1048576 % 32) false false).val 25 (0, 0)) := (hbb.block _ hz1).trans ca; have cz : wb.heap[w.heap.size]? = some (.cells zeroI.val 25 (0, 0)) := (hbb.block _ (by omega)).trans ((hba.block _ (Nat.lt_of_lt_of_le hsz (by rw [World.size_alloc]; exact Nat.le_succ _))).trans ((Below.heap_alloc _ _ _ hsz).trans HC.out)); clear q0 q1 q2 q3 q4 q5 q6; obtain ⟨q0, q1, q2, q3, q4, q5, q6⟩ := cells_inst cb; obtain ⟨z0, z1, z2, z3, z4, z5, z6⟩ := cells_inst cz; have fz := free_o cz; simp only at q0 q1 q2 q3 q4 q5 q6; simp only [zeroI] at z0 z1 z2 z3 z4 z5 z6))
        · have p1 := putB_inst cz (.int .i64 ((k : Int) + 1)) (.int .i64 (c / 128 % 32)) (.int .i64 (c / 32768 % 32)) (.int .i64 (0)) (.int .u32 (c / 1048576 % 32)) (.bool false) (.bool false)
          have bb : Below w.heap.size w wb := hbw.trans ((((Below.refl _ wr).alloc (Nat.le_refl _) _).trans ((hba.mono (by simp)).trans (hbb.mono (by omega)))).mono (by omega))
          have bz := bb.trans (p1.below (Nat.le_refl _))
          obtain ⟨y0, y1, y2, y3, y4, y5, y6⟩ := cells_inst (i := (Inst.mk ((k : Int) + 1) (c / 128 % 32) (c / 32768 % 32) (0) (c / 1048576 % 32) false false)) p1.here
          simp only at y0 y1 y2 y3 y4 y5 y6
          generalize hW9 : World.setCell _ ⟨w.heap.size, 6, none⟩ _ = W9 at *
          refine bodyPost_ret (v := .tuple #[.agg (Inst.val (Inst.mk ((k : Int) + 1) (c / 128 % 32) (c / 32768 % 32) (0) (c / 1048576 % 32) false false)), .bool true]) (by simp [results, Tryd.f11, go_sem, Inst.val, y0, y1, y2, y3, y4, y5, y6]) rfl ⟨bz, .inl ⟨k, HK.out, HH.out.trans ‹_›, HN.out, ?_⟩⟩
          have e : decI k c = (Inst.mk ((k : Int) + 1) (c / 128 % 32) (c / 32768 % 32) (0) (c / 1048576 % 32) false false) := by unfold decI; rw [HF.out]; rfl
          rw [e]
        · rename_i hne
          have bb : Below w.heap.size w wb := hbw.trans ((((Below.refl _ wr).alloc (Nat.le_refl _) _).trans ((hba.mono (by simp)).trans (hbb.mono (by omega)))).mono (by omega))
          have hsb := hbb.size
          have HE := HH.out.trans hne
          go_roundw
          case rel =>
            refine ⟨k + 1, by have := HK.out; omega, by go_num, fun j hj => ?_, bb, by omega, cz⟩
            rcases Nat.lt_succ_iff_lt_or_eq.1 hj with h | rfl
            · exact HN.out j h
            · exact HE
          case measure => simp [intOf]; omega
      case r =>
        have im0 : (0 : Int) ≤ 0 := (dec_imm .r c h0 h1).2.1
        have im1 : (0 : Int) < 4294967296 := (dec_imm .r c h0 h1).2.2
        have hok : okF .r (Inst.mk ((k : Int) + 1) (c / 128 % 32) (c / 32768 % 32) (c / 1048576 % 32) (0) false false) = true := dec_ok .r ((k : Int) + 1) c h0 h1
        obtain ⟨E, hE⟩ : ∃ E, encF .r (bitsK k) (Inst.mk ((k : Int) + 1) (c / 128 % 32) (c / 32768 % 32) (c / 1048576 % 32) (0) false false) = E := ⟨_, rfl⟩
        replace hh : hitK c k = (E == c) := hE ▸ hh
        have HH := Lib.hid hh
        clear hh
        go_wp2_with (first | (go_at_call 22; refine (form_f k 114 .r HK.out HF.out rfl _).mono ?_; rintro e w' ⟨rfl, rfl⟩) | (go_at_call 23; refine (bits_p c _ _ _ h0 h1 (by decide) (by decide) (by decide)).mono ?_; rintro e w' ⟨rfl, rfl⟩) | (go_at_call 25; refine (pow_p _ _ (by decide) (by decide)).mono ?_; rintro e w' ⟨rfl, rfl⟩) | (go_at_call 14; refine (rmay_r (Inst.mk ((k : Int) + 1) (c / 128 % 32) (c / 32768 % 32) (c / 1048576 % 32) (0) false false) _ k HK.out HF.out rfl im0 im1).mono ?_; rw [hok]; rintro e wa ⟨rfl, hba⟩; have ca : wa.heap[wr.heap.size]? = some (.cells (Inst.mk ((k : Int) + 1) (c / 128 % 32) (c / 32768 % 32) (c / 1048576 % 32) (0) false false).val 25 (0, 0)) := (hba.block _ (by simp)).trans (World.alloc_heap_new wr _); obtain ⟨q0, q1, q2, q3, q4, q5, q6⟩ := cells_inst ca; simp only at q0 q1 q2 q3 q4 q5 q6) | (go_at_call 15; refine (renc_r (Inst.mk ((k : Int) + 1) (c / 128 % 32) (c / 32768 % 32) (c / 1048576 % 32) (0) false false) _ k HK.out HF.out rfl im0 im1 hok).mono ?_; rw [hE]; rintro e wb ⟨rfl, hbb⟩; have hz0 := hba.size; rw [World.size_alloc] at hz0; have hz1 : wr.heap.size < wa.heap.size := hz0; have cb : wb.heap[wr.heap.size]? = some (.cells (Inst.mk ((k : Int) + 1) (c / 128 % 32) (c / 32768 % 32) (c / 1048576 % 32) (0) false false).val 25 (0, 0)) := (hbb.block _ hz1).trans ca; have cz : wb.heap[w.heap.size]? = some (.cells zeroI.val 25 (0, 0)) := (hbb.block _ (by omega)).trans ((hba.block _ (Nat.lt_of_lt_of_le hsz (by rw [World.size_alloc]; exact Nat.le_succ _))).trans ((Below.heap_alloc _ _ _ hsz).trans HC.out)); clear q0 q1 q2 q3 q4 q5 q6; obtain ⟨q0, q1, q2, q3, q4, q5, q6⟩ := cells_inst cb; obtain ⟨z0, z1, z2, z3, z4, z5, z6⟩ := cells_inst cz; have fz := free_o cz; simp only at q0 q1 q2 q3 q4 q5 q6; simp only [zeroI] at z0 z1 z2 z3 z4 z5 z6))
        · have p1 := putB_inst cz (.int .i64 ((k : Int) + 1)) (.int .i64 (c / 128 % 32)) (.int .i64 (c / 32768 % 32)) (.int .i64 (c / 1048576 % 32)) (.int .u32 (0)) (.bool false) (.bool false)
          have bb : Below w.heap.size w wb := hbw.trans ((((Below.refl _ wr).alloc (Nat.le_refl _) _).trans ((hba.mono (by simp)).trans (hbb.mono (by omega)))).mono (by omega))
          have bz := bb.trans (p1.below (Nat.le_refl _))
          obtain ⟨y0, y1, y2, y3, y4, y5, y6⟩ := cells_inst (i := (Inst.mk ((k : Int) + 1) (c / 128 % 32) (c / 32768 % 32) (c / 1048576 % 32) (0) false false)) p1.here
          simp only at y0 y1 y2 y3 y4 y5 y6
          generalize hW9 : World.setCell _ ⟨w.heap.size, 6, none⟩ _ = W9 at *
          refine bodyPost_ret (v := .tuple #[.agg (Inst.val (Inst.mk ((k : Int) + 1) (c / 128 % 32) (c / 32768 % 32) (c / 1048576 % 32) (0) false false)), .bool true]) (by simp [results, Tryd.f11, go_sem, Inst.val, y0, y1, y2, y3, y4, y5, y6]) rfl ⟨bz, .inl ⟨k, HK.out, HH.out.trans ‹_›, HN.out, ?_⟩⟩
          have e : decI k c = (Inst.mk ((k : Int) + 1) (c / 128 % 32) (c / 32768 % 32) (c / 1048576 % 32) (0) false false) := by unfold decI; rw [HF.out]; rfl
          rw [e]
        · rename_i hne
          have bb : Below w.heap.size w wb := hbw.trans ((((Below.refl _ wr).alloc (Nat.le_refl _) _).trans ((hba.mono (by simp)).trans (hbb.mono (by omega)))).mono (by omega))
          have hsb := hbb.size
          have HE := HH.out.trans hne
          go_roundw
          case rel =>
            refine ⟨k + 1, by have := HK.out; omega, by go_num, fun j hj => ?_, bb, by omega, cz⟩
            rcases Nat.lt_succ_iff_lt_or_eq.1 hj with h | rfl
            · exact HN.out j h
            · exact HE
          case measure => simp [intOf]; omega
      case fence =>
        have im0 : (0 : Int) ≤ c / 1048576 % 256 := (dec_imm .fence c h0 h1).2.1
        have im1 : (c / 1048576 % 256 : Int) < 4294967296 := (dec_imm .fence c h0 h1).2.2
        have hok : okF .fence (Inst.mk ((k : Int) + 1) (0) (0) (0) (c / 1048576 % 256) false false) = true := dec_ok .fence ((k : Int) + 1) c h0 h1
        obtain ⟨E, hE⟩ : ∃ E, encF .fence (bitsK k) (Inst.mk ((k : Int) + 1) (0) (0) (0) (c / 1048576 % 256) false false) = E := ⟨_, rfl⟩
        replace hh : hitK c k = (E == c) := hE ▸ hh
        have HH := Lib.hid hh
        clear hh
        go_wp2_with (first | (go_at_call 22; refine (form_f k 102 .fence HK.out HF.out rfl _).mono ?_; rintro e w' ⟨rfl, rfl⟩) | (go_at_call 23; refine (bits_p c _ _ _ h0 h1 (by decide) (by decide) (by decide)).mono ?_; rintro e w' ⟨rfl, rfl⟩) | (go_at_call 25; refine (pow_p _ _ (by decide) (by decide)).mono ?_; rintro e w' ⟨rfl, rfl⟩) | (go_at_call 14; refine (rmay_fence (Inst.mk ((k : Int) + 1) (0) (0) (0) (c / 1048576 % 256) false false) _ k HK.out HF.out rfl im0 im1).mono ?_; rw [hok]; rintro e wa ⟨rfl, hba⟩; have ca : wa.heap[wr.heap.size]? = some (.cells (Inst.mk ((k : Int) + 1) (0) (0) (0) (c / 1048576 % 256) false false).val 25 (0, 0)) := (hba.block _ (by simp)).trans (World.alloc_heap_new wr _); obtain ⟨q0, q1, q2, q3, q4, q5, q6⟩ := cells_inst ca; simp only at q0 q1 q2 q3 q4 q5 q6) | (go_at_call 15; refine (renc_fence (Inst.mk ((k : Int) + 1) (0) (0) (0) (c / 1048576 % 256) false false) _ k HK.out HF.out rfl im0 im1 hok).mono ?_; rw [hE]; rintro e wb ⟨rfl, hbb⟩; have hz0 := hba.size; rw [World.size_alloc] at hz0; have hz1 : wr.heap.size < wa.heap.size := hz0; have cb : wb.heap[wr.heap.size]? = some (.cells (Inst.mk ((k : Int) + 1) (0) (0) (0) (c / 1048576 % 256) false false).val 25 (0, 0)) := (hbb.block _ hz1).trans ca; have cz : wb.heap[w.heap.size]? = some (.cells zeroI.val 25 (0, 0)) := (hbb.block _ (by omega)).trans ((hba.block _ (Nat.lt_of_lt_of_le hsz (by rw [World.size_alloc]; exact Nat.le_succ _))).trans ((Below.heap_alloc _ _ _ hsz).trans HC.out)); clear q0 q1 q2 q3 q4 q5 q6; obtain ⟨q0, q1, q2, q3, q4, q5, q6⟩ := cells_inst cb; obtain ⟨z0, z1, z2, z3, z4, z5, z6⟩ := cells_inst cz; have fz := free_o cz; simp only at q0 q1 q2 q3 q4 q5 q6; simp only [zeroI] at z0 z1 z2 z3 z4 z5 z6))
        · have p1 := putB_inst cz (.int .i64 ((k : Int) + 1)) (.int .i64 (0)) (.int .i64 (0)) (.int .i64 (0)) (.int .u32 (c / 1048576 % 256)) (.bool false) (.bool false)
          have bb : Below w.heap.size w wb := hbw.trans ((((Below.refl _ wr).alloc (Nat.le_refl _) _).trans ((hba.mono (by simp)).trans (hbb.mono (by omega)))).mono (by omega))
          have bz := bb.trans (p1.below (Nat.le_refl _))
          obtain ⟨y0, y1, y2, y3, y4, y5, y6⟩ := cells_inst (i := (Inst.mk ((k : Int) + 1) (0) (0) (0) (c / 1048576 % 256) false false)) p1.here
          simp only at y0 y1 y2 y3 y4 y5 y6
          generalize hW9 : World.setCell _ ⟨w.heap.size, 6, none⟩ _ = W9 at *
          refine bodyPost_ret (v := .tuple #[.agg (Inst.val (Inst.mk ((k : Int) + 1) (0) (0) (0) (c / 1048576 % 256) false false)), .bool true]) (by simp [results, Tryd.f11, go_sem, Inst.val, y0, y1, y2, y3, y4, y5, y6]) rfl ⟨bz, .inl ⟨k, HK.out, HH.out.trans ‹_›, HN.out, ?_⟩⟩
          have e : decI k c = (Inst.mk ((k : Int) + 1) (0) (0) (0) (c / 1048576 % 256) false false) := by unfold decI; rw [HF.out]; rfl
          rw [e]
        · rename_i hne
          have bb : Below w.heap.size w wb := hbw.trans ((((Below.refl _ wr).alloc (Nat.le_refl _) _).trans ((hba.mono (by simp)).trans (hbb.mono (by omega)))).mono (by omega))
          have hsb := hbb.size
          have HE := HH.out.trans hne
          go_roundw
          case rel =>
            refine ⟨k + 1, by have := HK.out; omega, by go_num, fun j hj => ?_, bb, by omega, cz⟩
            rcases Nat.lt_succ_iff_lt_or_eq.1 hj with h | rfl
            · exact HN.out j h
            · exact HE
          case measure => simp [intOf]; omega
      case all =>
        have im0 : (0 : Int) ≤ 0 := (dec_imm .all c h0 h1).2.1
        have im1 : (0 : Int) < 4294967296 := (dec_imm .all c h0 h1).2.2
        have hok : okF .all (Inst.mk ((k : Int) + 1) (0) (0) (0) (0) false false) = true := dec_ok .all ((k : Int) + 1) c h0 h1
        obtain ⟨E, hE⟩ : ∃ E, encF .all (bitsK k) (Inst.mk ((k : Int) + 1) (0) (0) (0) (0) false false) = E := ⟨_, rfl⟩
        replace hh : hitK c k = (E == c) := hE ▸ hh
        have HH := Lib.hid hh
        clear hh
        go_wp2_with (first | (go_at_call 22; refine (form_f k 101 .all HK.out HF.out rfl _).mono ?_; rintro e w' ⟨rfl, rfl⟩) | (go_at_call 23; refine (bits_p c _ _ _ h0 h1 (by decide) (by decide) (by decide)).mono ?_; rintro e w' ⟨rfl, rfl⟩) | (go_at_call 25; refine (pow_p _ _ (by decide) (by decide)).mono ?_; rintro e w' ⟨rfl, rfl⟩) | (go_at_call 14; refine (rmay_all (Inst.mk ((k : Int) + 1) (0) (0) (0) (0) false false) _ k HK.out HF.out rfl im0 im1).mono ?_; rw [hok]; rintro e wa ⟨rfl, hba⟩; have ca : wa.heap[wr.heap.size]? = some (.cells (Inst.mk ((k : Int) + 1) (0) (0) (0) (0) false false).val 25 (0, 0)) := (hba.block _ (by simp)).trans (World.alloc_heap_new wr _); obtain ⟨q0, q1, q2, q3, q4, q5, q6⟩ := cells_inst ca; simp only at q0 q1 q2 q3 q4 q5 q6) | (go_at_call 15; refine (renc_all (Inst.mk ((k : Int) + 1) (0) (0) (0) (0) false false) _ k HK.out HF.out rfl im0 im1 hok).mono ?_; rw [hE]; rintro e wb ⟨rfl, hbb⟩; have hz0 := hba.size; rw [World.size_alloc] at hz0; have hz1 : wr.heap.size < wa.heap.size := hz0; have cb : wb.heap[wr.heap.size]? = some (.cells (Inst.mk ((k : Int) + 1) (0) (0) (0) (0) false false).val 25 (0, 0)) := (hbb.block _ hz1).trans ca; have cz : wb.heap[w.heap.size]? = some (.cells zeroI.val 25 (0, 0)) := (hbb.block _ (by omega)).trans ((hba.block _ (Nat.lt_of_lt_of_le hsz (by rw [World.size_alloc]; exact Nat.le_succ _))).trans ((Below.heap_alloc _ _ _ hsz).trans HC.out)); clear q0 q1 q2 q3 q4 q5 q6; obtain ⟨q0, q1, q2, q3, q4, q5, q6⟩ := cells_inst cb; obtain ⟨z0, z1, z2, z3, z4, z5, z6⟩ := cells_inst cz; have fz := free_o cz; simp only at q0 q1 q2 q3 q4 q5 q6; simp only [zeroI] at z0 z1 z2 z3 z4 z5 z6))
        · have p1 := putB_inst cz (.int .i64 ((k : Int) + 1)) (.int .i64 (0)) (.int .i64 (0)) (.int .i64 (0)) (.int .u32 (0)) (.bool false) (.bool false)
          have bb : Below w.heap.size w wb := hbw.trans ((((Below.refl _ wr).alloc (Nat.le_refl _) _).trans ((hba.mono (by simp)).trans (hbb.mono (by omega)))).mono (by omega))
          have bz := bb.trans (p1.below (Nat.le_refl _))
          obtain ⟨y0, y1, y2, y3, y4, y5, y6⟩ := cells_inst (i := (Inst.mk ((k : Int) + 1) (0) (0) (0) (0) false false)) p1.here
          simp only at y0 y1 y2 y3 y4 y5 y6
          generalize hW9 : World.setCell _ ⟨w.heap.size, 6, none⟩ _ = W9 at *
          refine bodyPost_ret (v := .tuple #[.agg (Inst.val (Inst.mk ((k : Int) + 1) (0) (0) (0) (0) false false)), .bool true]) (by simp [results, Tryd.f11, go_sem, Inst.val, y0, y1, y2, y3, y4, y5, y6]) rfl ⟨bz, .inl ⟨k, HK.out, HH.out.trans ‹_›, HN.out, ?_⟩⟩
          have e : decI k c = (Inst.mk ((k : Int) + 1) (0) (0) (0) (0) false false) := by unfold decI; rw [HF.out]; rfl
          rw [e]
        · rename_i hne
          have bb : Below w.heap.size w wb := hbw.trans ((((Below.refl _ wr).alloc (Nat.le_refl _) _).trans ((hba.mono (by simp)).trans (hbb.mono (by omega)))).mono (by omega))
          have hsb := hbb.size
          have HE := HH.out.trans hne
          go_roundw
          case rel =>
            refine ⟨k + 1, by have := HK.out; omega, by go_num, fun j hj => ?_, bb, by omega, cz⟩
            rcases Nat.lt_succ_iff_lt_or_eq.1 hj with h | rfl
            · exact HN.out j h
            · exact HE
          case measure => simp [intOf]; omega
      case lr =>
        have im0 : (0 : Int) ≤ 0 := (dec_imm .lr c h0 h1).2.1
        have im1 : (0 : Int) < 4294967296 := (dec_imm .lr c h0 h1).2.2
        have hok : okF .lr (Inst.mk ((k : Int) + 1) (c / 128 % 32) (c / 32768 % 32) (0) (0) (c / 67108864 % 2 == 1) (c / 33554432 % 2 == 1)) = true := dec_ok .lr ((k : Int) + 1) c h0 h1
        obtain ⟨E, hE⟩ : ∃ E, encF .lr (bitsK k) (Inst.mk ((k : Int) + 1) (c / 128 % 32) (c / 32768 % 32) (0) (0) (c / 67108864 % 2 == 1) (c / 33554432 % 2 == 1)) = E := ⟨_, rfl⟩
        replace hh : hitK c k = (E == c) := hE ▸ hh
        have HH := Lib.hid hh
        clear hh
        go_wp2_with (first | (go_at_call 22; refine (form_f k 113 .lr HK.out HF.out rfl _).mono ?_; rintro e w' ⟨rfl, rfl⟩) | (go_at_call 23; refine (bits_p c _ _ _ h0 h1 (by decide) (by decide) (by decide)).mono ?_; rintro e w' ⟨rfl, rfl⟩) | (go_at_call 25; refine (pow_p _ _ (by decide) (by decide)).mono ?_; rintro e w' ⟨rfl, rfl⟩) | (go_at_call 14; refine (rmay_lr (Inst.mk ((k : Int) + 1) (c / 128 % 32) (c / 32768 % 32) (0) (0) (c / 67108864 % 2 == 1) (c / 33554432 % 2 == 1)) _ k HK.out HF.out rfl im0 im1).mono ?_; rw [hok]; rintro e wa ⟨rfl, hba⟩; have ca : wa.heap[wr.heap.size]? = some (.cells (Inst.mk ((k : Int) + 1) (c / 128 % 32) (c / 32768 % 32) (0) (0) (c / 67108864 % 2 == 1) (c / 33554432 % 2 == 1)).val 25 (0, 0)) := (hba.block _ (by simp)).trans (World.alloc_heap_new wr _); obtain ⟨q0, q1, q2, q3, q4, q5, q6⟩ := cells_inst ca; simp only at q0 q1 q2 q3 q4 q5 q6) | (go_at_call 15; refine (renc_lr (Inst.mk ((k : Int) + 1) (c / 128 % 32) (c / 32768 % 32) (0) (0) (c / 67108864 % 2 == 1) (c / 33554432 % 2 == 1)) _ k HK.out HF.out rfl im0 im1 hok).mono ?_; rw [hE]; rintro e wb ⟨rfl, hbb⟩; have hz0 := hba.size; rw [World.size_alloc] at hz0; have hz1 : wr.heap.size < wa.heap.size := hz0; have cb : wb.heap[wr.heap.size]? = some (.cells (Inst.mk ((k : Int) + 1) (c / 128 % 32) (c / 32768 % 32) (0) (0) (c / 67108864 % 2 == 1) (c / 33554432 % 2 == 1)).val 25 (0, 0)) := (hbb.block _ hz1).trans ca; have cz : wb.heap[w.heap.size]? = some (.cells zeroI.val 25 (0, 0)) := (hbb.block _ (by omega)).trans ((hba.block _ (Nat.lt_of_lt_of_le hsz (by rw [World.size_alloc]; exact Nat.le_succ _))).trans ((Below.heap_alloc _ _ _ hsz).trans HC.out)); clear q0 q1 q2 q3 q4 q5 q6; obtain ⟨q0, q1, q2, q3, q4, q5, q6⟩ := cells_inst cb; obtain ⟨z0, z1, z2, z3, z4, z5, z6⟩ := cells_inst cz; have fz := free_o cz; simp only at q0 q1 q2 q3 q4 q5 q6; simp only [zeroI] at z0 z1 z2 z3 z4 z5 z6))
        · have p1 := putB_inst cz (.int .i64 ((k : Int) + 1)) (.int .i64 (c / 128 % 32)) (.int .i64 (c / 32768 % 32)) (.int .i64 (0)) (.int .u32 (0)) (.bool (c / 67108864 % 2 == 1)) (.bool (c / 33554432 % 2 == 1))
          have bb : Below w.heap.size w wb := hbw.trans ((((Below.refl _ wr).alloc (Nat.le_refl _) _).trans ((hba.mono (by simp)).trans (hbb.mono (by omega)))).mono (by omega))
          have bz := bb.trans (p1.below (Nat.le_refl _))
          obtain ⟨y0, y1, y2, y3, y4, y5, y6⟩ := cells_inst (i := (Inst.mk ((k : Int) + 1) (c / 128 % 32) (c / 32768 % 32) (0) (0) (c / 67108864 % 2 == 1) (c / 33554432 % 2 == 1))) p1.here
          simp only at y0 y1 y2 y3 y4 y5 y6
          generalize hW9 : World.setCell _ ⟨w.heap.size, 6, none⟩ _ = W9 at *
          refine bodyPost_ret (v := .tuple #[.agg (Inst.val (Inst.mk ((k : Int) + 1) (c / 128 % 32) (c / 32768 % 32) (0) (0) (c / 67108864 % 2 == 1) (c / 33554432 % 2 == 1))), .bool true]) (by simp [results, Tryd.f11, go_sem, Inst.val, y0, y1, y2, y3, y4, y5, y6]) rfl ⟨bz, .inl ⟨k, HK.out, HH.out.trans ‹_›, HN.out, ?_⟩⟩
          have e : decI k c = (Inst.mk ((k : Int) + 1) (c / 128 % 32) (c / 32768 % 32) (0) (0) (c / 67108864 % 2 == 1) (c / 33554432 % 2 == 1)) := by unfold decI; rw [HF.out]; rfl
          rw [e]
        · rename_i hne
          have bb : Below w.heap.size w wb := hbw.trans ((((Below.refl _ wr).alloc (Nat.le_refl _) _).trans ((hba.mono (by simp)).trans (hbb.mono (by omega)))).mono (by omega))
          have hsb := hbb.size
          have HE := HH.out.trans hne
          go_roundw
          case rel =>
            refine ⟨k + 1, by have := HK.out; omega, by go_num, fun j hj => ?_, bb, by omega, cz⟩
            rcases Nat.lt_succ_iff_lt_or_eq.1 hj with h | rfl
            · exact HN.out j h
            · exact HE
          case measure => simp [intOf]; omega
      case a =>
        have im0 : (0 : Int) ≤ 0 := (dec_imm .a c h0 h1).2.1
        have im1 : (0 : Int) < 4294967296 := (dec_imm .a c h0 h1).2.2
        have hok : okF .a (Inst.mk ((k : Int) + 1) (c / 128 % 32) (c / 32768 % 32) (c / 1048576 % 32) (0) (c / 67108864 % 2 == 1) (c / 33554432 % 2 == 1)) = true := dec_ok .a ((k : Int) + 1) c h0 h1
        obtain ⟨E, hE⟩ : ∃ E, encF .a (bitsK k) (Inst.mk ((k : Int) + 1) (c / 128 % 32) (c / 32768 % 32) (c / 1048576 % 32) (0) (c / 67108864 % 2 == 1) (c / 33554432 % 2 == 1)) = E := ⟨_, rfl⟩
        replace hh : hitK c k = (E == c) := hE ▸ hh
        have HH := Lib.hid hh
        clear hh
        go_wp2_with (first | (go_at_call 22; refine (form_f k 97 .a HK.out HF.out rfl _).mono ?_; rintro e w' ⟨rfl, rfl⟩) | (go_at_call 23; refine (bits_p c _ _ _ h0 h1 (by decide) (by decide) (by decide)).mono ?_; rintro e w' ⟨rfl, rfl⟩) | (go_at_call 25; refine (pow_p _ _ (by decide) (by decide)).mono ?_; rintro e w' ⟨rfl, rfl⟩) | (go_at_call 14; refine (rmay_a (Inst.mk ((k : Int) + 1) (c / 128 % 32) (c / 32768 % 32) (c / 1048576 % 32) (0) (c / 67108864 % 2 == 1) (c / 33554432 % 2 == 1)) _ k HK.out HF.out rfl im0 im1).mono ?_; rw [hok]; rintro e wa ⟨rfl, hba⟩; have ca : wa.heap[wr.heap.size]? = some (.cells (Inst.mk ((k : Int) + 1) (c / 128 % 32) (c / 32768 % 32) (c / 1048576 % 32) (0) (c / 67108864 % 2 == 1) (c / 33554432 % 2 == 1)).val 25 (0, 0)) := (hba.block _ (by simp)).trans (World.alloc_heap_new wr _); obtain ⟨q0, q1, q2, q3, q4, q5, q6⟩ := cells_inst ca; simp only at q0 q1 q2 q3 q4 q5 q6) | (go_at_call 15; refine (renc_a (Inst.mk ((k : Int) + 1) (c / 128 % 32) (c / 32768 % 32) (c / 1048576 % 32) (0) (c / 67108864 % 2 == 1) (c / 33554432 % 2 == 1)) _ k HK.out HF.out rfl im0 im1 hok).mono ?_; rw [hE]; rintro e wb ⟨rfl, hbb⟩; have hz0 := hba.size; rw [World.size_alloc] at hz0; have hz1 : wr.heap.size < wa.heap.size := hz0; have cb : wb.heap[wr.heap.size]? = some (.cells (Inst.mk ((k : Int) + 1) (c / 128 % 32) (c / 32768 % 32) (c / 1048576 % 32) (0) (c / 67108864 % 2 == 1) (c / 33554432 % 2 == 1)).val 25 (0, 0)) := (hbb.block _ hz1).trans ca; have cz : wb.heap[w.heap.size]? = some (.cells zeroI.val 25 (0, 0)) := (hbb.block _ (by omega)).trans ((hba.block _ (Nat.lt_of_lt_of_le hsz (by rw [World.size_alloc]; exact Nat.le_succ _))).trans ((Below.heap_alloc _ _ _ hsz).trans HC.out)); clear q0 q1 q2 q3 q4 q5 q6; obtain ⟨q0, q1, q2, q3, q4, q5, q6⟩ := cells_inst cb; obtain ⟨z0, z1, z2, z3, z4, z5, z6⟩ := cells_inst cz; have fz := free_o cz; simp only at q0 q1 q2 q3 q4 q5 q6; simp only [zeroI] at z0 z1 z2 z3 z4 z5 z6))
        · have p1 := putB_inst cz (.int .i64 ((k : Int) + 1)) (.int .i64 (c / 128 % 32)) (.int .i64 (c / 32768 % 32)) (.int .i64 (c / 1048576 % 32)) (.int .u32 (0)) (.bool (c / 67108864 % 2 == 1)) (.bool (c / 33554432 % 2 == 1))
          have bb : Below w.heap.size w wb := hbw.trans ((((Below.refl _ wr).alloc (Nat.le_refl _) _).trans ((hba.mono (by simp)).trans (hbb.mono (by omega)))).mono (by omega))
          have bz := bb.trans (p1.below (Nat.le_refl _))
          obtain ⟨y0, y1, y2, y3, y4, y5, y6⟩ := cells_inst (i := (Inst.mk ((k : Int) + 1) (c / 128 % 32) (c / 32768 % 32) (c / 1048576 % 32) (0) (c / 67108864 % 2 == 1) (c / 33554432 % 2 == 1))) p1.here
          simp only at y0 y1 y2 y3 y4 y5 y6
          generalize hW9 : World.setCell _ ⟨w.heap.size, 6, none⟩ _ = W9 at *
          refine bodyPost_ret (v := .tuple #[.agg (Inst.val (Inst.mk ((k : Int) + 1) (c / 128 % 32) (c / 32768 % 32) (c / 1048576 % 32) (0) (c / 67108864 % 2 == 1) (c / 33554432 % 2 == 1))), .bool true]) (by simp [results, Tryd.f11, go_sem, Inst.val, y0, y1, y2, y3, y4, y5, y6]) rfl ⟨bz, .inl ⟨k, HK.out, HH.out.trans ‹_›, HN.out, ?_⟩⟩
          have e : decI k c = (Inst.mk ((k : Int) + 1) (c / 128 % 32) (c / 32768 % 32) (c / 1048576 % 32) (0) (c / 67108864 % 2 == 1) (c / 33554432 % 2 == 1)) := by unfold decI; rw [HF.out]; rfl
          rw [e]
        · rename_i hne
          have bb : Below w.heap.size w wb := hbw.trans ((((Below.refl _ wr).alloc (Nat.le_refl _) _).trans ((hba.mono (by simp)).trans (hbb.mono (by omega)))).mono (by omega))
          have hsb := hbb.size
          have HE := HH.out.trans hne
          go_roundw
          case rel =>
            refine ⟨k + 1, by have := HK.out; omega, by go_num, fun j hj => ?_, bb, by omega, cz⟩
            rcases Nat.lt_succ_iff_lt_or_eq.1 hj with h | rfl
            · exact HN.out j h
            · exact HE
          case measure => simp [intOf]; omega
      case csr =>
        have im0 : (0 : Int) ≤ 0 := (dec_imm .csr c h0 h1).2.1
        have im1 : (0 : Int) < 4294967296 := (dec_imm .csr c h0 h1).2.2
        have hok : okF .csr (Inst.mk ((k : Int) + 1) (c / 128 % 32) (0) (0) (0) false false) = true := dec_ok .csr ((k : Int) + 1) c h0 h1
        obtain ⟨E, hE⟩ : ∃ E, encF .csr (bitsK k) (Inst.mk ((k : Int) + 1) (c / 128 % 32) (0) (0) (0) false false) = E := ⟨_, rfl⟩
        replace hh : hitK c k = (E == c) := hE ▸ hh
        have HH := Lib.hid hh
        clear hh
        go_wp2_with (first | (go_at_call 22; refine (form_f k 99 .csr HK.out HF.out rfl _).mono ?_; rintro e w' ⟨rfl, rfl⟩) | (go_at_call 23; refine (bits_p c _ _ _ h0 h1 (by decide) (by decide) (by decide)).mono ?_; rintro e w' ⟨rfl, rfl⟩) | (go_at_call 25; refine (pow_p _ _ (by decide) (by decide)).mono ?_; rintro e w' ⟨rfl, rfl⟩) | (go_at_call 14; refine (rmay_csr (Inst.mk ((k : Int) + 1) (c / 128 % 32) (0) (0) (0) false false) _ k HK.out HF.out rfl im0 im1).mono ?_; rw [hok]; rintro e wa ⟨rfl, hba⟩; have ca : wa.heap[wr.heap.size]? = some (.cells (Inst.mk ((k : Int) + 1) (c / 128 % 32) (0) (0) (0) false false).val 25 (0, 0)) := (hba.block _ (by simp)).trans (World.alloc_heap_new wr _); obtain ⟨q0, q1, q2, q3, q4, q5, q6⟩ := cells_inst ca; simp only at q0 q1 q2 q3 q4 q5 q6) | (go_at_call 15; refine (renc_csr (Inst.mk ((k : Int) + 1) (c / 128 % 32) (0) (0) (0) false false) _ k HK.out HF.out rfl im0 im1 hok).mono ?_; rw [hE]; rintro e wb ⟨rfl, hbb⟩; have hz0 := hba.size; rw [World.size_alloc] at hz0; have hz1 : wr.heap.size < wa.heap.size := hz0; have cb : wb.heap[wr.heap.size]? = some (.cells (Inst.mk ((k : Int) + 1) (c / 128 % 32) (0) (0) (0) false false).val 25 (0, 0)) := (hbb.block _ hz1).trans ca; have cz : wb.heap[w.heap.size]? = some (.cells zeroI.val 25 (0, 0)) := (hbb.block _ (by omega)).trans ((hba.block _ (Nat.lt_of_lt_of_le hsz (by rw [World.size_alloc]; exact Nat.le_succ _))).trans ((Below.heap_alloc _ _ _ hsz).trans HC.out)); clear q0 q1 q2 q3 q4 q5 q6; obtain ⟨q0, q1, q2, q3, q4, q5, q6⟩ := cells_inst cb; obtain ⟨z0, z1, z2, z3, z4, z5, z6⟩ := cells_inst cz; have fz := free_o cz; simp only at q0 q1 q2 q3 q4 q5 q6; simp only [zeroI] at z0 z1 z2 z3 z4 z5 z6))
        · have p1 := putB_inst cz (.int .i64 ((k : Int) + 1)) (.int .i64 (c / 128 % 32)) (.int .i64 (0)) (.int .i64 (0)) (.int .u32 (0)) (.bool false) (.bool false)
          have bb : Below w.heap.size w wb := hbw.trans ((((Below.refl _ wr).alloc (Nat.le_refl _) _).trans ((hba.mono (by simp)).trans (hbb.mono (by omega)))).mono (by omega))
          have bz := bb.trans (p1.below (Nat.le_refl _))
          obtain ⟨y0, y1, y2, y3, y4, y5, y6⟩ := cells_inst (i := (Inst.mk ((k : Int) + 1) (c / 128 % 32) (0) (0) (0) false false)) p1.here
          simp only at y0 y1 y2 y3 y4 y5 y6
          generalize hW9 : World.setCell _ ⟨w.heap.size, 6, none⟩ _ = W9 at *
          refine bodyPost_ret (v := .tuple #[.agg (Inst.val (Inst.mk ((k : Int) + 1) (c / 128 % 32) (0) (0) (0) false false)), .bool true]) (by simp [results, Tryd.f11, go_sem, Inst.val, y0, y1, y2, y3, y4, y5, y6]) rfl ⟨bz, .inl ⟨k, HK.out, HH.out.trans ‹_›, HN.out, ?_⟩⟩
          have e : decI k c = (Inst.mk ((k : Int) + 1) (c / 128 % 32) (0) (0) (0) false false) := by unfold decI; rw [HF.out]; rfl
          rw [e]
        · rename_i hne
          have bb : Below w.heap.size w wb := hbw.trans ((((Below.refl _ wr).alloc (Nat.le_refl _) _).trans ((hba.mono (by simp)).trans (hbb.mono (by omega)))).mono (by omega))
          have hsb := hbb.size
          have HE := HH.out.trans hne
          go_roundw
          case rel =>
            refine ⟨k + 1, by have := HK.out; omega, by go_num, fun j hj => ?_, bb, by omega, cz⟩
            rcases Nat.lt_succ_iff_lt_or_eq.1 hj with h | rfl
            · exact HN.out j h
            · exact HE
          case measure => simp [intOf]; omega
    · obtain rfl : k = 59 := by omega
      have cz := HC.out
      obtain ⟨z0, z1, z2, z3, z4, z5, z6⟩ := cells_inst cz
      have fz := free_o cz
      simp only [zeroI] at z0 z1 z2 z3 z4 z5 z6
      go_wp2
      have p1 := putB_inst cz (.int .i64 0) (.int .i64 0) (.int .i64 0) (.int .i64 0) (.int .u32 0) (.bool false) (.bool false)
      have bz := hbw.trans (p1.below (Nat.le_refl _))
      obtain ⟨y0, y1, y2, y3, y4, y5, y6⟩ := cells_inst (i := zeroI) p1.here
      simp only [zeroI] at y0 y1 y2 y3 y4 y5 y6
      generalize hW9 : World.setCell _ ⟨w.heap.size, 6, none⟩ _ = W9 at *
      exact bodyPost_ret (v := .tuple #[.agg zeroI.val, .bool false]) (by simp [results, Tryd.f11, go_sem, Inst.val, zeroI, y0, y1, y2, y3, y4, y5, y6]) rfl ⟨bz, .inr ⟨HN.out, rfl⟩⟩
end Go.Proofs.YtamilahkdinjkaaDoor
