/-
  isa.Text: the whole text.
-/
import Derived.Test.YtamilahkdinjkaaDoorTextT
namespace Go.Proofs.YtamilahkdinjkaaDoor
set_option linter.unusedVariables false
set_option linter.unusedSimpArgs false
open Go.RowKit Go.Shelf Go.Sort Go.Lib
attribute [local go_sem] Oper.semAt_some

theorem ne_empty {t : List UInt8} (h : t ≠ []) : (bs t).toList.isEmpty = false := by
  have : (bs t).toList = t := by simp [bs, ByteArray.toList_eq]
  cases t with
  | nil => exact (h rfl).elim
  | cons a l => rw [this]; rfl
theorem mayR_ok (i : Inst) (w : World) (hT : Tab w) (h0 : 0 ≤ i.imm) (hlt : i.imm < 4294967296) (k : Nat) (hk : k < 59) (ho : i.op = k + 1) (ok : okI k i = true) :
    Calls Tryd.prog 26 #[.agg i.val] w fun e w' => ∃ mk mcap, e = .returned (.tuple #[.agg (rowC k (.func (.func mk) #[] mcap)), .bool true]) ∧ Below w.heap.size w w' := by
  refine (mayR_any i w hT h0 hlt).mono ?_
  rintro e w' ⟨hb, ⟨j, v, hj, hop, rfl, ⟨mv, rfl, hmv⟩⟩ | ⟨hno, rfl⟩⟩
  · obtain rfl : j = k := by omega
    obtain ⟨mk, mcap, rfl⟩ := hmv.fn
    exact ⟨mk, mcap, by rw [ok], hb⟩
  · omega

set_option maxRecDepth 100000 in
set_option maxHeartbeats 4000000 in
theorem text_ffn (op rd rs1 rs2 imm : Int) (w : World) (hT : Tab w) (hP : TabP w) (h0 : 0 ≤ imm) (h1 : imm < 4294967296) (k : Nat) (hk : k < 59) (ho : op = k + 1) (ok : okI k (Inst.mk op rd rs1 rs2 imm false false) = true)
    (T : List UInt8) (hT' : toldL (formK k) (Inst.mk op rd rs1 rs2 imm false false) = T) (hte : T ≠ []) :
    Calls Tryd.prog 18 #[.agg (Inst.mk op rd rs1 rs2 imm false false).val] w fun e w' => e = .returned (.tuple #[.string (bs (textL k (Inst.mk op rd rs1 rs2 imm false false))), .int .i64 0]) ∧ Below w.heap.size w w' := by
  subst ho
  have nn := nmL_len k hk
  have tn := toldL_len (formK k) _ h0 h1 ok
  rw [hT'] at tn
  have TO := fun W hP => told_any (formK k) (Inst.mk (k + 1) rd rs1 rs2 imm false false) W hP h0 h1 ok
  rw [hT'] at TO
  have htx : textL k (Inst.mk (k + 1) rd rs1 rs2 imm false false) = nmL k ++ sufL false false ++ endL T := by unfold textL; rw [hT']
  rw [htx]
  have MR := fun W hT => mayR_ok (Inst.mk (k + 1) rd rs1 rs2 imm false false) W hT h0 h1 k hk rfl ok
  have hnm : nameK k = bs (nmL k) := rfl
  generalize nmL k = N at *
  have hne := ne_empty hte
  obtain ⟨L0, hL0⟩ : ∃ L, [32] ++ T = L := ⟨_, rfl⟩
  have n0 : L0.length ≤ 201 := by rw [← hL0]; simp only [List.length_append, List.length_cons, List.length_nil]; omega
  have hs0 : ∀ W, (Op.stringOp .add (⟨#[32]⟩) (bs T)).run Tryd.prog W = .ok (.string (bs L0)) W := fun W => hL0 ▸ add_bs (a := [32]) (b := T) (by (try simp only [List.length_cons, List.length_nil]); omega) W
  obtain ⟨L1, hL1⟩ : ∃ L, N ++ L0 = L := ⟨_, rfl⟩
  have n1 : L1.length ≤ 209 := by rw [← hL1]; simp only [List.length_append, List.length_cons, List.length_nil]; omega
  have hs1 : ∀ W, (Op.stringOp .add (bs N) (bs L0)).run Tryd.prog W = .ok (.string (bs L1)) W := fun W => hL1 ▸ add_bs (a := N) (b := L0) (by (try simp only [List.length_cons, List.length_nil]); omega) W
  have hfin : N ++ sufL false false ++ endL T = L1 := by
    simp only [sufL, endL, if_true, if_false, Bool.false_eq_true, List.append_nil, hte]
    rw [← hL1, ← hL0]
    simp
  rw [hfin]
  have MRH := Lib.hid MR
  have TOH := Lib.hid TO
  have OK := Lib.hid ok
  have NM := Lib.hid hnm
  have HT := Lib.hid hT
  have HP := Lib.hid hP
  have HK := Lib.hid hk
  clear MR TO ok hnm hT hP hT' htx hfin nn tn hk hL0 n0 hL1 n1
  have HEN := Lib.hid (enTold (formK k))
  unfold Inst.val
  go_enter Tryd.func18, Tryd.ntmps18
  go_upto_region 2 with (go_at_call 26; refine (MRH.out _ ?_).mono ?_; exact HT.out.below ((Below.refl _ _).alloc (Nat.le_refl _) _); rintro e w1 ⟨mk, mcap, rfl, hb1⟩; unfold rowC; rw [NM.out])
  have hi1 : w1.heap[w.heap.size]? = some (.cells (Inst.mk (k + 1) rd rs1 rs2 imm false false).val 25 (0, 0)) := (hb1.block _ (by simp)).trans (World.alloc_heap_new w _)
  have z1 := hb1.size
  rw [World.size_alloc] at z1
  have hz1 : w.heap.size < w1.heap.size := z1
  clear z1
  have HI1 := Lib.hid hi1
  obtain ⟨q0, q1, q2, q3, q4, q5, q6⟩ := cells_inst hi1
  simp only at q0 q1 q2 q3 q4 q5 q6
  clear hi1
  generalize toldN (formK k) = tn at *
  have hen : ∀ (args : Array Value) (w : World), (callFunc tn args).run Tryd.prog w = .ok (.enter tn args) w := HEN.out
  go_wp2_with fail
  refine (TOH.out _ ?_).mono ?_
  · exact ((HP.out.below ((Below.refl _ _).alloc (Nat.le_refl _) _)).below hb1).below ((Below.refl _ _).alloc (Nat.le_refl _) _)
  rintro e w2 ⟨rfl, hb2⟩
  have z2 := hb2.size
  rw [World.size_alloc] at z2
  go_wp2_with fail
  have b1 : Below w.heap.size w w1 := ((Below.refl _ w).alloc (Nat.le_refl _) _).trans (hb1.mono (by simp))
  have b2 : Below w.heap.size w w2 := (b1.alloc b1.size _).trans (hb2.mono (by rw [World.size_alloc]; omega))
  go_ret2
  exact ⟨rfl, b2⟩

set_option maxRecDepth 100000 in
set_option maxHeartbeats 4000000 in
theorem text_ffe (op rd rs1 rs2 imm : Int) (w : World) (hT : Tab w) (hP : TabP w) (h0 : 0 ≤ imm) (h1 : imm < 4294967296) (k : Nat) (hk : k < 59) (ho : op = k + 1) (ok : okI k (Inst.mk op rd rs1 rs2 imm false false) = true)
    (T : List UInt8) (hT' : toldL (formK k) (Inst.mk op rd rs1 rs2 imm false false) = T) (hte : T = []) :
    Calls Tryd.prog 18 #[.agg (Inst.mk op rd rs1 rs2 imm false false).val] w fun e w' => e = .returned (.tuple #[.string (bs (textL k (Inst.mk op rd rs1 rs2 imm false false))), .int .i64 0]) ∧ Below w.heap.size w w' := by
  subst ho
  have nn := nmL_len k hk
  have tn := toldL_len (formK k) _ h0 h1 ok
  rw [hT'] at tn
  have TO := fun W hP => told_any (formK k) (Inst.mk (k + 1) rd rs1 rs2 imm false false) W hP h0 h1 ok
  rw [hT'] at TO
  have htx : textL k (Inst.mk (k + 1) rd rs1 rs2 imm false false) = nmL k ++ sufL false false ++ endL T := by unfold textL; rw [hT']
  rw [htx]
  have MR := fun W hT => mayR_ok (Inst.mk (k + 1) rd rs1 rs2 imm false false) W hT h0 h1 k hk rfl ok
  have hnm : nameK k = bs (nmL k) := rfl
  generalize nmL k = N at *
  subst hte
  have hne : (bs ([] : List UInt8)).toList.isEmpty = true := by simp [bs, ByteArray.toList_eq]
  have hfin : N ++ sufL false false ++ endL [] = N := by
    simp only [sufL, endL, if_true, if_false, Bool.false_eq_true, List.append_nil]
    skip
    skip
  rw [hfin]
  have MRH := Lib.hid MR
  have TOH := Lib.hid TO
  have OK := Lib.hid ok
  have NM := Lib.hid hnm
  have HT := Lib.hid hT
  have HP := Lib.hid hP
  have HK := Lib.hid hk
  clear MR TO ok hnm hT hP hT' htx hfin nn tn hk 
  have HEN := Lib.hid (enTold (formK k))
  unfold Inst.val
  go_enter Tryd.func18, Tryd.ntmps18
  go_upto_region 2 with (go_at_call 26; refine (MRH.out _ ?_).mono ?_; exact HT.out.below ((Below.refl _ _).alloc (Nat.le_refl _) _); rintro e w1 ⟨mk, mcap, rfl, hb1⟩; unfold rowC; rw [NM.out])
  have hi1 : w1.heap[w.heap.size]? = some (.cells (Inst.mk (k + 1) rd rs1 rs2 imm false false).val 25 (0, 0)) := (hb1.block _ (by simp)).trans (World.alloc_heap_new w _)
  have z1 := hb1.size
  rw [World.size_alloc] at z1
  have hz1 : w.heap.size < w1.heap.size := z1
  clear z1
  have HI1 := Lib.hid hi1
  obtain ⟨q0, q1, q2, q3, q4, q5, q6⟩ := cells_inst hi1
  simp only at q0 q1 q2 q3 q4 q5 q6
  clear hi1
  generalize toldN (formK k) = tn at *
  have hen : ∀ (args : Array Value) (w : World), (callFunc tn args).run Tryd.prog w = .ok (.enter tn args) w := HEN.out
  go_wp2_with fail
  refine (TOH.out _ ?_).mono ?_
  · exact ((HP.out.below ((Below.refl _ _).alloc (Nat.le_refl _) _)).below hb1).below ((Below.refl _ _).alloc (Nat.le_refl _) _)
  rintro e w2 ⟨rfl, hb2⟩
  have z2 := hb2.size
  rw [World.size_alloc] at z2
  go_wp2_with fail
  have b1 : Below w.heap.size w w1 := ((Below.refl _ w).alloc (Nat.le_refl _) _).trans (hb1.mono (by simp))
  have b2 : Below w.heap.size w w2 := (b1.alloc b1.size _).trans (hb2.mono (by rw [World.size_alloc]; omega))
  go_ret2
  exact ⟨rfl, b2⟩

set_option maxRecDepth 100000 in
set_option maxHeartbeats 4000000 in
theorem text_tfn (op rd rs1 rs2 imm : Int) (w : World) (hT : Tab w) (hP : TabP w) (h0 : 0 ≤ imm) (h1 : imm < 4294967296) (k : Nat) (hk : k < 59) (ho : op = k + 1) (ok : okI k (Inst.mk op rd rs1 rs2 imm true false) = true)
    (T : List UInt8) (hT' : toldL (formK k) (Inst.mk op rd rs1 rs2 imm true false) = T) (hte : T ≠ []) :
    Calls Tryd.prog 18 #[.agg (Inst.mk op rd rs1 rs2 imm true false).val] w fun e w' => e = .returned (.tuple #[.string (bs (textL k (Inst.mk op rd rs1 rs2 imm true false))), .int .i64 0]) ∧ Below w.heap.size w w' := by
  subst ho
  have nn := nmL_len k hk
  have tn := toldL_len (formK k) _ h0 h1 ok
  rw [hT'] at tn
  have TO := fun W hP => told_any (formK k) (Inst.mk (k + 1) rd rs1 rs2 imm true false) W hP h0 h1 ok
  rw [hT'] at TO
  have htx : textL k (Inst.mk (k + 1) rd rs1 rs2 imm true false) = nmL k ++ sufL true false ++ endL T := by unfold textL; rw [hT']
  rw [htx]
  have MR := fun W hT => mayR_ok (Inst.mk (k + 1) rd rs1 rs2 imm true false) W hT h0 h1 k hk rfl ok
  have hnm : nameK k = bs (nmL k) := rfl
  generalize nmL k = N at *
  have hne := ne_empty hte
  obtain ⟨L0, hL0⟩ : ∃ L, N ++ [46] = L := ⟨_, rfl⟩
  have n0 : L0.length ≤ 9 := by rw [← hL0]; simp only [List.length_append, List.length_cons, List.length_nil]; omega
  have hs0 : ∀ W, (Op.stringOp .add (bs N) (⟨#[46]⟩)).run Tryd.prog W = .ok (.string (bs L0)) W := fun W => hL0 ▸ add_bs (a := N) (b := [46]) (by (try simp only [List.length_cons, List.length_nil]); omega) W
  obtain ⟨L1, hL1⟩ : ∃ L, L0 ++ [97, 113] = L := ⟨_, rfl⟩
  have n1 : L1.length ≤ 11 := by rw [← hL1]; simp only [List.length_append, List.length_cons, List.length_nil]; omega
  have hs1 : ∀ W, (Op.stringOp .add (bs L0) (⟨#[97, 113]⟩)).run Tryd.prog W = .ok (.string (bs L1)) W := fun W => hL1 ▸ add_bs (a := L0) (b := [97, 113]) (by (try simp only [List.length_cons, List.length_nil]); omega) W
  obtain ⟨L2, hL2⟩ : ∃ L, [32] ++ T = L := ⟨_, rfl⟩
  have n2 : L2.length ≤ 201 := by rw [← hL2]; simp only [List.length_append, List.length_cons, List.length_nil]; omega
  have hs2 : ∀ W, (Op.stringOp .add (⟨#[32]⟩) (bs T)).run Tryd.prog W = .ok (.string (bs L2)) W := fun W => hL2 ▸ add_bs (a := [32]) (b := T) (by (try simp only [List.length_cons, List.length_nil]); omega) W
  obtain ⟨L3, hL3⟩ : ∃ L, L1 ++ L2 = L := ⟨_, rfl⟩
  have n3 : L3.length ≤ 212 := by rw [← hL3]; simp only [List.length_append, List.length_cons, List.length_nil]; omega
  have hs3 : ∀ W, (Op.stringOp .add (bs L1) (bs L2)).run Tryd.prog W = .ok (.string (bs L3)) W := fun W => hL3 ▸ add_bs (a := L1) (b := L2) (by (try simp only [List.length_cons, List.length_nil]); omega) W
  have hfin : N ++ sufL true false ++ endL T = L3 := by
    simp only [sufL, endL, if_true, if_false, Bool.false_eq_true, List.append_nil, hte]
    rw [← hL3, ← hL2, ← hL1, ← hL0]
    simp
  rw [hfin]
  have MRH := Lib.hid MR
  have TOH := Lib.hid TO
  have OK := Lib.hid ok
  have NM := Lib.hid hnm
  have HT := Lib.hid hT
  have HP := Lib.hid hP
  have HK := Lib.hid hk
  clear MR TO ok hnm hT hP hT' htx hfin nn tn hk hL0 n0 hL1 n1 hL2 n2 hL3 n3
  have HEN := Lib.hid (enTold (formK k))
  unfold Inst.val
  go_enter Tryd.func18, Tryd.ntmps18
  go_upto_region 2 with (go_at_call 26; refine (MRH.out _ ?_).mono ?_; exact HT.out.below ((Below.refl _ _).alloc (Nat.le_refl _) _); rintro e w1 ⟨mk, mcap, rfl, hb1⟩; unfold rowC; rw [NM.out])
  have hi1 : w1.heap[w.heap.size]? = some (.cells (Inst.mk (k + 1) rd rs1 rs2 imm true false).val 25 (0, 0)) := (hb1.block _ (by simp)).trans (World.alloc_heap_new w _)
  have z1 := hb1.size
  rw [World.size_alloc] at z1
  have hz1 : w.heap.size < w1.heap.size := z1
  clear z1
  have HI1 := Lib.hid hi1
  obtain ⟨q0, q1, q2, q3, q4, q5, q6⟩ := cells_inst hi1
  simp only at q0 q1 q2 q3 q4 q5 q6
  clear hi1
  generalize toldN (formK k) = tn at *
  have hen : ∀ (args : Array Value) (w : World), (callFunc tn args).run Tryd.prog w = .ok (.enter tn args) w := HEN.out
  go_wp2_with fail
  refine (TOH.out _ ?_).mono ?_
  · exact ((HP.out.below ((Below.refl _ _).alloc (Nat.le_refl _) _)).below hb1).below ((Below.refl _ _).alloc (Nat.le_refl _) _)
  rintro e w2 ⟨rfl, hb2⟩
  have z2 := hb2.size
  rw [World.size_alloc] at z2
  go_wp2_with fail
  have b1 : Below w.heap.size w w1 := ((Below.refl _ w).alloc (Nat.le_refl _) _).trans (hb1.mono (by simp))
  have b2 : Below w.heap.size w w2 := (b1.alloc b1.size _).trans (hb2.mono (by rw [World.size_alloc]; omega))
  go_ret2
  exact ⟨rfl, b2⟩

set_option maxRecDepth 100000 in
set_option maxHeartbeats 4000000 in
theorem text_ftn (op rd rs1 rs2 imm : Int) (w : World) (hT : Tab w) (hP : TabP w) (h0 : 0 ≤ imm) (h1 : imm < 4294967296) (k : Nat) (hk : k < 59) (ho : op = k + 1) (ok : okI k (Inst.mk op rd rs1 rs2 imm false true) = true)
    (T : List UInt8) (hT' : toldL (formK k) (Inst.mk op rd rs1 rs2 imm false true) = T) (hte : T ≠ []) :
    Calls Tryd.prog 18 #[.agg (Inst.mk op rd rs1 rs2 imm false true).val] w fun e w' => e = .returned (.tuple #[.string (bs (textL k (Inst.mk op rd rs1 rs2 imm false true))), .int .i64 0]) ∧ Below w.heap.size w w' := by
  subst ho
  have nn := nmL_len k hk
  have tn := toldL_len (formK k) _ h0 h1 ok
  rw [hT'] at tn
  have TO := fun W hP => told_any (formK k) (Inst.mk (k + 1) rd rs1 rs2 imm false true) W hP h0 h1 ok
  rw [hT'] at TO
  have htx : textL k (Inst.mk (k + 1) rd rs1 rs2 imm false true) = nmL k ++ sufL false true ++ endL T := by unfold textL; rw [hT']
  rw [htx]
  have MR := fun W hT => mayR_ok (Inst.mk (k + 1) rd rs1 rs2 imm false true) W hT h0 h1 k hk rfl ok
  have hnm : nameK k = bs (nmL k) := rfl
  generalize nmL k = N at *
  have hne := ne_empty hte
  obtain ⟨L0, hL0⟩ : ∃ L, N ++ [46] = L := ⟨_, rfl⟩
  have n0 : L0.length ≤ 9 := by rw [← hL0]; simp only [List.length_append, List.length_cons, List.length_nil]; omega
  have hs0 : ∀ W, (Op.stringOp .add (bs N) (⟨#[46]⟩)).run Tryd.prog W = .ok (.string (bs L0)) W := fun W => hL0 ▸ add_bs (a := N) (b := [46]) (by (try simp only [List.length_cons, List.length_nil]); omega) W
  obtain ⟨L1, hL1⟩ : ∃ L, L0 ++ [114, 108] = L := ⟨_, rfl⟩
  have n1 : L1.length ≤ 11 := by rw [← hL1]; simp only [List.length_append, List.length_cons, List.length_nil]; omega
  have hs1 : ∀ W, (Op.stringOp .add (bs L0) (⟨#[114, 108]⟩)).run Tryd.prog W = .ok (.string (bs L1)) W := fun W => hL1 ▸ add_bs (a := L0) (b := [114, 108]) (by (try simp only [List.length_cons, List.length_nil]); omega) W
  obtain ⟨L2, hL2⟩ : ∃ L, [32] ++ T = L := ⟨_, rfl⟩
  have n2 : L2.length ≤ 201 := by rw [← hL2]; simp only [List.length_append, List.length_cons, List.length_nil]; omega
  have hs2 : ∀ W, (Op.stringOp .add (⟨#[32]⟩) (bs T)).run Tryd.prog W = .ok (.string (bs L2)) W := fun W => hL2 ▸ add_bs (a := [32]) (b := T) (by (try simp only [List.length_cons, List.length_nil]); omega) W
  obtain ⟨L3, hL3⟩ : ∃ L, L1 ++ L2 = L := ⟨_, rfl⟩
  have n3 : L3.length ≤ 212 := by rw [← hL3]; simp only [List.length_append, List.length_cons, List.length_nil]; omega
  have hs3 : ∀ W, (Op.stringOp .add (bs L1) (bs L2)).run Tryd.prog W = .ok (.string (bs L3)) W := fun W => hL3 ▸ add_bs (a := L1) (b := L2) (by (try simp only [List.length_cons, List.length_nil]); omega) W
  have hfin : N ++ sufL false true ++ endL T = L3 := by
    simp only [sufL, endL, if_true, if_false, Bool.false_eq_true, List.append_nil, hte]
    rw [← hL3, ← hL2, ← hL1, ← hL0]
    simp
  rw [hfin]
  have MRH := Lib.hid MR
  have TOH := Lib.hid TO
  have OK := Lib.hid ok
  have NM := Lib.hid hnm
  have HT := Lib.hid hT
  have HP := Lib.hid hP
  have HK := Lib.hid hk
  clear MR TO ok hnm hT hP hT' htx hfin nn tn hk hL0 n0 hL1 n1 hL2 n2 hL3 n3
  have HEN := Lib.hid (enTold (formK k))
  unfold Inst.val
  go_enter Tryd.func18, Tryd.ntmps18
  go_upto_region 2 with (go_at_call 26; refine (MRH.out _ ?_).mono ?_; exact HT.out.below ((Below.refl _ _).alloc (Nat.le_refl _) _); rintro e w1 ⟨mk, mcap, rfl, hb1⟩; unfold rowC; rw [NM.out])
  have hi1 : w1.heap[w.heap.size]? = some (.cells (Inst.mk (k + 1) rd rs1 rs2 imm false true).val 25 (0, 0)) := (hb1.block _ (by simp)).trans (World.alloc_heap_new w _)
  have z1 := hb1.size
  rw [World.size_alloc] at z1
  have hz1 : w.heap.size < w1.heap.size := z1
  clear z1
  have HI1 := Lib.hid hi1
  obtain ⟨q0, q1, q2, q3, q4, q5, q6⟩ := cells_inst hi1
  simp only at q0 q1 q2 q3 q4 q5 q6
  clear hi1
  generalize toldN (formK k) = tn at *
  have hen : ∀ (args : Array Value) (w : World), (callFunc tn args).run Tryd.prog w = .ok (.enter tn args) w := HEN.out
  go_wp2_with fail
  refine (TOH.out _ ?_).mono ?_
  · exact ((HP.out.below ((Below.refl _ _).alloc (Nat.le_refl _) _)).below hb1).below ((Below.refl _ _).alloc (Nat.le_refl _) _)
  rintro e w2 ⟨rfl, hb2⟩
  have z2 := hb2.size
  rw [World.size_alloc] at z2
  go_wp2_with fail
  have b1 : Below w.heap.size w w1 := ((Below.refl _ w).alloc (Nat.le_refl _) _).trans (hb1.mono (by simp))
  have b2 : Below w.heap.size w w2 := (b1.alloc b1.size _).trans (hb2.mono (by rw [World.size_alloc]; omega))
  go_ret2
  exact ⟨rfl, b2⟩

set_option maxRecDepth 100000 in
set_option maxHeartbeats 4000000 in
theorem text_ttn (op rd rs1 rs2 imm : Int) (w : World) (hT : Tab w) (hP : TabP w) (h0 : 0 ≤ imm) (h1 : imm < 4294967296) (k : Nat) (hk : k < 59) (ho : op = k + 1) (ok : okI k (Inst.mk op rd rs1 rs2 imm true true) = true)
    (T : List UInt8) (hT' : toldL (formK k) (Inst.mk op rd rs1 rs2 imm true true) = T) (hte : T ≠ []) :
    Calls Tryd.prog 18 #[.agg (Inst.mk op rd rs1 rs2 imm true true).val] w fun e w' => e = .returned (.tuple #[.string (bs (textL k (Inst.mk op rd rs1 rs2 imm true true))), .int .i64 0]) ∧ Below w.heap.size w w' := by
  subst ho
  have nn := nmL_len k hk
  have tn := toldL_len (formK k) _ h0 h1 ok
  rw [hT'] at tn
  have TO := fun W hP => told_any (formK k) (Inst.mk (k + 1) rd rs1 rs2 imm true true) W hP h0 h1 ok
  rw [hT'] at TO
  have htx : textL k (Inst.mk (k + 1) rd rs1 rs2 imm true true) = nmL k ++ sufL true true ++ endL T := by unfold textL; rw [hT']
  rw [htx]
  have MR := fun W hT => mayR_ok (Inst.mk (k + 1) rd rs1 rs2 imm true true) W hT h0 h1 k hk rfl ok
  have hnm : nameK k = bs (nmL k) := rfl
  generalize nmL k = N at *
  have hne := ne_empty hte
  obtain ⟨L0, hL0⟩ : ∃ L, N ++ [46] = L := ⟨_, rfl⟩
  have n0 : L0.length ≤ 9 := by rw [← hL0]; simp only [List.length_append, List.length_cons, List.length_nil]; omega
  have hs0 : ∀ W, (Op.stringOp .add (bs N) (⟨#[46]⟩)).run Tryd.prog W = .ok (.string (bs L0)) W := fun W => hL0 ▸ add_bs (a := N) (b := [46]) (by (try simp only [List.length_cons, List.length_nil]); omega) W
  obtain ⟨L1, hL1⟩ : ∃ L, L0 ++ [97, 113] = L := ⟨_, rfl⟩
  have n1 : L1.length ≤ 11 := by rw [← hL1]; simp only [List.length_append, List.length_cons, List.length_nil]; omega
  have hs1 : ∀ W, (Op.stringOp .add (bs L0) (⟨#[97, 113]⟩)).run Tryd.prog W = .ok (.string (bs L1)) W := fun W => hL1 ▸ add_bs (a := L0) (b := [97, 113]) (by (try simp only [List.length_cons, List.length_nil]); omega) W
  obtain ⟨L2, hL2⟩ : ∃ L, L1 ++ [114, 108] = L := ⟨_, rfl⟩
  have n2 : L2.length ≤ 13 := by rw [← hL2]; simp only [List.length_append, List.length_cons, List.length_nil]; omega
  have hs2 : ∀ W, (Op.stringOp .add (bs L1) (⟨#[114, 108]⟩)).run Tryd.prog W = .ok (.string (bs L2)) W := fun W => hL2 ▸ add_bs (a := L1) (b := [114, 108]) (by (try simp only [List.length_cons, List.length_nil]); omega) W
  obtain ⟨L3, hL3⟩ : ∃ L, [32] ++ T = L := ⟨_, rfl⟩
  have n3 : L3.length ≤ 201 := by rw [← hL3]; simp only [List.length_append, List.length_cons, List.length_nil]; omega
  have hs3 : ∀ W, (Op.stringOp .add (⟨#[32]⟩) (bs T)).run Tryd.prog W = .ok (.string (bs L3)) W := fun W => hL3 ▸ add_bs (a := [32]) (b := T) (by (try simp only [List.length_cons, List.length_nil]); omega) W
  obtain ⟨L4, hL4⟩ : ∃ L, L2 ++ L3 = L := ⟨_, rfl⟩
  have n4 : L4.length ≤ 214 := by rw [← hL4]; simp only [List.length_append, List.length_cons, List.length_nil]; omega
  have hs4 : ∀ W, (Op.stringOp .add (bs L2) (bs L3)).run Tryd.prog W = .ok (.string (bs L4)) W := fun W => hL4 ▸ add_bs (a := L2) (b := L3) (by (try simp only [List.length_cons, List.length_nil]); omega) W
  have hfin : N ++ sufL true true ++ endL T = L4 := by
    simp only [sufL, endL, if_true, if_false, Bool.false_eq_true, List.append_nil, hte]
    rw [← hL4, ← hL3, ← hL2, ← hL1, ← hL0]
    simp
  rw [hfin]
  have MRH := Lib.hid MR
  have TOH := Lib.hid TO
  have OK := Lib.hid ok
  have NM := Lib.hid hnm
  have HT := Lib.hid hT
  have HP := Lib.hid hP
  have HK := Lib.hid hk
  clear MR TO ok hnm hT hP hT' htx hfin nn tn hk hL0 n0 hL1 n1 hL2 n2 hL3 n3 hL4 n4
  have HEN := Lib.hid (enTold (formK k))
  unfold Inst.val
  go_enter Tryd.func18, Tryd.ntmps18
  go_upto_region 2 with (go_at_call 26; refine (MRH.out _ ?_).mono ?_; exact HT.out.below ((Below.refl _ _).alloc (Nat.le_refl _) _); rintro e w1 ⟨mk, mcap, rfl, hb1⟩; unfold rowC; rw [NM.out])
  have hi1 : w1.heap[w.heap.size]? = some (.cells (Inst.mk (k + 1) rd rs1 rs2 imm true true).val 25 (0, 0)) := (hb1.block _ (by simp)).trans (World.alloc_heap_new w _)
  have z1 := hb1.size
  rw [World.size_alloc] at z1
  have hz1 : w.heap.size < w1.heap.size := z1
  clear z1
  have HI1 := Lib.hid hi1
  obtain ⟨q0, q1, q2, q3, q4, q5, q6⟩ := cells_inst hi1
  simp only at q0 q1 q2 q3 q4 q5 q6
  clear hi1
  generalize toldN (formK k) = tn at *
  have hen : ∀ (args : Array Value) (w : World), (callFunc tn args).run Tryd.prog w = .ok (.enter tn args) w := HEN.out
  go_wp2_with fail
  refine (TOH.out _ ?_).mono ?_
  · exact ((HP.out.below ((Below.refl _ _).alloc (Nat.le_refl _) _)).below hb1).below ((Below.refl _ _).alloc (Nat.le_refl _) _)
  rintro e w2 ⟨rfl, hb2⟩
  have z2 := hb2.size
  rw [World.size_alloc] at z2
  go_wp2_with fail
  have b1 : Below w.heap.size w w1 := ((Below.refl _ w).alloc (Nat.le_refl _) _).trans (hb1.mono (by simp))
  have b2 : Below w.heap.size w w2 := (b1.alloc b1.size _).trans (hb2.mono (by rw [World.size_alloc]; omega))
  go_ret2
  exact ⟨rfl, b2⟩
end Go.Proofs.YtamilahkdinjkaaDoor
