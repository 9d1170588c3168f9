/-
  The parts of texts: registers, numbers with their signs, lists with commas between.
-/
import Derived.Test.YtamilahkdinjkaaDoorShelfB
import Derived.Test.YtamilahkdinjkaaDoorSmall
import Derived.Test.YtamilahkdinjkaaDoorIns
import Derived.Test.YtamilahkdinjkaaDoorRef1
import Derived.Lib.Hide
import Derived.Lib.AppendStr
import Derived.Outline
import Derived.Laws.Concat
import Derived.Lib.ItoaLen
import Derived.Deep.RegionHeld3
namespace Go.Proofs.YtamilahkdinjkaaDoor
set_option linter.unusedVariables false
set_option linter.unusedSimpArgs false
open Go.RowKit Go.Sort Go.Lib
attribute [local go_sem] Oper.semAt_some

/-- The table that numbers are told by. -/
def TabP (w : World) : Prop := Lib.TabIs Tryd.prog w "internal/strconv.uint64pow10" .u64 Lib.pow10Tab
theorem TabP.below {w w' : World} (h : TabP w) (hb : Below w.heap.size w w') : TabP w' := by
  unfold TabP Lib.TabIs World.var? at *
  cases hg : Tryd.prog.globalNamed "internal/strconv.uint64pow10" with
  | none => rw [hg] at h; simp at h
  | some g =>
    rw [hg] at h
    simp only [Option.bind_some] at h ⊢
    cases hh : w.heap[g]? with
    | none => rw [hh] at h; simp at h
    | some o => rw [hb.block g (Array.getElem?_eq_some_iff.1 hh).1]; exact h
theorem below_grow (w : World) (k : Nat) (os : Array Obj) : Below w.heap.size w (grow (w.drewN k) os) := by
  refine ⟨rfl, rfl, rfl, ?_, fun r hr => ?_⟩
  · show w.heap.size ≤ (w.heap ++ os).size
    rw [Array.size_append]; omega
  · show (w.heap ++ os)[r]? = w.heap[r]?
    exact Array.getElem?_append_left hr

/-- A text by its bytes. -/
def bs (l : List UInt8) : ByteArray := ⟨l.toArray⟩
theorem bs_append (a b : List UInt8) : bs a ++ bs b = bs (a ++ b) := by
  apply ByteArray.ext
  rw [ByteArray.data_append]
  simp [bs]
theorem bs_data (a : List UInt8) : (bs a).data.toList = a := rfl

theorem map_bs (xs : List (List UInt8)) : xs.map ((fun x : ByteArray => x.data.toList) ∘ bs) = xs := by
  have h : ((fun x : ByteArray => x.data.toList) ∘ bs) = id := rfl
  rw [h, List.map_id]
def xL (n : Int) : List UInt8 := 120 :: Lib.decDigits n.toNat
def mL (i : Inst) : List UInt8 := Lib.itoa (sgn i.imm)

theorem add_bs {a b : List UInt8} (h : a.length + b.length ≤ 9223372036854775807) (w : World) : (Op.stringOp .add (bs a) (bs b)).run Tryd.prog w = .ok (.string (bs (a ++ b))) w := by
  rw [run_string_add_sum w (bs a) (bs b) h, bs_append]
theorem dec_len (k : Nat) (h : k < 4294967296) : (Lib.decDigits k).length ≤ 21 := by
  have := Lib.itoa_length_le (k : Int) (by omega) (by omega)
  rwa [Lib.itoa_nonneg] at this
theorem xL_len (n : Int) (h0 : 0 ≤ n) (h1 : n < 32) : (xL n).length ≤ 22 := by
  have := dec_len n.toNat (by omega)
  simp only [xL, List.length_cons]; omega
theorem mL_len (i : Inst) (h0 : 0 ≤ i.imm) (h1 : i.imm < 4294967296) : (mL i).length ≤ 21 := by
  refine Lib.itoa_length_le _ ?_ ?_ <;> (unfold sgn; split <;> omega)
theorem itoa_s (k : Nat) (h : k < 100) (w : World) : Calls Tryd.prog 44 #[.int .i64 k] w fun e w' => e = .returned (.string (bs (Lib.decDigits k))) ∧ w = w' :=
  (Tryd.strconv_Itoa_small k h w).mono fun e w' ⟨he, hw⟩ => ⟨he, hw.symm⟩
theorem ret_str {a b : ByteArray} (h : a = b) : Ending.returned (.string a) = .returned (.string b) := by rw [h]

set_option maxHeartbeats 400000 in
theorem x_any (n : Int) (w : World) (h0 : 0 ≤ n) (h1 : n < 32) : Calls Tryd.prog 52 #[.int .i64 n] w fun e w' => e = .returned (.string (bs (xL n))) ∧ w = w' := by
  obtain ⟨k, rfl⟩ := Int.eq_ofNat_of_zero_le h0
  have hk : k < 100 := by omega
  have hadd : ∀ w, (Op.stringOp .add ⟨#[120]⟩ (bs (Lib.decDigits k))).run Tryd.prog w = .ok (.string (bs (xL k))) w := fun w => add_bs (a := [120]) (by have := dec_len k (by omega); simp only [List.length_cons, List.length_nil]; omega) w
  go_enter Tryd.func52, Tryd.ntmps52
  go_wp2_with (go_at_call 44; refine (itoa_s k hk _).mono ?_; rintro e w' ⟨rfl, rfl⟩)
  go_ret
  exact ⟨rfl, rfl⟩
set_option maxHeartbeats 400000 in
theorem reg_any (n : Int) (w : World) (h0 : 0 ≤ n) (h1 : n < 32) : Calls Tryd.prog 34 #[.int .i64 n] w fun e w' => e = .returned (.string (bs (xL n))) ∧ w = w' := by
  obtain ⟨k, rfl⟩ := Int.eq_ofNat_of_zero_le h0
  have hk : k < 100 := by omega
  have hadd : ∀ w, (Op.stringOp .add ⟨#[120]⟩ (bs (Lib.decDigits k))).run Tryd.prog w = .ok (.string (bs (xL k))) w := fun w => add_bs (a := [120]) (by have := dec_len k (by omega); simp only [List.length_cons, List.length_nil]; omega) w
  go_enter Tryd.func34, Tryd.ntmps34
  go_wp2_with (go_at_call 44; refine (itoa_s k hk _).mono ?_; rintro e w' ⟨rfl, rfl⟩)
  go_ret
  exact ⟨rfl, rfl⟩
theorem fmt_any (n : Int) (w : World) (hP : TabP w) (h0 : -9223372036854775808 ≤ n) (h1 : n ≤ 9223372036854775807) :
    Calls Tryd.prog 33 #[.int .i64 n, .int .i64 10] w fun e w' => e = .returned (.string (bs (Lib.itoa n))) ∧ Below w.heap.size w w' :=
  (Tryd.strconv_FormatInt_10 n h0 h1 w hP).mono fun e w' ⟨he, k, os, hw⟩ => ⟨he, hw ▸ below_grow w k os⟩
set_option maxHeartbeats 400000 in
theorem imm_any (i : Inst) (w : World) (hP : TabP w) (h0 : 0 ≤ i.imm) (h1 : i.imm < 4294967296) :
    Calls Tryd.prog 53 #[.agg i.val] w fun e w' => e = .returned (.string (bs (mL i))) ∧ Below w.heap.size w w' := by
  obtain ⟨op, rd, rs1, rs2, imm, aq, rl⟩ := i
  simp only at h0 h1
  have s := sgn imm
  have hs : -9223372036854775808 ≤ sgn imm ∧ sgn imm ≤ 9223372036854775807 := by unfold sgn; split <;> omega
  have HS := Lib.hid hs
  have HP := Lib.hid hP
  clear hs hP s
  unfold Inst.val
  go_enter Tryd.func53, Tryd.ntmps53
  go_wp2_with (first | (go_at_call 88; refine (signed_any _ _ h0 h1).mono ?_; rintro e w' ⟨rfl, rfl⟩) | (go_at_call 33; refine (fmt_any (sgn imm) _ ?_ HS.out.1 HS.out.2).mono ?_; exact HP.out.below ((Below.refl _ _).alloc (Nat.le_refl _) _); rintro e w' ⟨rfl, hb⟩))
  go_ret
  exact ⟨rfl, ((Below.refl _ _).alloc (Nat.le_refl _) _).trans (hb.mono (by simp))⟩
set_option maxHeartbeats 400000 in
theorem list_any (b o c : Nat) (xs : List (List UInt8)) (w : World) (hcells : ∀ (j : Nat) x, xs[j]? = some x → w.cell? ⟨b, o + j, none⟩ = some (.string (bs x))) (hb : b < w.heap.size) (hN : xs.length ≤ c) (hc : c ≤ 16) (hlen : (Lib.join xs [44, 32]).length ≤ 140737488355328) :
    Calls Tryd.prog 51 #[.slice (some ⟨b, o, none⟩) xs.length c] w fun e w' => e = .returned (.string (bs (Lib.join xs [44, 32]))) ∧ Below w.heap.size w w' := by
  have J := Tryd.strings_Join b o c (xs.map bs) ⟨#[44, 32]⟩ w (fun j x hx => by
    rw [List.getElem?_map, Option.map_eq_some_iff] at hx
    obtain ⟨y, hy, rfl⟩ := hx
    exact hcells j y hy) hb (by rw [List.length_map]; omega) (by rw [List.length_map]; exact hN) (by
    rw [List.map_map, map_bs]; exact hlen)
  rw [List.length_map, List.map_map, map_bs] at J
  have J' : Calls Tryd.prog 89 #[.slice (some ⟨b, o, none⟩) xs.length c, .string ⟨#[44, 32]⟩] w fun e w' => e = .returned (.string (bs (Lib.join xs [44, 32]))) ∧ Below w.heap.size w w' := J.mono fun e w' ⟨he, hb⟩ => ⟨by
    rw [he]; rfl, hb⟩
  have HJ := Lib.hid J'
  clear J J' hcells hlen
  go_enter Tryd.func51, Tryd.ntmps51
  go_wp2_with (go_at_call 89; refine HJ.out.mono ?_; rintro e w' ⟨rfl, hb⟩)
  go_ret
  exact ⟨rfl, ‹_›⟩
end Go.Proofs.YtamilahkdinjkaaDoor
