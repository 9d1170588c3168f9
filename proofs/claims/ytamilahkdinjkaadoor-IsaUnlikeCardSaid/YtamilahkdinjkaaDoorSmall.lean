/-
  Small functions of isa: part, high, signed, register, bit, and the closures of forms that lay and take Imm: each is what Spec says.
-/
import Derived.Test.YtamilahkdinjkaaDoorProg
import Derived.Test.YtamilahkdinjkaaDoorSpec
import Derived.WalkKit
import Derived.WalkSpells
import Derived.WalkLawsBesides
import Derived.Deep.QuietTactic
import Derived.BigQuiet
namespace Go.Proofs.YtamilahkdinjkaaDoor
set_option linter.unusedVariables false
set_option linter.unusedSimpArgs false
open Go.RowKit

theorem ret_int {k : IntKind} {a b : Int} (h : a = b) : Ending.returned (.int k a) = .returned (.int k b) := by rw [h]
theorem ret_bool {a b : Bool} (h : a = b) : Ending.returned (.bool a) = .returned (.bool b) := by rw [h]
def Quiet (w w' : World) : Prop := ∃ q, w' = w.drewN q
theorem Quiet.refl (w : World) : Quiet w w := ⟨0, rfl⟩

set_option maxHeartbeats 400000 in
theorem signed_any (n : Int) (w : World) (h0 : 0 ≤ n) (h1 : n < 4294967296) :
    Calls Tryd.prog 88 #[.int .u32 n] w fun e w' => e = .returned (.int .i64 (sgn n)) ∧ w = w' := by
  by_cases h : 2147483648 ≤ n
  · go_enter Tryd.func88, Tryd.ntmps88
    go_wp2
    go_ret
    exact ⟨by simp [sgn, h], rfl⟩
  · go_enter Tryd.func88, Tryd.ntmps88
    go_wp2
    go_ret
    exact ⟨by simp [sgn]; omega, rfl⟩

set_option maxHeartbeats 400000 in
theorem bit_any (b : Bool) (k : Nat) (w : World) (h1 : k < 32) :
    Calls Tryd.prog 27 #[.bool b, .int .i64 k] w fun e w' => e = .returned (.int .u32 (if b then 2 ^ k else 0)) ∧ w = w' := by
  cases b
  · go_enter Tryd.func27, Tryd.ntmps27
    go_wp2
    go_ret
    exact ⟨rfl, rfl⟩
  · go_enter Tryd.func27, Tryd.ntmps27
    go_wp2
    go_ret
    exact ⟨ret_int (by have hp := pow_lt32 h1; have hq := pow_pos32 (k := k); omega), rfl⟩

set_option maxHeartbeats 400000 in
theorem high_any (n : Int) (k : Nat) (w : World) (h0 : 0 ≤ n) (h1 : n < 4294967296) (hk : k < 32) :
    Calls Tryd.prog 47 #[.int .u32 n, .int .i64 k] w fun e w' => e = .returned (.int .u32 (hi n (2 ^ k))) ∧ w = w' := by
  by_cases h : n < 2147483648
  · have hb : (n / 2147483648 == 0) = true := by rw [beq_iff_eq]; omega
    go_enter Tryd.func47, Tryd.ntmps47
    go_wp2
    go_ret
    exact ⟨ret_int (by simp [hi, h]), rfl⟩
  · have hb : (n / 2147483648 == 0) = false := by rw [beq_eq_false_iff_ne]; omega
    go_enter Tryd.func47, Tryd.ntmps47
    go_wp2
    go_ret
    exact ⟨ret_int (by unfold hi; rw [if_neg (by omega)]; exact high_eq hk), rfl⟩
theorem high_i (n k : Int) (w : World) (h0 : 0 ≤ n) (h1 : n < 4294967296) (hl : 0 ≤ k) (hk : k < 32) :
    Calls Tryd.prog 47 #[.int .u32 n, .int .i64 k] w fun e w' => e = .returned (.int .u32 (hi n (2 ^ k.toNat))) ∧ w = w' := by
  obtain ⟨a, rfl⟩ := Int.eq_ofNat_of_zero_le hl
  exact high_any n a _ h0 h1 (by omega)

set_option maxHeartbeats 400000 in
theorem register_any (n : Int) (has : Bool) (w : World) :
    Calls Tryd.prog 42 #[.int .i64 n, .bool has] w fun e w' => e = .returned (.bool (regB n has)) ∧ w = w' := by
  go_enter Tryd.func42, Tryd.ntmps42
  go_wp2
  all_goals (go_ret; refine ⟨ret_bool ?_, rfl⟩; simp [regB, *] <;> omega)

set_option maxHeartbeats 400000 in
theorem part_any (n : Int) (hi lo : Nat) (w : World) (h0 : 0 ≤ n) (h1 : n < 4294967296) (hk : lo ≤ hi) (hh : hi < 32) :
    Calls Tryd.prog 21 #[.int .u32 n, .int .i64 hi, .int .i64 lo] w fun e w' => e = .returned (.int .u32 (n / 2 ^ lo % 2 ^ (hi - lo + 1))) ∧ Quiet w w' := by
  go_enter Tryd.func21, Tryd.ntmps21
  go_wp2
  go_quiet (fail)
  go_wp2
  go_ret
  exact ⟨ret_int (part_eq n hi lo h0 h1 hk hh), _, rfl⟩
theorem part_int (n hi lo : Int) (w : World) (h0 : 0 ≤ n) (h1 : n < 4294967296) (hl : 0 ≤ lo) (hk : lo ≤ hi) (hh : hi < 32) :
    Calls Tryd.prog 21 #[.int .u32 n, .int .i64 hi, .int .i64 lo] w fun e w' => e = .returned (.int .u32 (n / 2 ^ lo.toNat % 2 ^ (hi.toNat - lo.toNat + 1))) ∧ Quiet w w' := by
  obtain ⟨a, rfl⟩ := Int.eq_ofNat_of_zero_le hl
  obtain ⟨b, rfl⟩ := Int.eq_ofNat_of_zero_le (by omega : 0 ≤ hi)
  exact part_any n b a w h0 h1 (by omega) (by omega)
theorem part_q (n hi lo : Int) (w : World) (m : Nat) (h0 : 0 ≤ n) (h1 : n < 4294967296) (hl : 0 ≤ lo) (hk : lo ≤ hi) (hh : hi < 32) :
    Calls Tryd.prog 21 #[.int .u32 n, .int .i64 hi, .int .i64 lo] (w.drewN m) fun e w' => e = .returned (.int .u32 (n / 2 ^ lo.toNat % 2 ^ (hi.toNat - lo.toNat + 1))) ∧ ∃ k, w' = w.drewN k :=
  Calls.quiet_of (part_int n hi lo _ h0 h1 hl hk hh)

/-! ### may -/
set_option maxHeartbeats 400000 in
theorem within1_any (n a b : Int) (p q : Addr) (w : World) (h0 : 0 ≤ n) (h1 : n < 4294967296) (ha : w.cell? p = some (.int .i64 a)) (hb : w.cell? q = some (.int .i64 b)) :
    Calls Tryd.prog 87 #[.int .u32 n, .pointer (some p), .pointer (some q)] w fun e w' => e = .returned (.bool (withinZ a b n)) ∧ Quiet w w' := by
  by_cases h : a ≤ sgn n
  · have hg : decide (a ≤ sgn n) = true := by simpa using h
    go_enter Tryd.func87, Tryd.ntmps87
    go_wp2
    go_quiet ((go_at_call 88; exact Calls.quiet_of_same ((signed_any _ _ h0 h1).mono fun e w' ⟨he, hw⟩ => ⟨he, hw.symm⟩)))
    go_wp2
    go_ret
    exact ⟨ret_bool (by simp [withinZ] <;> omega), _, rfl⟩
  · have hg : decide (a ≤ sgn n) = false := by simpa using h
    go_enter Tryd.func87, Tryd.ntmps87
    go_wp2
    go_quiet ((go_at_call 88; exact Calls.quiet_of_same ((signed_any _ _ h0 h1).mono fun e w' ⟨he, hw⟩ => ⟨he, hw.symm⟩)))
    go_wp2
    go_ret
    exact ⟨ret_bool (by simp [withinZ] <;> omega), _, rfl⟩
set_option maxHeartbeats 400000 in
theorem even1_any (n a b : Int) (p q r : Addr) (w : World) (h0 : 0 ≤ n) (h1 : n < 4294967296) (ha : w.cell? p = some (.int .i64 a)) (hb : w.cell? q = some (.int .i64 b))
    (hr : w.cell? r = some (.func (.func 87) #[] #[.pointer (some p), .pointer (some q)])) :
    Calls Tryd.prog 91 #[.int .u32 n, .pointer (some r)] w fun e w' => e = .returned (.bool (evenZ a b n)) ∧ Quiet w w' := by
  by_cases h : (n % 2 == 0) = true
  · go_enter Tryd.func91, Tryd.ntmps91
    go_wp2_with (go_at_call 87; refine (within1_any _ _ _ _ _ _ h0 h1 ha hb).mono ?_; rintro e w' ⟨rfl, _, rfl⟩)
    go_ret
    exact ⟨ret_bool (by simp [evenZ, h]), _, rfl⟩
  · simp only [Bool.not_eq_true] at h
    go_enter Tryd.func91, Tryd.ntmps91
    go_wp2
    go_ret
    exact ⟨ret_bool (by simp [evenZ, h]), 0, rfl⟩

/-! ### put, take -/
set_option maxHeartbeats 400000 in
theorem mayNone (n : Int) (w : World) (_h0 : 0 ≤ n) (_h1 : n < 4294967296) :
    Calls Tryd.prog 55 #[.int .u32 n] w fun e w' => e = .returned (.bool (n == 0)) ∧ Quiet w w' := by
  go_enter Tryd.func55, Tryd.ntmps55
  go_wp2
  go_ret
  exact ⟨rfl, Quiet.refl _⟩
set_option maxHeartbeats 400000 in
theorem may_u (n : Int) (w : World) (h0 : 0 ≤ n) (h1 : n < 4294967296) :
    Calls Tryd.prog 59 #[.int .u32 n] w fun e w' => e = .returned (.bool (mayZ .u n)) ∧ Quiet w w' := by
  go_enter Tryd.func59, Tryd.ntmps59
  go_wp2
  go_ret
  exact ⟨rfl, Quiet.refl _⟩
set_option maxHeartbeats 400000 in
theorem put_zero (n : Int) (w : World) (_h0 : 0 ≤ n) (_h1 : n < 4294967296) :
    Calls Tryd.prog 45 #[.int .u32 n] w fun e w' => e = .returned (.int .u32 (0)) ∧ Quiet w w' := by
  go_enter Tryd.func45, Tryd.ntmps45
  go_wp2
  go_ret
  exact ⟨rfl, Quiet.refl _⟩
set_option maxHeartbeats 400000 in
theorem put_u (n : Int) (w : World) (_h0 : 0 ≤ n) (_h1 : n < 4294967296) :
    Calls Tryd.prog 60 #[.int .u32 n] w fun e w' => e = .returned (.int .u32 (n)) ∧ Quiet w w' := by
  go_enter Tryd.func60, Tryd.ntmps60
  go_wp2
  go_ret
  exact ⟨rfl, Quiet.refl _⟩
set_option maxHeartbeats 400000 in
theorem put_i (n : Int) (w : World) (_h0 : 0 ≤ n) (_h1 : n < 4294967296) :
    Calls Tryd.prog 49 #[.int .u32 n] w fun e w' => e = .returned (.int .u32 (n * 1048576 % 4294967296)) ∧ Quiet w w' := by
  go_enter Tryd.func49, Tryd.ntmps49
  go_wp2
  go_ret
  exact ⟨rfl, Quiet.refl _⟩
set_option maxHeartbeats 400000 in
theorem put_shift (n : Int) (w : World) (_h0 : 0 ≤ n) (_h1 : n < 4294967296) :
    Calls Tryd.prog 68 #[.int .u32 n] w fun e w' => e = .returned (.int .u32 (n * 1048576 % 4294967296)) ∧ Quiet w w' := by
  go_enter Tryd.func68, Tryd.ntmps68
  go_wp2
  go_ret
  exact ⟨rfl, Quiet.refl _⟩
set_option maxHeartbeats 400000 in
theorem put_fence (n : Int) (w : World) (_h0 : 0 ≤ n) (_h1 : n < 4294967296) :
    Calls Tryd.prog 76 #[.int .u32 n] w fun e w' => e = .returned (.int .u32 (n * 1048576 % 4294967296)) ∧ Quiet w w' := by
  go_enter Tryd.func76, Tryd.ntmps76
  go_wp2
  go_ret
  exact ⟨rfl, Quiet.refl _⟩
set_option maxHeartbeats 400000 in
theorem put_j (n : Int) (w : World) (h0 : 0 ≤ n) (h1 : n < 4294967296) :
    Calls Tryd.prog 65 #[.int .u32 n] w fun e w' => e = .returned (.int .u32 (putZ .j n)) ∧ Quiet w w' := by
  go_enter Tryd.func65, Tryd.ntmps65
  go_wp2_with (go_at_call 21; refine (part_int _ _ _ _ h0 h1 (by omega) (by omega) (by omega)).mono ?_; rintro e w' ⟨rfl, _, rfl⟩)
  go_ret
  exact ⟨ret_int (put_j_eq n), _, rfl⟩
set_option maxHeartbeats 400000 in
theorem put_b (n : Int) (w : World) (h0 : 0 ≤ n) (h1 : n < 4294967296) :
    Calls Tryd.prog 70 #[.int .u32 n] w fun e w' => e = .returned (.int .u32 (putZ .b n)) ∧ Quiet w w' := by
  go_enter Tryd.func70, Tryd.ntmps70
  go_wp2_with (go_at_call 21; refine (part_int _ _ _ _ h0 h1 (by omega) (by omega) (by omega)).mono ?_; rintro e w' ⟨rfl, _, rfl⟩)
  go_ret
  exact ⟨ret_int (put_b_eq n), _, rfl⟩
set_option maxHeartbeats 400000 in
theorem put_s (n : Int) (w : World) (h0 : 0 ≤ n) (h1 : n < 4294967296) :
    Calls Tryd.prog 73 #[.int .u32 n] w fun e w' => e = .returned (.int .u32 (putZ .s n)) ∧ Quiet w w' := by
  go_enter Tryd.func73, Tryd.ntmps73
  go_wp2_with (go_at_call 21; refine (part_int _ _ _ _ h0 h1 (by omega) (by omega) (by omega)).mono ?_; rintro e w' ⟨rfl, _, rfl⟩)
  go_ret
  exact ⟨ret_int (put_s_eq n), _, rfl⟩
set_option maxHeartbeats 400000 in
theorem take_u (n : Int) (w : World) (h0 : 0 ≤ n) (h1 : n < 4294967296) :
    Calls Tryd.prog 61 #[.int .u32 n] w fun e w' => e = .returned (.int .u32 (takeZ .u n)) ∧ Quiet w w' := by
  go_enter Tryd.func61, Tryd.ntmps61
  go_wp2
  go_ret
  exact ⟨ret_int (andNot12 n h0 h1), Quiet.refl _⟩
set_option maxHeartbeats 400000 in
theorem take_j (n : Int) (w : World) (h0 : 0 ≤ n) (h1 : n < 4294967296) :
    Calls Tryd.prog 66 #[.int .u32 n] w fun e w' => e = .returned (.int .u32 (takeZ .j n)) ∧ Quiet w w' := by
  go_enter Tryd.func66, Tryd.ntmps66
  go_wp2_with (first | (go_at_call 21; refine (part_int _ _ _ _ h0 h1 (by omega) (by omega) (by omega)).mono ?_; rintro e w' ⟨rfl, _, rfl⟩) | (go_at_call 47; refine (high_i _ _ _ h0 h1 (by omega) (by omega)).mono ?_; rintro e w' ⟨rfl, rfl⟩))
  go_ret
  exact ⟨ret_int (take_j_eq n), _, rfl⟩
set_option maxHeartbeats 400000 in
theorem take_b (n : Int) (w : World) (h0 : 0 ≤ n) (h1 : n < 4294967296) :
    Calls Tryd.prog 71 #[.int .u32 n] w fun e w' => e = .returned (.int .u32 (takeZ .b n)) ∧ Quiet w w' := by
  go_enter Tryd.func71, Tryd.ntmps71
  go_wp2_with (first | (go_at_call 21; refine (part_int _ _ _ _ h0 h1 (by omega) (by omega) (by omega)).mono ?_; rintro e w' ⟨rfl, _, rfl⟩) | (go_at_call 47; refine (high_i _ _ _ h0 h1 (by omega) (by omega)).mono ?_; rintro e w' ⟨rfl, rfl⟩))
  go_ret
  exact ⟨ret_int (take_b_eq n), _, rfl⟩
set_option maxHeartbeats 400000 in
theorem take_s (n : Int) (w : World) (h0 : 0 ≤ n) (h1 : n < 4294967296) :
    Calls Tryd.prog 74 #[.int .u32 n] w fun e w' => e = .returned (.int .u32 (takeZ .s n)) ∧ Quiet w w' := by
  go_enter Tryd.func74, Tryd.ntmps74
  go_wp2_with (first | (go_at_call 21; refine (part_int _ _ _ _ h0 h1 (by omega) (by omega) (by omega)).mono ?_; rintro e w' ⟨rfl, _, rfl⟩) | (go_at_call 47; refine (high_i _ _ _ h0 h1 (by omega) (by omega)).mono ?_; rintro e w' ⟨rfl, rfl⟩))
  go_ret
  exact ⟨ret_int (take_s_eq n), _, rfl⟩
set_option maxHeartbeats 400000 in
theorem take_i (n : Int) (w : World) (h0 : 0 ≤ n) (h1 : n < 4294967296) :
    Calls Tryd.prog 46 #[.int .u32 n] w fun e w' => e = .returned (.int .u32 (takeZ .i n)) ∧ Quiet w w' := by
  go_enter Tryd.func46, Tryd.ntmps46
  go_wp2_with (first | (go_at_call 21; refine (part_int _ _ _ _ h0 h1 (by omega) (by omega) (by omega)).mono ?_; rintro e w' ⟨rfl, _, rfl⟩) | (go_at_call 47; refine (high_i _ _ _ h0 h1 (by omega) (by omega)).mono ?_; rintro e w' ⟨rfl, rfl⟩))
  go_ret
  exact ⟨ret_int (take_i_eq n), _, rfl⟩
set_option maxHeartbeats 400000 in
theorem take_shift (n : Int) (w : World) (h0 : 0 ≤ n) (h1 : n < 4294967296) :
    Calls Tryd.prog 69 #[.int .u32 n] w fun e w' => e = .returned (.int .u32 (takeZ .shift n)) ∧ Quiet w w' := by
  go_enter Tryd.func69, Tryd.ntmps69
  go_wp2_with (go_at_call 21; refine (part_int _ _ _ _ h0 h1 (by omega) (by omega) (by omega)).mono ?_; rintro e w' ⟨rfl, _, rfl⟩)
  go_ret
  exact ⟨rfl, _, rfl⟩
set_option maxHeartbeats 400000 in
theorem take_fence (n : Int) (w : World) (h0 : 0 ≤ n) (h1 : n < 4294967296) :
    Calls Tryd.prog 77 #[.int .u32 n] w fun e w' => e = .returned (.int .u32 (takeZ .fence n)) ∧ Quiet w w' := by
  go_enter Tryd.func77, Tryd.ntmps77
  go_wp2_with (go_at_call 21; refine (part_int _ _ _ _ h0 h1 (by omega) (by omega) (by omega)).mono ?_; rintro e w' ⟨rfl, _, rfl⟩)
  go_ret
  exact ⟨rfl, _, rfl⟩

end Go.Proofs.YtamilahkdinjkaaDoor
