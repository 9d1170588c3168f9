/-
  The small functions of the reference of layer 3: pow, bits, Signed, Word, sign: each is what plain arithmetic says.
-/
import Derived.Test.YtamilahkdinjkaaDoorProg
import Derived.Test.YtamilahkdinjkaaDoorSmall
import Derived.LoopTactic
import Derived.LoopN
import Derived.Below
import Derived.Outline
namespace Go.Proofs.YtamilahkdinjkaaDoor
set_option linter.unusedVariables false
set_option linter.unusedSimpArgs false
open Go.RowKit

/-- A power of two. -/
def p2 (k : Nat) : Int := 2 ^ k
theorem p2_pos (k : Nat) : 1 ≤ p2 k := by
  have : (0 : Int) < 2 ^ k := pow_pos32
  unfold p2; omega
theorem p2_lt {k : Nat} (h : k < 32) : p2 k < 4294967296 := pow_lt32 h
theorem p2_succ (k : Nat) : p2 (k + 1) = p2 k * 2 := by unfold p2; rw [Int.pow_succ]
theorem p2_le {k : Nat} (h : k < 32) : p2 k ≤ 2147483648 := by
  have h1 : (2 : Nat) ^ k ≤ 2 ^ 31 := Nat.pow_le_pow_right (by decide) (by omega)
  have h2 : ((2 ^ k : Nat) : Int) ≤ 2147483648 := by omega
  unfold p2
  simpa using h2

set_option maxHeartbeats 400000 in
theorem pow_any (n : Nat) (w : World) (hn : n < 32) :
    Calls Tryd.prog 25 #[.int .i64 n] w fun e w' => e = .returned (.int .u32 (p2 n)) ∧ w = w' := by
  go_enter Tryd.func25, Tryd.ntmps25
  go_wp2
  go_loop [3, 4] (fun p i => ∃ k : Nat, k ≤ n ∧ i = .int .i64 k ∧ p = .int .u32 (p2 k)) (fun _ i => n - (intOf i).toNat)
  case atStart => exact ⟨0, Nat.zero_le _, rfl, rfl⟩
  case round =>
    obtain ⟨k, hk, rfl, rfl⟩ := hrel
    have b1 := p2_pos k
    by_cases hlt : k < n
    · have b2 := p2_le (k := k) (by omega)
      have b3 : p2 (k + 1) = p2 k * 2 := p2_succ k
      have b4 := p2_lt (k := k + 1) (by omega)
      have B : Hid (p2 (k + 1) = p2 k * 2) := b3
      have b5 : p2 k * 2 < 4294967296 := by omega
      clear b3 b4
      go_wp2
      go_round
      case rel => exact ⟨k + 1, by omega, by go_num, by rw [B.out]⟩
      case measure => simp [intOf]; omega
    · go_wp2
      go_ret
      obtain rfl : k = n := by omega
      exact ⟨rfl, rfl⟩

/-- Bits of a word: so many from one on. -/
def fl (w : Int) (lo many : Nat) : Int := w / p2 lo % p2 many
theorem fl_nonneg (w : Int) (lo many : Nat) : 0 ≤ fl w lo many := Int.emod_nonneg _ (by have := p2_pos many; omega)
theorem fl_lt (w : Int) (lo many : Nat) : fl w lo many < p2 many := Int.emod_lt_of_pos _ (by have := p2_pos many; omega)
theorem fl_step (w : Int) (lo many : Nat) (h0 : 0 ≤ w) : fl w lo (many + 1) = 2 * fl w (lo + 1) many + w / p2 lo % 2 := by
  unfold fl
  rw [p2_succ lo, p2_succ many]
  have hp := p2_pos lo
  have hq := p2_pos many
  have e1 : w / (p2 lo * 2) = w / p2 lo / 2 := by rw [← Int.ediv_ediv_of_nonneg (by omega)]
  rw [e1]
  generalize w / p2 lo = x
  generalize p2 many = q at *
  have e2 : x % (q * 2) = x - (q * 2) * (x / (q * 2)) := by have := Int.mul_ediv_add_emod x (q * 2); omega
  have e3 : x / (q * 2) = x / 2 / q := by rw [Int.mul_comm, ← Int.ediv_ediv_of_nonneg (by omega)]
  have e4 := Int.mul_ediv_add_emod (x / 2) q
  have e5 := Int.mul_ediv_add_emod x 2
  rw [e2, e3]
  have e6 : q * 2 * (x / 2 / q) = 2 * (q * (x / 2 / q)) := by rw [Int.mul_comm q 2, Int.mul_assoc]
  rw [e6]
  omega

set_option maxHeartbeats 400000 in
theorem bits_any (c : Int) (hi lo : Nat) (w : World) (h0 : 0 ≤ c) (h1 : c < 4294967296) (hl : lo ≤ hi) (hh : hi < 32) :
    Calls Tryd.prog 23 #[.int .u32 c, .int .i64 hi, .int .i64 lo] w fun e w' => e = .returned (.int .u32 (fl c lo (hi + 1 - lo))) ∧ w = w' := by
  go_enter Tryd.func23, Tryd.ntmps23
  go_wp2
  go_loop [7, 8] (fun n i => ∃ k : Nat, lo ≤ k ∧ k ≤ hi + 1 ∧ i = .int .i64 ((k : Int) - 1) ∧ n = .int .u32 (fl c k (hi + 1 - k))) (fun _ i => (intOf i + 1).toNat)
  case atStart => 
    refine ⟨hi + 1, by omega, by omega, ?_, ?_⟩
    · go_num
    · rw [Nat.sub_self]; unfold fl p2; simp
  case round =>
    obtain ⟨k, hk1, hk2, rfl, rfl⟩ := hrel
    by_cases hlt : lo < k
    · obtain ⟨j, rfl⟩ : ∃ j, k = j + 1 := ⟨k - 1, by omega⟩
      have e1 : ((j + 1 : Nat) : Int) - 1 = j := by omega
      have e2 : hi + 1 - (j + 1) = hi - j := by omega
      rw [e1, e2]
      have b1 := fl_nonneg c (j + 1) (hi - j)
      have b2 := fl_lt c (j + 1) (hi - j)
      have b3 := p2_le (k := hi - j) (by omega)
      have b4 := p2_pos j
      have B : Hid (fl c j (hi - j + 1) = 2 * fl c (j + 1) (hi - j) + c / p2 j % 2) := fl_step c j (hi - j) h0
      have hj : lo ≤ j := by omega
      have hj2 : j ≤ hi := by omega
      have b6 : 0 ≤ c / p2 j := Int.ediv_nonneg h0 (by omega)
      have b7 : c / p2 j < 4294967296 := Int.lt_of_le_of_lt (Int.ediv_le_self _ h0) h1
      have b5 : fl c (j + 1) (hi - j) < 2147483648 := by omega
      clear e1 e2 b2 b3 hlt
      go_wp2_with (go_at_call 25; refine (pow_any j _ (by omega)).mono ?_; rintro e w' ⟨rfl, rfl⟩)
      go_round
      case rel => exact ⟨j, by omega, by omega, rfl, by rw [show hi + 1 - j = hi - j + 1 by omega, B.out]⟩
      case measure => simp [intOf]
    · obtain rfl : k = lo := by omega
      go_wp2
      go_ret
      exact ⟨rfl, rfl⟩
theorem signed_ref (n : Int) (w : World) (h0 : 0 ≤ n) (h1 : n < 4294967296) :
    Calls Tryd.prog 28 #[.int .u32 n] w fun e w' => e = .returned (.int .i64 (sgn n)) ∧ w = w' := by
  by_cases h : 2147483648 ≤ n
  · go_enter Tryd.func28, Tryd.ntmps28
    go_wp2
    go_ret
    exact ⟨by simp [sgn, h], rfl⟩
  · go_enter Tryd.func28, Tryd.ntmps28
    go_wp2
    go_ret
    exact ⟨by simp [sgn]; omega, rfl⟩
theorem word_any (n : Int) (w : World) (h0 : -4294967296 ≤ n) (h1 : n < 4294967296) :
    Calls Tryd.prog 41 #[.int .i64 n] w fun e w' => e = .returned (.int .u32 (n % 4294967296)) ∧ w = w' := by
  by_cases h : n < 0
  · go_enter Tryd.func41, Tryd.ntmps41
    go_wp2
    go_ret
    exact ⟨ret_int (by omega), rfl⟩
  · go_enter Tryd.func41, Tryd.ntmps41
    go_wp2
    go_ret
    exact ⟨ret_int (by omega), rfl⟩
/-- A number of so many bits, with its sign, as a word. -/
def sgnF (n : Int) (m : Nat) : Int := if p2 m ≤ n then (n - p2 m * 2) % 4294967296 else n
theorem pow_i (n : Int) (w : World) (h0 : 0 ≤ n) (hn : n < 32) :
    Calls Tryd.prog 25 #[.int .i64 n] w fun e w' => e = .returned (.int .u32 (p2 n.toNat)) ∧ w = w' := by
  obtain ⟨k, rfl⟩ := Int.eq_ofNat_of_zero_le h0
  exact pow_any k w (by omega)
theorem bits_i (c hi lo : Int) (w : World) (h0 : 0 ≤ c) (h1 : c < 4294967296) (h2 : 0 ≤ lo) (hl : lo ≤ hi) (hh : hi < 32) :
    Calls Tryd.prog 23 #[.int .u32 c, .int .i64 hi, .int .i64 lo] w fun e w' => e = .returned (.int .u32 (fl c lo.toNat (hi.toNat + 1 - lo.toNat))) ∧ w = w' := by
  obtain ⟨b, rfl⟩ := Int.eq_ofNat_of_zero_le h2
  obtain ⟨a, rfl⟩ := Int.eq_ofNat_of_zero_le (show 0 ≤ hi by omega)
  exact bits_any c a b w h0 h1 (by omega) (by omega)
theorem bits_p (c hi lo : Int) (w : World) (h0 : 0 ≤ c) (h1 : c < 4294967296) (h2 : 0 ≤ lo) (hl : lo ≤ hi) (hh : hi < 32) :
    Calls Tryd.prog 23 #[.int .u32 c, .int .i64 hi, .int .i64 lo] w fun e w' => e = .returned (.int .u32 (c / 2 ^ lo.toNat % 2 ^ (hi.toNat + 1 - lo.toNat))) ∧ w = w' := bits_i c hi lo w h0 h1 h2 hl hh
theorem pow_p (n : Int) (w : World) (h0 : 0 ≤ n) (hn : n < 32) :
    Calls Tryd.prog 25 #[.int .i64 n] w fun e w' => e = .returned (.int .u32 (2 ^ n.toNat)) ∧ w = w' := pow_i n w h0 hn
set_option maxHeartbeats 400000 in
theorem sign_any (n : Int) (m : Nat) (w : World) (h0 : 0 ≤ n) (h1 : n < 4294967296) (hm : m < 32) :
    Calls Tryd.prog 24 #[.int .u32 n, .int .i64 ((m : Int) + 1)] w fun e w' => e = .returned (.int .u32 (sgnF n m)) ∧ w = w' := by
  have b1 := p2_pos m
  have b2 := p2_le hm
  by_cases h : p2 m ≤ n
  · go_enter Tryd.func24, Tryd.ntmps24
    go_wp2_with (first | (go_at_call 25; refine (pow_any m _ (by omega)).mono ?_; rintro e w' ⟨rfl, rfl⟩) | (go_at_call 41; refine (word_any _ _ (by omega) (by omega)).mono ?_; rintro e w' ⟨rfl, rfl⟩))
    go_ret
    exact ⟨ret_int (by rw [sgnF, if_pos h]), rfl⟩
  · go_enter Tryd.func24, Tryd.ntmps24
    go_wp2_with (go_at_call 25; refine (pow_any m _ (by omega)).mono ?_; rintro e w' ⟨rfl, rfl⟩)
    go_ret
    exact ⟨ret_int (by rw [sgnF, if_neg (by omega)]), rfl⟩
theorem sign_i (n m : Int) (w : World) (h0 : 0 ≤ n) (h1 : n < 4294967296) (hm0 : 1 ≤ m) (hm : m ≤ 32) :
    Calls Tryd.prog 24 #[.int .u32 n, .int .i64 m] w fun e w' => e = .returned (.int .u32 (sgnF n (m - 1).toNat)) ∧ w = w' := by
  obtain ⟨j, hj⟩ := Int.eq_ofNat_of_zero_le (show 0 ≤ m - 1 by omega)
  obtain rfl : m = (j : Int) + 1 := by omega
  have e : ((j : Int) + 1 - 1).toNat = j := by omega
  rw [e]
  exact sign_any n j w h0 h1 (by omega)
theorem sign_v (n m v : Int) (w : World) (h0 : 0 ≤ n) (h1 : n < 4294967296) (hm0 : 1 ≤ m) (hm : m ≤ 32) (hv : sgnF n (m - 1).toNat = v) :
    Calls Tryd.prog 24 #[.int .u32 n, .int .i64 m] w fun e w' => e = .returned (.int .u32 v) ∧ w = w' := hv ▸ sign_i n m w h0 h1 hm0 hm
end Go.Proofs.YtamilahkdinjkaaDoor
