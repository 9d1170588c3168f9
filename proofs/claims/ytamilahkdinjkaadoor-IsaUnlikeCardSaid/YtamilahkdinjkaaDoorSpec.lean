/-
  What isa's forms lay and take, as plain functions on numbers; no program here.
-/
import Derived.Laws.BitsAllLaws
namespace Go.Proofs.YtamilahkdinjkaaDoor
set_option linter.unusedVariables false
set_option linter.unusedSimpArgs false

def sgn (n : Int) : Int := if 2147483648 ≤ n then n - 4294967296 else n
def regB (n : Int) (has : Bool) : Bool := decide (0 ≤ n) && decide (n < 32) && (has || n == 0)

/-- The forms. -/
inductive Fm where
  | u | j | i | load | shift | b | s | r | fence | all | lr | a | csr

def withinZ (a b n : Int) : Bool := decide (a ≤ sgn n) && decide (sgn n ≤ b)
def evenZ (a b n : Int) : Bool := (n % 2 == 0) && withinZ a b n

def mayZ : Fm → Int → Bool
  | .u, n => n % 4096 == 0
  | .j, n => evenZ (-1048576) 1048574 n
  | .b, n => evenZ (-4096) 4094 n
  | .i, n | .load, n | .s, n => withinZ (-2048) 2047 n
  | .shift, n => withinZ 0 31 n
  | .fence, n => withinZ 0 255 n
  | _, n => n == 0

def putZ : Fm → Int → Int
  | .u, n => n
  | .j, n => n / 1048576 % 2 * 2147483648 + n / 2 % 1024 * 2097152 + n / 2048 % 2 * 1048576 + n / 4096 % 256 * 4096
  | .b, n => n / 4096 % 2 * 2147483648 + n / 32 % 64 * 33554432 + n / 2 % 16 * 256 + n / 2048 % 2 * 128
  | .s, n => n / 32 % 128 * 33554432 + n % 32 * 128
  | .i, n | .load, n | .shift, n | .fence, n => n * 1048576 % 4294967296
  | _, _ => 0

def hi (w k : Int) : Int := if w < 2147483648 then 0 else 4294967296 - k

def takeZ : Fm → Int → Int
  | .u, w => w - w % 4096
  | .j, w => hi w 1048576 + w / 4096 % 256 * 4096 + w / 1048576 % 2 * 2048 + w / 2097152 % 1024 * 2
  | .b, w => hi w 4096 + w / 128 % 2 * 2048 + w / 33554432 % 64 * 32 + w / 256 % 16 * 2
  | .s, w => hi w 2048 + w / 33554432 % 64 * 32 + w / 128 % 32
  | .i, w | .load, w => w / 1048576 % 4096 + hi w 4096
  | .shift, w => w / 1048576 % 32
  | .fence, w => w / 1048576 % 256
  | _, _ => 0

def maskZ : Fm → Int
  | .u | .j => 127
  | .i | .load | .b | .s => 28799
  | .r | .shift => 4261441663
  | .a => 4160778367
  | .lr => 4193284223
  | .fence => 4027580415
  | .all => 4294967295
  | .csr => 4294963327
def rdZ : Fm → Bool
  | .b | .s | .fence | .all => false
  | _ => true
def rs1Z : Fm → Bool
  | .u | .j | .fence | .all | .csr => false
  | _ => true
def rs2Z : Fm → Bool
  | .b | .s | .r | .a => true
  | _ => false
def aZ : Fm → Bool
  | .a | .lr => true
  | _ => false

theorem pow_lt32 {k : Nat} (h : k < 32) : (2 : Int) ^ k < 4294967296 := by
  have h1 : (2 : Nat) ^ k < 2 ^ 32 := Nat.pow_lt_pow_right (by omega) h
  have h2 : ((2 ^ k : Nat) : Int) < 4294967296 := by omega
  simpa using h2
theorem pow_pos32 {k : Nat} : (0 : Int) < 2 ^ k := by
  have h1 : 0 < (2 : Nat) ^ k := Nat.pow_pos (by omega)
  have h2 : (0 : Int) < ((2 ^ k : Nat) : Int) := by omega
  simpa using h2
theorem high_eq {k : Nat} (hk : k < 32) : 4294967295 * (2 : Int) ^ k % 4294967296 = 4294967296 - 2 ^ k := by
  have hp := pow_lt32 hk
  have hq := pow_pos32 (k := k)
  generalize (2 : Int) ^ k = x at *
  omega
theorem mask_mod (x : Int) (j : Nat) (h0 : 0 ≤ x) (h1 : x < 4294967296) (hj : j ≤ 32) : bits .and .u32 x ((2 ^ j - 1) % 4294967296) = x % 2 ^ j := by
  obtain ⟨n, rfl⟩ := Int.eq_ofNat_of_zero_le h0
  have hle : (2 : Nat) ^ j ≤ 2 ^ 32 := Nat.pow_le_pow_right (by omega) hj
  have hpos : 0 < (2 : Nat) ^ j := Nat.pow_pos (by omega)
  have e : ((2 : Int) ^ j - 1) % 4294967296 = ((2 ^ j - 1 : Nat) : Int) := by
    have : ((2 : Int) ^ j) = ((2 ^ j : Nat) : Int) := by simp
    rw [this]; omega
  rw [e, u32_and_nat n _ (by omega) (by omega), Nat.and_two_pow_sub_one_eq_mod]
  simp
theorem part_eq (n : Int) (hi lo : Nat) (h0 : 0 ≤ n) (h1 : n < 4294967296) (_hk : lo ≤ hi) (hh : hi < 32) :
    bits BinOp.and IntKind.u32 (n / 2 ^ lo) ((2 ^ (hi - lo + 1) - 1) % 4294967296) = n / 2 ^ lo % 2 ^ (hi - lo + 1) :=
  mask_mod _ _ (Int.ediv_nonneg h0 (Int.le_of_lt pow_pos32)) (Int.lt_of_le_of_lt (Int.ediv_le_self _ h0) h1) (by omega)
theorem or_add (i : Nat) (a b : Int) (h0 : 0 ≤ a) (h1 : a < 4294967296) (h2 : 0 ≤ b) (h3 : b < 4294967296) (ha : a % 2 ^ i = 0) (hb : b < 2 ^ i) : bits .or .u32 a b = a + b := by
  obtain ⟨x, rfl⟩ := Int.eq_ofNat_of_zero_le h0
  obtain ⟨y, rfl⟩ := Int.eq_ofNat_of_zero_le h2
  have e : ((2 : Int) ^ i) = ((2 ^ i : Nat) : Int) := by simp
  rw [e] at ha hb
  rw [u32_or_nat x y (by omega) (by omega), nat_join i x y (by omega) (by omega)]
  simp
theorem or_add' (i : Nat) (a b : Int) (h0 : 0 ≤ a) (h1 : a < 4294967296) (h2 : 0 ≤ b) (h3 : b < 4294967296) (ha : b % 2 ^ i = 0) (hb : a < 2 ^ i) : bits .or .u32 a b = a + b := by
  obtain ⟨x, rfl⟩ := Int.eq_ofNat_of_zero_le h0
  obtain ⟨y, rfl⟩ := Int.eq_ofNat_of_zero_le h2
  have e : ((2 : Int) ^ i) = ((2 ^ i : Nat) : Int) := by simp
  rw [e] at ha hb
  rw [u32_or_nat x y (by omega) (by omega), Nat.or_comm, nat_join i y x (by omega) (by omega)]
  omega
theorem andNot12 (n : Int) (h0 : 0 ≤ n) (h1 : n < 4294967296) : bits .andNot .u32 n 4095 = n - n % 4096 := by
  obtain ⟨x, rfl⟩ := Int.eq_ofNat_of_zero_le h0
  have e : (4095 : Int) = ((4095 : Nat) : Int) := rfl
  rw [e, u32_andNot_nat x _ (by omega) (by omega)]
  have h : x = x / 4096 * 4096 + x % 4096 := by omega
  have hm : x &&& (4294967295 - 4095) = x / 4096 * 4096 := by
    apply Nat.eq_of_testBit_eq
    intro k
    rw [Nat.testBit_and]
    have e2 : (4294967295 - 4095 : Nat) = (2 ^ 20 - 1) * 2 ^ 12 := by decide
    have e3 : x / 4096 * 4096 = x / 2 ^ 12 * 2 ^ 12 := rfl
    rw [e2, e3, Nat.testBit_mul_two_pow, Nat.testBit_mul_two_pow, Nat.testBit_two_pow_sub_one, Nat.testBit_div_two_pow]
    by_cases hk : 12 ≤ k
    · have : k - 12 + 12 = k := by omega
      rw [this]
      by_cases h20 : k - 12 < 20
      · simp [hk, h20]
      · have : x.testBit k = false := Nat.testBit_lt_two_pow (Nat.lt_of_lt_of_le (by omega : x < 2 ^ 32) (Nat.pow_le_pow_right (by omega) (by omega)))
        simp [this]
    · simp [hk]
  rw [hm]; omega

/-! ### What the closures' words come to -/
theorem put_j_eq (n : Int) : bits .or .u32 (bits .or .u32 (bits .or .u32 (n / 1048576 % 2 * 2147483648) (n / 2 % 1024 * 2097152)) (n / 2048 % 2 * 1048576)) (n / 4096 % 256 * 4096) = putZ .j n := by
  rw [or_add 31 (n / 1048576 % 2 * 2147483648) (n / 2 % 1024 * 2097152), or_add 21 _ (n / 2048 % 2 * 1048576), or_add 20 _ (n / 4096 % 256 * 4096)]
  · rfl
  all_goals omega
theorem put_b_eq (n : Int) : bits .or .u32 (bits .or .u32 (bits .or .u32 (n / 4096 % 2 * 2147483648) (n / 32 % 64 * 33554432)) (n / 2 % 16 * 256)) (n / 2048 % 2 * 128) = putZ .b n := by
  rw [or_add 31 (n / 4096 % 2 * 2147483648) (n / 32 % 64 * 33554432), or_add 25 _ (n / 2 % 16 * 256), or_add 8 _ (n / 2048 % 2 * 128)]
  · rfl
  all_goals omega
theorem put_s_eq (n : Int) : bits .or .u32 (n / 32 % 128 * 33554432) (n % 32 * 128) = putZ .s n := by
  rw [or_add 25]
  · rfl
  all_goals omega
theorem hi_or (n k : Int) : hi n k = 0 ∨ hi n k = 4294967296 - k := by
  unfold hi; split
  · exact .inl rfl
  · exact .inr rfl
theorem take_j_eq (n : Int) : bits .or .u32 (bits .or .u32 (bits .or .u32 (hi n 1048576) (n / 4096 % 256 * 4096)) (n / 1048576 % 2 * 2048)) (n / 2097152 % 1024 * 2) = takeZ .j n := by
  show _ = hi n 1048576 + n / 4096 % 256 * 4096 + n / 1048576 % 2 * 2048 + n / 2097152 % 1024 * 2
  have h := hi_or n 1048576
  generalize hi n 1048576 = x at *
  rw [or_add 20 _ (n / 4096 % 256 * 4096), or_add 12 _ (n / 1048576 % 2 * 2048), or_add 11 _ (n / 2097152 % 1024 * 2)] <;> omega
theorem take_b_eq (n : Int) : bits .or .u32 (bits .or .u32 (bits .or .u32 (hi n 4096) (n / 128 % 2 * 2048)) (n / 33554432 % 64 * 32)) (n / 256 % 16 * 2) = takeZ .b n := by
  show _ = hi n 4096 + n / 128 % 2 * 2048 + n / 33554432 % 64 * 32 + n / 256 % 16 * 2
  have h := hi_or n 4096
  generalize hi n 4096 = x at *
  rw [or_add 12 _ (n / 128 % 2 * 2048), or_add 11 _ (n / 33554432 % 64 * 32), or_add 5 _ (n / 256 % 16 * 2)] <;> omega
theorem take_s_eq (n : Int) : bits .or .u32 (bits .or .u32 (hi n 2048) (n / 33554432 % 64 * 32)) (n / 128 % 32) = takeZ .s n := by
  show _ = hi n 2048 + n / 33554432 % 64 * 32 + n / 128 % 32
  have h := hi_or n 2048
  generalize hi n 2048 = x at *
  rw [or_add 11 _ (n / 33554432 % 64 * 32), or_add 5 _ (n / 128 % 32)] <;> omega
theorem take_i_eq (n : Int) : bits .or .u32 (n / 1048576 % 4096) (hi n 4096) = takeZ .i n := by
  show _ = n / 1048576 % 4096 + hi n 4096
  have h := hi_or n 4096
  generalize hi n 4096 = x at *
  rw [or_add' 12] <;> omega

end Go.Proofs.YtamilahkdinjkaaDoor
