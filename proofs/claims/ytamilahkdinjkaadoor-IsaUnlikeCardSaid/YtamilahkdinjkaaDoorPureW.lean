/-
  The words of instructions, plainly: which row a word is of, by its fields; a word's instruction has that word; no program here.
-/
import Derived.Test.YtamilahkdinjkaaDoorIns
namespace Go.Proofs.YtamilahkdinjkaaDoor
set_option linter.unusedVariables false
set_option linter.unusedSimpArgs false

theorem land_field (x i j : Nat) : x &&& ((2 ^ j - 1) * 2 ^ i) = x / 2 ^ i % 2 ^ j * 2 ^ i := by
  apply Nat.eq_of_testBit_eq
  intro n
  rw [Nat.testBit_and, Nat.testBit_mul_two_pow, Nat.testBit_mul_two_pow, Nat.testBit_two_pow_sub_one, Nat.testBit_mod_two_pow, Nat.testBit_div_two_pow]
  by_cases h : i ≤ n
  · have e : n - i + i = n := by omega
    rw [e]
    simp [h, Bool.and_comm]
  · simp [h]
theorem land_add (x m1 m2 i : Nat) (h1 : m1 < 2 ^ i) (h2 : m2 % 2 ^ i = 0) : x &&& (m2 + m1) = (x &&& m2) + (x &&& m1) := by
  rw [← nat_join i m2 m1 h2 h1, Nat.and_or_distrib_left, nat_join i]
  · have e : m2 = (m2 / 2 ^ i) * 2 ^ i := by
      have := Nat.div_add_mod m2 (2 ^ i)
      rw [h2, Nat.add_zero, Nat.mul_comm] at this
      exact this.symm
    have : (x &&& m2) % 2 ^ i = 0 := by
      apply Nat.eq_of_testBit_eq
      intro n
      rw [Nat.testBit_mod_two_pow, Nat.testBit_and, e, Nat.testBit_mul_two_pow]
      by_cases h : n < i
      · have h' : ¬ i ≤ n := by omega
        simp [h']
      · simp [h]
    exact this
  · exact Nat.lt_of_le_of_lt Nat.and_le_right h1

/-- x lies within the bits of m. -/
def InM (m x : Int) : Prop := 0 ≤ x ∧ x < 4294967296 ∧ bits .and .u32 x m = x
theorem landI_field (x : Int) (h0 : 0 ≤ x) (h1 : x < 4294967296) (i j : Nat) (m : Nat) (hm : m = (2 ^ j - 1) * 2 ^ i) (hlt : m < 4294967296) :
    bits .and .u32 x m = x / ((2 ^ i : Nat) : Int) % ((2 ^ j : Nat) : Int) * ((2 ^ i : Nat) : Int) := by
  obtain ⟨n, rfl⟩ := Int.eq_ofNat_of_zero_le h0
  rw [u32_and_nat n m (by omega) hlt, hm, land_field]
  simp
theorem landI_add (x : Int) (h0 : 0 ≤ x) (h1 : x < 4294967296) (m2 m1 i : Nat) (hm1 : m1 < 2 ^ i) (hm2 : m2 % 2 ^ i = 0) (hlt : m2 + m1 < 4294967296) :
    bits .and .u32 x ((m2 + m1 : Nat) : Int) = bits .and .u32 x m2 + bits .and .u32 x m1 := by
  obtain ⟨n, rfl⟩ := Int.eq_ofNat_of_zero_le h0
  rw [u32_and_nat n _ (by omega) hlt, u32_and_nat n _ (by omega) (by omega), u32_and_nat n _ (by omega) (by omega), land_add n m1 m2 i hm1 hm2]
  simp

theorem or_disj (x y : Nat) (h : x &&& y = 0) (hx : x < 4294967296) (hy : y < 4294967296) : x ||| y = x + y := by
  have hb : BitVec.ofNat 33 x &&& BitVec.ofNat 33 y = 0#33 := by
    apply BitVec.eq_of_toNat_eq
    rw [BitVec.toNat_and, BitVec.toNat_ofNat, BitVec.toNat_ofNat, Nat.mod_eq_of_lt (by omega), Nat.mod_eq_of_lt (by omega), h]
    rfl
  have := congrArg BitVec.toNat (BitVec.add_eq_or_of_and_eq_zero _ _ hb)
  rw [BitVec.toNat_or, BitVec.toNat_add, BitVec.toNat_ofNat, BitVec.toNat_ofNat, Nat.mod_eq_of_lt (a := x) (by omega), Nat.mod_eq_of_lt (a := y) (by omega), Nat.mod_eq_of_lt (by omega)] at this
  omega
theorem orM {m1 m2 x y : Int} (hx : InM m1 x) (hy : InM m2 y) (h1 : 0 ≤ m1) (h2 : 0 ≤ m2) (hs : m1 + m2 < 4294967296) (hd : bits .and .u32 m1 m2 = 0) : bits .or .u32 x y = x + y ∧ InM (m1 + m2) (x + y) := by
  obtain ⟨x0, x1, x2⟩ := hx
  obtain ⟨y0, y1, y2⟩ := hy
  obtain ⟨x, rfl⟩ := Int.eq_ofNat_of_zero_le x0
  obtain ⟨y, rfl⟩ := Int.eq_ofNat_of_zero_le y0
  obtain ⟨m1, rfl⟩ := Int.eq_ofNat_of_zero_le h1
  obtain ⟨m2, rfl⟩ := Int.eq_ofNat_of_zero_le h2
  rw [u32_and_nat _ _ (by omega) (by omega)] at x2 y2 hd
  have x2' : x &&& m1 = x := by exact_mod_cast x2
  have y2' : y &&& m2 = y := by exact_mod_cast y2
  have hd' : m1 &&& m2 = 0 := by exact_mod_cast hd
  have e : m1 + m2 = m1 ||| m2 := (or_disj m1 m2 hd' (by omega) (by omega)).symm
  have hxy : x &&& y = 0 := by
    rw [← x2', ← y2', Nat.and_assoc, ← Nat.and_assoc m1 y m2, Nat.and_comm m1 y, Nat.and_assoc, hd']
    simp
  have ho := or_disj x y hxy (by omega) (by omega)
  have hlt : x + y ≤ m1 + m2 := by
    have a1 : x ≤ m1 := by rw [← x2']; exact Nat.and_le_right
    have a2 : y ≤ m2 := by rw [← y2']; exact Nat.and_le_right
    omega
  have hin : (x + y) &&& (m1 + m2) = x + y := by
    rw [e, ← ho]
    apply Nat.eq_of_testBit_eq
    intro n
    have a1 := congrArg (Nat.testBit · n) x2'
    have a2 := congrArg (Nat.testBit · n) y2'
    simp only [Nat.testBit_and, Nat.testBit_or] at a1 a2 ⊢
    revert a1 a2
    cases x.testBit n <;> cases y.testBit n <;> cases m1.testBit n <;> cases m2.testBit n <;> simp
  refine ⟨by rw [u32_or_nat _ _ (by omega) (by omega), ho]; simp, by omega, by omega, ?_⟩
  have e1 : ((x : Int) + y) = ((x + y : Nat) : Int) := by simp
  have e2 : ((m1 : Int) + m2) = ((m1 + m2 : Nat) : Int) := by simp
  rw [e1, e2, u32_and_nat _ _ (by omega) (by omega), hin]

/-- The bits that are a form's own. -/
def fixZ : Fm → Int → Int
  | .u, c | .j, c => c % 128
  | .i, c | .load, c | .b, c | .s, c => c / 4096 % 8 * 4096 + c % 128
  | .r, c | .shift, c => c / 33554432 % 128 * 33554432 + (c / 4096 % 8 * 4096 + c % 128)
  | .a, c => c / 134217728 % 32 * 134217728 + (c / 4096 % 8 * 4096 + c % 128)
  | .lr, c => c / 134217728 % 32 * 134217728 + (c / 1048576 % 32 * 1048576 + (c / 4096 % 8 * 4096 + c % 128))
  | .fence, c => c / 268435456 % 16 * 268435456 + c % 1048576
  | .all, c => c
  | .csr, c => c / 4096 % 1048576 * 4096 + c % 128

theorem land_low (x : Int) (h0 : 0 ≤ x) (h1 : x < 4294967296) : bits .and .u32 x 127 = x % 128 := by
  have := landI_field x h0 h1 0 7 127 (by decide) (by decide)
  simpa using this
theorem land_f3 (x : Int) (h0 : 0 ≤ x) (h1 : x < 4294967296) : bits .and .u32 x 28799 = x / 4096 % 8 * 4096 + x % 128 := by
  have h := landI_add x h0 h1 28672 127 12 (by decide) (by decide) (by decide)
  have a := landI_field x h0 h1 12 3 28672 (by decide) (by decide)
  have b := land_low x h0 h1
  simp only [Nat.reducePow, Nat.reduceAdd, Int.cast_ofNat_Int] at h a b
  omega
theorem and_fix (f : Fm) (x : Int) (h0 : 0 ≤ x) (h1 : x < 4294967296) : bits .and .u32 x (maskZ f) = fixZ f x := by
  have b := land_low x h0 h1
  have c := land_f3 x h0 h1
  cases f
  case u | j => exact b
  case i | load | b | s => exact c
  case r | shift =>
    have h := landI_add x h0 h1 4261412864 28799 25 (by decide) (by decide) (by decide)
    have a := landI_field x h0 h1 25 7 4261412864 (by decide) (by decide)
    simp only [Nat.reducePow, Nat.reduceAdd, Int.cast_ofNat_Int] at h a
    simp only [maskZ, fixZ]; omega
  case a =>
    have h := landI_add x h0 h1 4160749568 28799 27 (by decide) (by decide) (by decide)
    have a := landI_field x h0 h1 27 5 4160749568 (by decide) (by decide)
    simp only [Nat.reducePow, Nat.reduceAdd, Int.cast_ofNat_Int] at h a
    simp only [maskZ, fixZ]; omega
  case lr =>
    have h := landI_add x h0 h1 4160749568 32534655 27 (by decide) (by decide) (by decide)
    have a := landI_field x h0 h1 27 5 4160749568 (by decide) (by decide)
    have h2 := landI_add x h0 h1 32505856 28799 20 (by decide) (by decide) (by decide)
    have a2 := landI_field x h0 h1 20 5 32505856 (by decide) (by decide)
    simp only [Nat.reducePow, Nat.reduceAdd, Int.cast_ofNat_Int] at h a h2 a2
    simp only [maskZ, fixZ]; omega
  case fence =>
    have h := landI_add x h0 h1 4026531840 1048575 28 (by decide) (by decide) (by decide)
    have a := landI_field x h0 h1 28 4 4026531840 (by decide) (by decide)
    have a2 := landI_field x h0 h1 0 20 1048575 (by decide) (by decide)
    simp only [Nat.reducePow, Nat.reduceAdd, Int.cast_ofNat_Int, Int.ediv_one, Int.mul_one] at h a a2
    simp only [maskZ, fixZ]; omega
  case all =>
    have a := landI_field x h0 h1 0 32 4294967295 (by decide) (by decide)
    simp only [Nat.reducePow, Nat.reduceAdd, Int.cast_ofNat_Int, Int.ediv_one, Int.mul_one] at a
    simp only [maskZ, fixZ]; omega
  case csr =>
    have h := landI_add x h0 h1 4294963200 127 12 (by decide) (by decide) (by decide)
    have a := landI_field x h0 h1 12 20 4294963200 (by decide) (by decide)
    simp only [Nat.reducePow, Nat.reduceAdd, Int.cast_ofNat_Int] at h a
    simp only [maskZ, fixZ]; omega

theorem hit_iff (c : Int) (k : Nat) (h0 : 0 ≤ c) (h1 : c < 4294967296) : hitK c k = true ↔ fixZ (formK k) c = bitsK k := by
  unfold hitK
  rw [and_fix _ _ h0 h1, beq_iff_eq]

/-! ### By the form alone -/
def decF (f : Fm) (op c : Int) : Inst :=
  ⟨op, if rdZ f then c / 128 % 32 else 0, if rs1Z f then c / 32768 % 32 else 0, if rs2Z f then c / 1048576 % 32 else 0, takeZ f c, aZ f && (c / 67108864 % 2 == 1), aZ f && (c / 33554432 % 2 == 1)⟩
def okF (f : Fm) (i : Inst) : Bool := regB i.rd (rdZ f) && regB i.rs1 (rs1Z f) && regB i.rs2 (rs2Z f) && mayZ f i.imm && (aZ f || (!i.aq && !i.rl))
def encF (f : Fm) (b : Int) (i : Inst) : Int := b + i.rd * 128 + i.rs1 * 32768 + i.rs2 * 1048576 + putZ f i.imm + (if i.aq then 67108864 else 0) + (if i.rl then 33554432 else 0)
theorem hi_cases (w k : Int) : (w < 2147483648 ∧ hi w k = 0) ∨ (2147483648 ≤ w ∧ hi w k = 4294967296 - k) := by
  unfold hi; split <;> omega
theorem sgn_cases (w : Int) : (w < 2147483648 ∧ sgn w = w) ∨ (2147483648 ≤ w ∧ sgn w = w - 4294967296) := by
  unfold sgn; split <;> omega
theorem ite_bit (c q : Int) : (if (c / q % 2 == 1) = true then q else 0) = c / q % 2 * q := by
  have : c / q % 2 = 0 ∨ c / q % 2 = 1 := by omega
  rcases this with h | h <;> simp [h]
theorem within_iff (a b n : Int) : withinZ a b n = true ↔ a ≤ sgn n ∧ sgn n ≤ b := by
  unfold withinZ; rw [Bool.and_eq_true]; exact and_congr (decide_eq_true_iff) (decide_eq_true_iff)
theorem hi_lo {w : Int} (h : w < 2147483648) (k : Int) : hi w k = 0 := if_pos h
theorem hi_up {w : Int} (h : 2147483648 ≤ w) (k : Int) : hi w k = 4294967296 - k := if_neg (by omega)
theorem dec_imm (f : Fm) (c : Int) (h0 : 0 ≤ c) (h1 : c < 4294967296) : mayZ f (takeZ f c) = true ∧ 0 ≤ takeZ f c ∧ takeZ f c < 4294967296 := by
  have s := sgn_cases (takeZ f c)
  rcases Int.lt_or_le c 2147483648 with hc | hc
  · have a := fun k => hi_lo hc k
    cases f <;> simp only [takeZ, mayZ, evenZ, within_iff, Bool.and_eq_true, beq_iff_eq, a] at s ⊢ <;> first | omega | simp
  · have a := fun k => hi_up hc k
    cases f <;> simp only [takeZ, mayZ, evenZ, within_iff, Bool.and_eq_true, beq_iff_eq, a] at s ⊢ <;> first | omega | simp
theorem dec_ok (f : Fm) (op c : Int) (h0 : 0 ≤ c) (h1 : c < 4294967296) : okF f (decF f op c) = true := by
  have hm := (dec_imm f c h0 h1).1
  unfold okF decF
  simp only [hm]
  have r1 : 0 ≤ c / 128 % 32 ∧ c / 128 % 32 < 32 := by omega
  have r2 : 0 ≤ c / 32768 % 32 ∧ c / 32768 % 32 < 32 := by omega
  have r3 : 0 ≤ c / 1048576 % 32 ∧ c / 1048576 % 32 < 32 := by omega
  cases f <;> simp [regB, rdZ, rs1Z, rs2Z, aZ, r1, r2, r3]
theorem flds_j (p q r : Int) (h : Int) (hp : 0 ≤ p ∧ p < 256) (hq : 0 ≤ q ∧ q < 2) (hr : 0 ≤ r ∧ r < 1024) (hh : h = 0 ∨ h = 4294967296 - 1048576) :
    (h + p * 4096 + q * 2048 + r * 2) / 1048576 % 2 = h / 1048576 % 2 ∧ (h + p * 4096 + q * 2048 + r * 2) / 2 % 1024 = r ∧ (h + p * 4096 + q * 2048 + r * 2) / 2048 % 2 = q ∧ (h + p * 4096 + q * 2048 + r * 2) / 4096 % 256 = p := by
  rcases hh with rfl | rfl <;> (refine ⟨?_, ?_, ?_, ?_⟩ <;> omega)
theorem flds_b (q r s : Int) (h : Int) (hq : 0 ≤ q ∧ q < 2) (hr : 0 ≤ r ∧ r < 64) (hs : 0 ≤ s ∧ s < 16) (hh : h = 0 ∨ h = 4294967296 - 4096) :
    (h + q * 2048 + r * 32 + s * 2) / 4096 % 2 = h / 4096 % 2 ∧ (h + q * 2048 + r * 32 + s * 2) / 32 % 64 = r ∧ (h + q * 2048 + r * 32 + s * 2) / 2 % 16 = s ∧ (h + q * 2048 + r * 32 + s * 2) / 2048 % 2 = q := by
  rcases hh with rfl | rfl <;> (refine ⟨?_, ?_, ?_, ?_⟩ <;> omega)
theorem put_take (f : Fm) (c : Int) (h0 : 0 ≤ c) (h1 : c < 4294967296) : putZ f (takeZ f c) = match f with
    | .u | .j => c / 4096 * 4096
    | .b | .s => c / 33554432 * 33554432 + c / 128 % 32 * 128
    | .i | .load => c / 1048576 * 1048576
    | .shift => c / 1048576 % 32 * 1048576
    | .fence => c / 1048576 % 256 * 1048576
    | _ => 0 := by
  have hj := flds_j (c / 4096 % 256) (c / 1048576 % 2) (c / 2097152 % 1024) (hi c 1048576) (by omega) (by omega) (by omega) (hi_or _ _)
  have hb := flds_b (c / 128 % 2) (c / 33554432 % 64) (c / 256 % 16) (hi c 4096) (by omega) (by omega) (by omega) (hi_or _ _)
  cases f
  case j =>
    simp only [takeZ, putZ]
    rw [hj.1, hj.2.1, hj.2.2.1, hj.2.2.2]
    clear hj hb
    rcases Int.lt_or_le c 2147483648 with hc | hc
    · rw [hi_lo hc]; omega
    · rw [hi_up hc]; omega
  case b =>
    simp only [takeZ, putZ]
    rw [hb.1, hb.2.1, hb.2.2.1, hb.2.2.2]
    clear hj hb
    rcases Int.lt_or_le c 2147483648 with hc | hc
    · rw [hi_lo hc]; omega
    · rw [hi_up hc]; omega
  all_goals
    clear hj hb
    rcases Int.lt_or_le c 2147483648 with hc | hc
    · have a := fun k => hi_lo hc k
      simp only [takeZ, putZ, a] <;> first | omega | rfl
    · have a := fun k => hi_up hc k
      simp only [takeZ, putZ, a] <;> first | omega | rfl
set_option maxHeartbeats 2000000 in
theorem enc_dec (f : Fm) (b op c : Int) (h0 : 0 ≤ c) (h1 : c < 4294967296) : encF f b (decF f op c) = c ↔ fixZ f c = b := by
  have hp := put_take f c h0 h1
  have e1 := ite_bit c 67108864
  have e2 := ite_bit c 33554432
  unfold encF
  cases f
  all_goals
    simp only [decF, rdZ, rs1Z, rs2Z, aZ, fixZ, Bool.true_and, Bool.false_and, if_true, if_false, Bool.false_eq_true, e1, e2]
    simp only at hp
    rw [hp]
    clear e1 e2 hp
    constructor <;> intro h <;> omega

/-! ### The instruction of an instruction's word -/
theorem regB_t {n : Int} (h : regB n true = true) : 0 ≤ n ∧ n < 32 := by
  simp [regB] at h; omega
theorem regB_f {n : Int} (h : regB n false = true) : n = 0 := by
  simp [regB] at h; omega
theorem regB_b {n : Int} {b : Bool} (h : regB n b = true) : 0 ≤ n ∧ n < 32 := by
  cases b
  · have := regB_f h; omega
  · exact regB_t h
theorem okF_iff (f : Fm) (i : Inst) : okF f i = true ↔ regB i.rd (rdZ f) = true ∧ regB i.rs1 (rs1Z f) = true ∧ regB i.rs2 (rs2Z f) = true ∧ mayZ f i.imm = true ∧ (aZ f = true ∨ (i.aq = false ∧ i.rl = false)) := by
  unfold okF
  simp only [Bool.and_eq_true, Bool.or_eq_true, Bool.not_eq_true', and_assoc]
theorem even_iff (a b n : Int) : evenZ a b n = true ↔ n % 2 = 0 ∧ a ≤ sgn n ∧ sgn n ≤ b := by
  unfold evenZ; rw [Bool.and_eq_true, within_iff, beq_iff_eq]

theorem take_put_j (b rd n : Int) (hb : 0 ≤ b ∧ b < 128) (hr : 0 ≤ rd ∧ rd < 32) (n0 : 0 ≤ n) (n1 : n < 4294967296) (hm : mayZ .j n = true) :
    0 ≤ b + rd * 128 + putZ .j n ∧ b + rd * 128 + putZ .j n < 4294967296 ∧ takeZ .j (b + rd * 128 + putZ .j n) = n ∧ (b + rd * 128 + putZ .j n) / 128 % 32 = rd ∧ (b + rd * 128 + putZ .j n) % 128 = b := by
  have h := (even_iff _ _ _).1 hm
  have s := sgn_cases n
  obtain ⟨p, hp⟩ : ∃ p, p = n / 4096 % 256 := ⟨_, rfl⟩
  obtain ⟨q, hq⟩ : ∃ q, q = n / 2048 % 2 := ⟨_, rfl⟩
  obtain ⟨r, hr'⟩ : ∃ r, r = n / 2 % 1024 := ⟨_, rfl⟩
  obtain ⟨t, ht⟩ : ∃ t, t = n / 1048576 % 2 := ⟨_, rfl⟩
  have e : putZ .j n = t * 2147483648 + r * 2097152 + q * 1048576 + p * 4096 := by rw [hp, hq, hr', ht]; rfl
  have en : n = t * (4294967296 - 1048576) + p * 4096 + q * 2048 + r * 2 := by omega
  have b1 : 0 ≤ p ∧ p < 256 := by omega
  have b2 : 0 ≤ q ∧ q < 2 := by omega
  have b3 : 0 ≤ r ∧ r < 1024 := by omega
  have b4 : t = 0 ∨ t = 1 := by omega
  rw [e]
  clear hp hq hr' ht s h hm n0 n1 e
  subst en
  simp only [takeZ]
  rcases b4 with rfl | rfl
  · rw [hi_lo (by omega)]
    refine ⟨?_, ?_, ?_, ?_, ?_⟩ <;> omega
  · rw [hi_up (by omega)]
    refine ⟨?_, ?_, ?_, ?_, ?_⟩ <;> omega
theorem take_put_b (b rs1 rs2 n : Int) (hb : fixZ .b b = b) (h1 : 0 ≤ rs1 ∧ rs1 < 32) (h2 : 0 ≤ rs2 ∧ rs2 < 32) (n0 : 0 ≤ n) (n1 : n < 4294967296) (hm : mayZ .b n = true) (c : Int) (hc : c = b + rs1 * 32768 + rs2 * 1048576 + putZ .b n) :
    0 ≤ c ∧ c < 4294967296 ∧ takeZ .b c = n ∧ c / 32768 % 32 = rs1 ∧ c / 1048576 % 32 = rs2 ∧ fixZ .b c = b := by
  have h := (even_iff _ _ _).1 hm
  have s := sgn_cases n
  obtain ⟨p, hp⟩ : ∃ p, p = n / 32 % 64 := ⟨_, rfl⟩
  obtain ⟨q, hq⟩ : ∃ q, q = n / 2048 % 2 := ⟨_, rfl⟩
  obtain ⟨r, hr'⟩ : ∃ r, r = n / 2 % 16 := ⟨_, rfl⟩
  obtain ⟨t, ht⟩ : ∃ t, t = n / 4096 % 2 := ⟨_, rfl⟩
  have e : putZ .b n = t * 2147483648 + p * 33554432 + r * 256 + q * 128 := by rw [hp, hq, hr', ht]; rfl
  have en : n = t * (4294967296 - 4096) + q * 2048 + p * 32 + r * 2 := by omega
  have b1 : 0 ≤ p ∧ p < 64 := by omega
  have b2 : 0 ≤ q ∧ q < 2 := by omega
  have b3 : 0 ≤ r ∧ r < 16 := by omega
  have b4 : t = 0 ∨ t = 1 := by omega
  rw [e] at hc
  clear hp hq hr' ht s h hm n0 n1 e
  simp only [fixZ] at hb ⊢
  obtain ⟨b5, h5⟩ : ∃ x, x = b / 4096 % 8 := ⟨_, rfl⟩
  obtain ⟨b6, h6⟩ : ∃ x, x = b % 128 := ⟨_, rfl⟩
  have h7 : 0 ≤ b5 ∧ b5 < 8 ∧ 0 ≤ b6 ∧ b6 < 128 := by omega
  rw [← h5, ← h6] at hb
  clear h5 h6
  subst hb hc en
  simp only [takeZ]
  rcases b4 with rfl | rfl
  · rw [hi_lo (by omega)]
    refine ⟨?_, ?_, ?_, ?_, ?_, ?_⟩ <;> omega
  · rw [hi_up (by omega)]
    refine ⟨?_, ?_, ?_, ?_, ?_, ?_⟩ <;> omega

theorem take_put_s (b rs1 rs2 n : Int) (hb : fixZ .s b = b) (h1 : 0 ≤ rs1 ∧ rs1 < 32) (h2 : 0 ≤ rs2 ∧ rs2 < 32) (n0 : 0 ≤ n) (n1 : n < 4294967296) (hm : mayZ .s n = true) (c : Int) (hc : c = b + rs1 * 32768 + rs2 * 1048576 + putZ .s n) :
    0 ≤ c ∧ c < 4294967296 ∧ takeZ .s c = n ∧ c / 32768 % 32 = rs1 ∧ c / 1048576 % 32 = rs2 ∧ fixZ .s c = b := by
  have h := (within_iff _ _ _).1 hm
  have s := sgn_cases n
  obtain ⟨p, hp⟩ : ∃ p, p = n / 32 % 64 := ⟨_, rfl⟩
  obtain ⟨r, hr'⟩ : ∃ r, r = n % 32 := ⟨_, rfl⟩
  obtain ⟨t, ht⟩ : ∃ t, t = n / 2048 % 2 := ⟨_, rfl⟩
  have e0 : n / 32 % 128 = t * 64 + p := by omega
  have e : putZ .s n = (t * 64 + p) * 33554432 + r * 128 := by
    show n / 32 % 128 * 33554432 + n % 32 * 128 = _
    rw [e0, hr']
  have en : n = t * (4294967296 - 2048) + p * 32 + r := by omega
  have b1 : 0 ≤ p ∧ p < 64 := by omega
  have b3 : 0 ≤ r ∧ r < 32 := by omega
  have b4 : t = 0 ∨ t = 1 := by omega
  rw [e] at hc
  clear hp hr' ht s h hm n0 n1 e e0
  simp only [fixZ] at hb ⊢
  obtain ⟨b5, h5⟩ : ∃ x, x = b / 4096 % 8 := ⟨_, rfl⟩
  obtain ⟨b6, h6⟩ : ∃ x, x = b % 128 := ⟨_, rfl⟩
  have h7 : 0 ≤ b5 ∧ b5 < 8 ∧ 0 ≤ b6 ∧ b6 < 128 := by omega
  rw [← h5, ← h6] at hb
  clear h5 h6
  subst hb hc en
  simp only [takeZ]
  rcases b4 with rfl | rfl
  · rw [hi_lo (by omega)]
    refine ⟨?_, ?_, ?_, ?_, ?_, ?_⟩ <;> omega
  · rw [hi_up (by omega)]
    refine ⟨?_, ?_, ?_, ?_, ?_, ?_⟩ <;> omega
theorem flds_a (b rd rs1 rs2 p q : Int) (hb : fixZ .a b = b) (h0 : 0 ≤ rd ∧ rd < 32) (h1 : 0 ≤ rs1 ∧ rs1 < 32) (h2 : 0 ≤ rs2 ∧ rs2 < 32) (hp : 0 ≤ p ∧ p < 2) (hq : 0 ≤ q ∧ q < 2) (c : Int) (hc : c = b + rd * 128 + rs1 * 32768 + rs2 * 1048576 + p * 67108864 + q * 33554432) :
    0 ≤ c ∧ c < 4294967296 ∧ c / 128 % 32 = rd ∧ c / 32768 % 32 = rs1 ∧ c / 1048576 % 32 = rs2 ∧ c / 67108864 % 2 = p ∧ c / 33554432 % 2 = q ∧ fixZ .a c = b := by
  simp only [fixZ] at hb ⊢
  obtain ⟨b4, h4⟩ : ∃ x, x = b / 134217728 % 32 := ⟨_, rfl⟩
  obtain ⟨b5, h5⟩ : ∃ x, x = b / 4096 % 8 := ⟨_, rfl⟩
  obtain ⟨b6, h6⟩ : ∃ x, x = b % 128 := ⟨_, rfl⟩
  have h7 : 0 ≤ b4 ∧ b4 < 32 ∧ 0 ≤ b5 ∧ b5 < 8 ∧ 0 ≤ b6 ∧ b6 < 128 := by omega
  rw [← h4, ← h5, ← h6] at hb
  clear h4 h5 h6
  subst hb hc
  refine ⟨?_, ?_, ?_, ?_, ?_, ?_, ?_, ?_⟩ <;> omega
theorem flds_lr (b rd rs1 p q : Int) (hb : fixZ .lr b = b) (h0 : 0 ≤ rd ∧ rd < 32) (h1 : 0 ≤ rs1 ∧ rs1 < 32) (hp : 0 ≤ p ∧ p < 2) (hq : 0 ≤ q ∧ q < 2) (c : Int) (hc : c = b + rd * 128 + rs1 * 32768 + p * 67108864 + q * 33554432) :
    0 ≤ c ∧ c < 4294967296 ∧ c / 128 % 32 = rd ∧ c / 32768 % 32 = rs1 ∧ c / 67108864 % 2 = p ∧ c / 33554432 % 2 = q ∧ fixZ .lr c = b := by
  simp only [fixZ] at hb ⊢
  obtain ⟨b3, h3⟩ : ∃ x, x = b / 1048576 % 32 := ⟨_, rfl⟩
  obtain ⟨b4, h4⟩ : ∃ x, x = b / 134217728 % 32 := ⟨_, rfl⟩
  obtain ⟨b5, h5⟩ : ∃ x, x = b / 4096 % 8 := ⟨_, rfl⟩
  obtain ⟨b6, h6⟩ : ∃ x, x = b % 128 := ⟨_, rfl⟩
  have h7 : 0 ≤ b4 ∧ b4 < 32 ∧ 0 ≤ b5 ∧ b5 < 8 ∧ 0 ≤ b6 ∧ b6 < 128 ∧ 0 ≤ b3 ∧ b3 < 32 := by omega
  rw [← h3, ← h4, ← h5, ← h6] at hb
  clear h3 h4 h5 h6
  subst hb hc
  refine ⟨?_, ?_, ?_, ?_, ?_, ?_, ?_⟩ <;> omega
set_option maxHeartbeats 4000000 in
theorem dec_enc (f : Fm) (b op : Int) (i : Inst) (hb : fixZ f b = b) (b0 : 0 ≤ b) (b1 : b < 4294967296) (ho : i.op = op) (n0 : 0 ≤ i.imm) (n1 : i.imm < 4294967296) (ok : okF f i = true) :
    0 ≤ encF f b i ∧ encF f b i < 4294967296 ∧ decF f op (encF f b i) = i ∧ fixZ f (encF f b i) = b := by
  obtain ⟨o, rd, rs1, rs2, imm, aq, rl⟩ := i
  rw [okF_iff] at ok
  simp only at ok n0 n1 ho
  subst ho
  obtain ⟨k1, k2, k3, k4, k5⟩ := ok
  have z := fun (n : Int) (h : regB n false = true) => regB_f h
  cases f
  case u =>
    have r1 := regB_t k1
    obtain rfl := regB_f k2
    obtain rfl := regB_f k3
    simp only [aZ, Bool.false_eq_true, false_or] at k5
    obtain ⟨rfl, rfl⟩ := k5
    simp only [mayZ, beq_iff_eq] at k4
    simp only [fixZ] at hb
    simp only [encF, decF, fixZ, putZ, takeZ, rdZ, rs1Z, rs2Z, aZ, Inst.mk.injEq, Bool.false_and, if_true, if_false, Bool.false_eq_true, true_and, and_true]
    refine ⟨?_, ?_, ⟨?_, ?_⟩, ?_⟩ <;> omega
  case j =>
    have r1 := regB_t k1
    obtain rfl := regB_f k2
    obtain rfl := regB_f k3
    simp only [aZ, Bool.false_eq_true, false_or] at k5
    obtain ⟨rfl, rfl⟩ := k5
    simp only [fixZ] at hb
    obtain ⟨h1, h2, h3, h4, h5⟩ := take_put_j b rd imm (by omega) r1 n0 n1 k4
    have e : encF .j b ⟨o, rd, 0, 0, imm, false, false⟩ = b + rd * 128 + putZ .j imm := by simp [encF]
    rw [e]
    simp only [decF, fixZ, rdZ, rs1Z, rs2Z, aZ, Inst.mk.injEq, Bool.false_and, if_true, if_false, Bool.false_eq_true, true_and, and_true]
    exact ⟨h1, h2, ⟨h4, h3⟩, h5⟩
  case b =>
    obtain rfl := regB_f k1
    have r1 := regB_t k2
    have r2 := regB_t k3
    simp only [aZ, Bool.false_eq_true, false_or] at k5
    obtain ⟨rfl, rfl⟩ := k5
    have e : encF .b b ⟨o, 0, rs1, rs2, imm, false, false⟩ = b + rs1 * 32768 + rs2 * 1048576 + putZ .b imm := by simp [encF]
    obtain ⟨h1, h2, h3, h4, h5, h6⟩ := take_put_b b rs1 rs2 imm hb r1 r2 n0 n1 k4 _ e
    refine ⟨h1, h2, ?_, h6⟩
    simp only [decF, rdZ, rs1Z, rs2Z, aZ, Inst.mk.injEq, Bool.false_and, if_true, if_false, Bool.false_eq_true, true_and, and_true]
    exact ⟨h4, h5, h3⟩
  case i =>
    have r1 := regB_t k1
    have r2 := regB_t k2
    obtain rfl := regB_f k3
    simp only [aZ, Bool.false_eq_true, false_or] at k5
    obtain ⟨rfl, rfl⟩ := k5
    simp only [mayZ, within_iff] at k4
    have s := sgn_cases imm
    simp only [fixZ] at hb
    simp only [encF, decF, fixZ, putZ, takeZ, hi, rdZ, rs1Z, rs2Z, aZ, Inst.mk.injEq, Bool.false_and, if_true, if_false, Bool.false_eq_true, true_and, and_true]
    refine ⟨?_, ?_, ⟨?_, ?_, ?_⟩, ?_⟩ <;> (try split) <;> omega
  case load =>
    have r1 := regB_t k1
    have r2 := regB_t k2
    obtain rfl := regB_f k3
    simp only [aZ, Bool.false_eq_true, false_or] at k5
    obtain ⟨rfl, rfl⟩ := k5
    simp only [mayZ, within_iff] at k4
    have s := sgn_cases imm
    simp only [fixZ] at hb
    simp only [encF, decF, fixZ, putZ, takeZ, hi, rdZ, rs1Z, rs2Z, aZ, Inst.mk.injEq, Bool.false_and, if_true, if_false, Bool.false_eq_true, true_and, and_true]
    refine ⟨?_, ?_, ⟨?_, ?_, ?_⟩, ?_⟩ <;> (try split) <;> omega
  case shift =>
    have r1 := regB_t k1
    have r2 := regB_t k2
    obtain rfl := regB_f k3
    simp only [aZ, Bool.false_eq_true, false_or] at k5
    obtain ⟨rfl, rfl⟩ := k5
    simp only [mayZ, within_iff] at k4
    have s := sgn_cases imm
    simp only [fixZ] at hb
    simp only [encF, decF, fixZ, putZ, takeZ, rdZ, rs1Z, rs2Z, aZ, Inst.mk.injEq, Bool.false_and, if_true, if_false, Bool.false_eq_true, true_and, and_true]
    refine ⟨?_, ?_, ⟨?_, ?_, ?_⟩, ?_⟩ <;> omega
  case s =>
    obtain rfl := regB_f k1
    have r1 := regB_t k2
    have r2 := regB_t k3
    simp only [aZ, Bool.false_eq_true, false_or] at k5
    obtain ⟨rfl, rfl⟩ := k5
    have e : encF .s b ⟨o, 0, rs1, rs2, imm, false, false⟩ = b + rs1 * 32768 + rs2 * 1048576 + putZ .s imm := by simp [encF]
    obtain ⟨h1, h2, h3, h4, h5, h6⟩ := take_put_s b rs1 rs2 imm hb r1 r2 n0 n1 k4 _ e
    refine ⟨h1, h2, ?_, h6⟩
    simp only [decF, rdZ, rs1Z, rs2Z, aZ, Inst.mk.injEq, Bool.false_and, if_true, if_false, Bool.false_eq_true, true_and, and_true]
    exact ⟨h4, h5, h3⟩
  case r =>
    have r1 := regB_t k1
    have r2 := regB_t k2
    have r3 := regB_t k3
    simp only [aZ, Bool.false_eq_true, false_or] at k5
    obtain ⟨rfl, rfl⟩ := k5
    obtain rfl : imm = 0 := by simpa [mayZ] using k4
    simp only [fixZ] at hb
    simp only [encF, decF, fixZ, putZ, takeZ, rdZ, rs1Z, rs2Z, aZ, Inst.mk.injEq, Bool.false_and, if_true, if_false, Bool.false_eq_true, true_and, and_true]
    refine ⟨?_, ?_, ⟨?_, ?_, ?_⟩, ?_⟩ <;> omega
  case fence =>
    obtain rfl := regB_f k1
    obtain rfl := regB_f k2
    obtain rfl := regB_f k3
    simp only [aZ, Bool.false_eq_true, false_or] at k5
    obtain ⟨rfl, rfl⟩ := k5
    simp only [mayZ, within_iff] at k4
    have s := sgn_cases imm
    simp only [fixZ] at hb
    simp only [encF, decF, fixZ, putZ, takeZ, rdZ, rs1Z, rs2Z, aZ, Inst.mk.injEq, Bool.false_and, if_true, if_false, Bool.false_eq_true, true_and, and_true]
    refine ⟨?_, ?_, ?_, ?_⟩ <;> omega
  case all =>
    obtain rfl := regB_f k1
    obtain rfl := regB_f k2
    obtain rfl := regB_f k3
    simp only [aZ, Bool.false_eq_true, false_or] at k5
    obtain ⟨rfl, rfl⟩ := k5
    obtain rfl : imm = 0 := by simpa [mayZ] using k4
    simp only [encF, decF, fixZ, putZ, takeZ, rdZ, rs1Z, rs2Z, aZ, Bool.false_and, if_false, Bool.false_eq_true]
    refine ⟨?_, ?_, trivial, ?_⟩ <;> omega
  case csr =>
    have r1 := regB_t k1
    obtain rfl := regB_f k2
    obtain rfl := regB_f k3
    simp only [aZ, Bool.false_eq_true, false_or] at k5
    obtain ⟨rfl, rfl⟩ := k5
    obtain rfl : imm = 0 := by simpa [mayZ] using k4
    simp only [fixZ] at hb
    simp only [encF, decF, fixZ, putZ, takeZ, rdZ, rs1Z, rs2Z, aZ, Inst.mk.injEq, Bool.false_and, if_true, if_false, Bool.false_eq_true, true_and, and_true]
    refine ⟨?_, ?_, ?_, ?_⟩ <;> omega
  case lr =>
    have r1 := regB_t k1
    have r2 := regB_t k2
    obtain rfl := regB_f k3
    obtain rfl : imm = 0 := by simpa [mayZ] using k4
    have e : encF .lr b ⟨o, rd, rs1, 0, 0, aq, rl⟩ = b + rd * 128 + rs1 * 32768 + (if aq then 1 else 0) * 67108864 + (if rl then 1 else 0) * 33554432 := by
      cases aq <;> cases rl <;> simp [encF, putZ]
    obtain ⟨h1, h2, h3, h4, h5, h6, h7⟩ := flds_lr b rd rs1 _ _ hb r1 r2 (by cases aq <;> decide) (by cases rl <;> decide) _ e
    refine ⟨h1, h2, ?_, h7⟩
    simp only [decF, rdZ, rs1Z, rs2Z, aZ, Inst.mk.injEq, Bool.true_and, if_true, if_false, Bool.false_eq_true, true_and, h3, h4, h5, h6]
    exact ⟨rfl, by cases aq <;> rfl, by cases rl <;> rfl⟩
  case a =>
    have r1 := regB_t k1
    have r2 := regB_t k2
    have r3 := regB_t k3
    obtain rfl : imm = 0 := by simpa [mayZ] using k4
    have e : encF .a b ⟨o, rd, rs1, rs2, 0, aq, rl⟩ = b + rd * 128 + rs1 * 32768 + rs2 * 1048576 + (if aq then 1 else 0) * 67108864 + (if rl then 1 else 0) * 33554432 := by
      cases aq <;> cases rl <;> simp [encF, putZ]
    obtain ⟨h1, h2, h3, h4, h8, h5, h6, h7⟩ := flds_a b rd rs1 rs2 _ _ hb r1 r2 r3 (by cases aq <;> decide) (by cases rl <;> decide) _ e
    refine ⟨h1, h2, ?_, h7⟩
    simp only [decF, rdZ, rs1Z, rs2Z, aZ, Inst.mk.injEq, Bool.true_and, if_true, true_and, h3, h4, h5, h6, h8]
    exact ⟨rfl, by cases aq <;> rfl, by cases rl <;> rfl⟩

/-! ### The word that the code makes is that sum -/
def rdM (f : Fm) : Int := if rdZ f then 3968 else 0
def rs1M (f : Fm) : Int := if rs1Z f then 1015808 else 0
def rs2M (f : Fm) : Int := if rs2Z f then 32505856 else 0
def putM : Fm → Int
  | .u | .j => 4294963200
  | .b | .s => 4261416832
  | .i | .load => 4293918720
  | .shift => 32505856
  | .fence => 267386880
  | _ => 0
def aM (f : Fm) : Int := if aZ f then 67108864 else 0
def lM (f : Fm) : Int := if aZ f then 33554432 else 0
theorem inM_zero (m : Nat) (hm : m < 4294967296) : InM m 0 := by
  refine ⟨by decide, by decide, ?_⟩
  have := u32_and_nat 0 m (by decide) hm
  simpa using this
theorem inM_field (x : Int) (i j m : Nat) (hm : m = (2 ^ j - 1) * 2 ^ i) (hlt : m < 4294967296) (h0 : 0 ≤ x) (h1 : x < 4294967296) (h : x / ((2 ^ i : Nat) : Int) % ((2 ^ j : Nat) : Int) * ((2 ^ i : Nat) : Int) = x) : InM m x :=
  ⟨h0, h1, by rw [landI_field x h0 h1 i j m hm hlt, h]⟩
theorem inM_reg (n : Int) (b : Bool) (q : Int) (i m : Nat) (hq : q = ((2 ^ i : Nat) : Int)) (hi : i ≤ 27) (hm : m = (2 ^ 5 - 1) * 2 ^ i) (hr : regB n b = true) : InM (if b then (m : Int) else 0) (n * q) := by
  have hp : 0 < 2 ^ i := Nat.pow_pos (by decide)
  have hle : 2 ^ i ≤ 2 ^ 27 := Nat.pow_le_pow_right (by decide) hi
  cases b
  · obtain rfl := regB_f hr
    rw [Int.zero_mul]
    exact inM_zero 0 (by decide)
  · have h := regB_t hr
    rw [if_pos rfl, hq]
    obtain ⟨a, rfl⟩ := Int.eq_ofNat_of_zero_le h.1
    have ha : a < 32 := by omega
    have hlt : a * 2 ^ i < 4294967296 := Nat.lt_of_le_of_lt (Nat.mul_le_mul (Nat.le_of_lt_succ ha : a ≤ 31) hle) (by decide)
    have hml : m < 4294967296 := by rw [hm]; exact Nat.lt_of_le_of_lt (Nat.mul_le_mul (Nat.le_refl _) hle) (by decide)
    refine inM_field _ i 5 m hm hml (Int.mul_nonneg (by omega) (by omega)) ?_ ?_
    · have : ((a * 2 ^ i : Nat) : Int) < 4294967296 := by omega
      rwa [Int.natCast_mul] at this
    · have e : (a : Int) * ((2 ^ i : Nat) : Int) / ((2 ^ i : Nat) : Int) = a := Int.mul_ediv_cancel _ (by omega)
      rw [e]
      have : (a : Int) % ((2 ^ 5 : Nat) : Int) = a := by simp only [Nat.reducePow, Int.cast_ofNat_Int]; omega
      rw [this]

theorem put_range (f : Fm) (n : Int) (n0 : 0 ≤ n) (n1 : n < 4294967296) : 0 ≤ putZ f n ∧ putZ f n < 4294967296 := by
  cases f <;> simp only [putZ] <;> first | omega | simp
theorem inM_put (f : Fm) (n : Int) (n0 : 0 ≤ n) (n1 : n < 4294967296) (hm : mayZ f n = true) : InM (putM f) (putZ f n) := by
  have hr := put_range f n n0 n1
  have two : ∀ x : Int, 0 ≤ x → x < 4294967296 → x = x / 33554432 % 128 * 33554432 + x / 128 % 32 * 128 → InM 4261416832 x := fun x x0 x1 hx => by
    refine ⟨x0, x1, ?_⟩
    have h := landI_add x x0 x1 4261412864 3968 25 (by decide) (by decide) (by decide)
    have a := landI_field x x0 x1 25 7 4261412864 (by decide) (by decide)
    have a2 := landI_field x x0 x1 7 5 3968 (by decide) (by decide)
    simp only [Nat.reducePow, Nat.reduceAdd, Int.cast_ofNat_Int] at h a a2
    omega
  cases f
  case u =>
    simp only [mayZ, beq_iff_eq] at hm
    exact inM_field n 12 20 4294963200 (by decide) (by decide) n0 n1 (by simp only [Nat.reducePow, Int.cast_ofNat_Int]; omega)
  case j =>
    refine inM_field _ 12 20 4294963200 (by decide) (by decide) hr.1 hr.2 ?_
    have : putZ .j n % 4096 = 0 := by simp only [putZ]; omega
    simp only [Nat.reducePow, Int.cast_ofNat_Int]; omega
  case i | load =>
    have : putZ .i n % 1048576 = 0 := by simp only [putZ]; omega
    exact inM_field (putZ .i n) 20 12 4293918720 (by decide) (by decide) hr.1 hr.2 (by have h2 : 0 ≤ putZ .i n ∧ putZ .i n < 4294967296 := hr; simp only [Nat.reducePow, Int.cast_ofNat_Int]; omega)
  case shift =>
    have h := (within_iff _ _ _).1 hm
    have s := sgn_cases n
    exact inM_field (n * 1048576 % 4294967296) 20 5 32505856 (by decide) (by decide) hr.1 hr.2 (by simp only [Nat.reducePow, Int.cast_ofNat_Int]; omega)
  case fence =>
    have h := (within_iff _ _ _).1 hm
    have s := sgn_cases n
    exact inM_field (n * 1048576 % 4294967296) 20 8 267386880 (by decide) (by decide) hr.1 hr.2 (by simp only [Nat.reducePow, Int.cast_ofNat_Int]; omega)
  case b =>
    refine two _ hr.1 hr.2 ?_
    have e := hr.2
    have b1 : 0 ≤ n / 32 % 64 ∧ n / 32 % 64 < 64 := by omega
    have b2 : 0 ≤ n / 2048 % 2 ∧ n / 2048 % 2 < 2 := by omega
    have b3 : 0 ≤ n / 2 % 16 ∧ n / 2 % 16 < 16 := by omega
    have b4 : 0 ≤ n / 4096 % 2 ∧ n / 4096 % 2 < 2 := by omega
    simp only [putZ]
    generalize n / 32 % 64 = p at *
    generalize n / 2048 % 2 = q at *
    generalize n / 2 % 16 = r at *
    generalize n / 4096 % 2 = t at *
    clear hr e hm n0 n1 two
    omega
  case s =>
    refine two _ hr.1 hr.2 ?_
    have b1 : 0 ≤ n / 32 % 128 ∧ n / 32 % 128 < 128 := by omega
    have b2 : 0 ≤ n % 32 ∧ n % 32 < 32 := by omega
    simp only [putZ]
    generalize n / 32 % 128 = p at *
    generalize n % 32 = q at *
    clear hr hm n0 n1 two
    omega
  all_goals exact inM_zero 0 (by decide)

theorem bits_fix (k : Nat) (hk : k < 59) : fixZ (formK k) (bitsK k) = bitsK k ∧ 0 ≤ bitsK k ∧ bitsK k < 4294967296 := by
  have h : (List.range 59).all (fun j => decide (fixZ (formK j) (bitsK j) = bitsK j ∧ 0 ≤ bitsK j ∧ bitsK j < 4294967296)) = true := by decide +kernel
  exact of_decide_eq_true (List.all_eq_true.1 h k (List.mem_range.2 hk))

theorem inM_bit (b : Bool) (q m : Nat) (hm : m = q) (i : Nat) (hq : q = 2 ^ i) (hi : i < 32) (c : Bool) (h : c = true ∨ b = false) : InM (if c then (m : Int) else 0) (if b then (q : Int) else 0) := by
  have hp : q < 4294967296 := by rw [hq]; exact Nat.pow_lt_pow_right (by decide) hi
  have hp0 : 0 < q := by rw [hq]; exact Nat.pow_pos (by decide)
  cases b
  · simp only [Bool.false_eq_true, if_false]
    cases c
    · exact inM_zero 0 (by decide)
    · exact inM_zero m (by omega)
  · have hc : c = true := by simpa using h
    subst hc hm
    simp only [if_true]
    refine ⟨by omega, by omega, ?_⟩
    rw [u32_and_nat _ _ hp hp, Nat.and_self]

theorem masks_apart (f : Fm) : bits .and .u32 (maskZ f) (rdM f) = 0 ∧ bits .and .u32 (maskZ f + rdM f) (rs1M f) = 0 ∧ bits .and .u32 (maskZ f + rdM f + rs1M f) (rs2M f) = 0 ∧
    bits .and .u32 (maskZ f + rdM f + rs1M f + rs2M f) (putM f) = 0 ∧ bits .and .u32 (maskZ f + rdM f + rs1M f + rs2M f + putM f) (aM f) = 0 ∧ bits .and .u32 (maskZ f + rdM f + rs1M f + rs2M f + putM f + aM f) (lM f) = 0 := by
  cases f <;> (refine ⟨?_, ?_, ?_, ?_, ?_, ?_⟩ <;> decide +kernel)
theorem masks_in (f : Fm) : 0 ≤ maskZ f ∧ 0 ≤ rdM f ∧ 0 ≤ rs1M f ∧ 0 ≤ rs2M f ∧ 0 ≤ putM f ∧ 0 ≤ aM f ∧ 0 ≤ lM f ∧ maskZ f + rdM f + rs1M f + rs2M f + putM f + aM f + lM f < 4294967296 := by
  cases f <;> decide +kernel

def encK (k : Nat) (i : Inst) : Int := encF (formK k) (bitsK k) i
theorem encO_eq (k : Nat) (i : Inst) (hk : k < 59) (ok : okI k i = true) (n0 : 0 ≤ i.imm) (n1 : i.imm < 4294967296) : encO k i = encK k i := by
  obtain ⟨k1, k2, k3, k4, k5⟩ := (okF_iff (formK k) i).1 ok
  obtain ⟨b1, b2, b3⟩ := bits_fix k hk
  have r1 := regB_b k1
  have r2 := regB_b k2
  have r3 := regB_b k3
  have e1 : i.rd % 4294967296 * 128 % 4294967296 = i.rd * 128 := by omega
  have e2 : i.rs1 % 4294967296 * 32768 % 4294967296 = i.rs1 * 32768 := by omega
  have e3 : i.rs2 % 4294967296 * 1048576 % 4294967296 = i.rs2 * 1048576 := by omega
  have e4 : bitZ i.aq 26 = if i.aq then ((67108864 : Nat) : Int) else 0 := by unfold bitZ pw; rfl
  have e5 : bitZ i.rl 25 = if i.rl then ((33554432 : Nat) : Int) else 0 := by unfold bitZ pw; rfl
  have m0 : InM (maskZ (formK k)) (bitsK k) := ⟨b2, b3, by rw [and_fix _ _ b2 b3, b1]⟩
  have m1 : InM (rdM (formK k)) (i.rd * 128) := inM_reg i.rd (rdZ (formK k)) 128 7 3968 rfl (by decide) rfl k1
  have m2 : InM (rs1M (formK k)) (i.rs1 * 32768) := inM_reg i.rs1 (rs1Z (formK k)) 32768 15 1015808 rfl (by decide) rfl k2
  have m3 : InM (rs2M (formK k)) (i.rs2 * 1048576) := inM_reg i.rs2 (rs2Z (formK k)) 1048576 20 32505856 rfl (by decide) rfl k3
  have m4 := inM_put (formK k) i.imm n0 n1 k4
  have m5 : InM (aM (formK k)) (if i.aq then ((67108864 : Nat) : Int) else 0) := inM_bit i.aq 67108864 67108864 rfl 26 rfl (by decide) (aZ (formK k)) (k5.imp id And.left)
  have m6 : InM (lM (formK k)) (if i.rl then ((33554432 : Nat) : Int) else 0) := inM_bit i.rl 33554432 33554432 rfl 25 rfl (by decide) (aZ (formK k)) (k5.imp id And.right)
  obtain ⟨a1, a2, a3, a4, a5, a6⟩ := masks_apart (formK k)
  obtain ⟨p0, p1, p2, p3, p4, p5, p6, p7⟩ := masks_in (formK k)
  unfold encO encK encF
  rw [e1, e2, e3, e4, e5]
  have q1 := orM m0 m1 p0 p1 (by omega) a1
  rw [q1.1]
  have q2 := orM q1.2 m2 (by omega) p2 (by omega) a2
  rw [q2.1]
  have q3 := orM q2.2 m3 (by omega) p3 (by omega) a3
  rw [q3.1]
  have q4 := orM q3.2 m4 (by omega) p4 (by omega) a4
  rw [q4.1]
  have q5 := orM q4.2 m5 (by omega) p5 (by omega) a5
  rw [q5.1]
  have q6 := orM q5.2 m6 (by omega) p6 (by omega) a6
  rw [q6.1]
  rfl

/-! ### Which row a word is of -/
def apartB (j k : Nat) : Bool := Nat.beq j k || !(Nat.beq ((bitsK j).toNat &&& (maskZ (formK k)).toNat &&& (maskZ (formK j)).toNat) ((bitsK k).toNat &&& (maskZ (formK j)).toNat &&& (maskZ (formK k)).toNat))
theorem apart_all : (List.range 59).all (fun j => (List.range 59).all fun k => apartB j k) = true := by decide +kernel
theorem hit_one {c : Int} {j k : Nat} (h0 : 0 ≤ c) (h1 : c < 4294967296) (hj : j < 59) (hk : k < 59) (a : hitK c j = true) (b : hitK c k = true) : j = k := by
  have h := List.all_eq_true.1 (List.all_eq_true.1 apart_all j (List.mem_range.2 hj)) k (List.mem_range.2 hk)
  unfold apartB at h
  rw [Bool.or_eq_true] at h
  rcases h with h | h
  · exact Nat.eq_of_beq_eq_true h
  · exfalso
    unfold hitK at a b
    rw [beq_iff_eq] at a b
    obtain ⟨c, rfl⟩ := Int.eq_ofNat_of_zero_le h0
    have pj := (masks_in (formK j))
    have pk := (masks_in (formK k))
    obtain ⟨mj, hmj⟩ := Int.eq_ofNat_of_zero_le pj.1
    obtain ⟨mk, hmk⟩ := Int.eq_ofNat_of_zero_le pk.1
    rw [hmj, u32_and_nat _ _ (by omega) (by omega)] at a
    rw [hmk, u32_and_nat _ _ (by omega) (by omega)] at b
    rw [← a, ← b, hmj, hmk] at h
    simp only [Int.toNat_natCast, Bool.not_eq_true'] at h
    have e : c &&& mj &&& mk &&& mj = c &&& mk &&& mj &&& mk := by
      apply Nat.eq_of_testBit_eq
      intro n
      simp only [Nat.testBit_and]
      cases c.testBit n <;> cases mj.testBit n <;> cases mk.testBit n <;> rfl
    rw [e, Nat.beq_refl] at h
    cases h

theorem enc_facts (k : Nat) (i : Inst) (hk : k < 59) (ho : i.op = k + 1) (ok : okI k i = true) (n0 : 0 ≤ i.imm) (n1 : i.imm < 4294967296) :
    0 ≤ encK k i ∧ encK k i < 4294967296 ∧ decI k (encK k i) = i ∧ hitK (encK k i) k = true := by
  obtain ⟨b1, b2, b3⟩ := bits_fix k hk
  obtain ⟨h1, h2, h3, h4⟩ := dec_enc (formK k) (bitsK k) (k + 1) i b1 b2 b3 ho n0 n1 ok
  exact ⟨h1, h2, h3, (hit_iff _ _ h1 h2).2 h4⟩
theorem dec_facts (k : Nat) (c : Int) (h0 : 0 ≤ c) (h1 : c < 4294967296) : okI k (decI k c) = true ∧ 0 ≤ (decI k c).imm ∧ (decI k c).imm < 4294967296 ∧ (encK k (decI k c) = c ↔ hitK c k = true) :=
  ⟨dec_ok (formK k) (k + 1) c h0 h1, (dec_imm (formK k) c h0 h1).2.1, (dec_imm (formK k) c h0 h1).2.2, (enc_dec (formK k) (bitsK k) (k + 1) c h0 h1).trans (hit_iff c k h0 h1).symm⟩
end Go.Proofs.YtamilahkdinjkaaDoor
