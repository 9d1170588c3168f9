/-
  An instruction's text tells the instruction: plain law.
-/
import Derived.Test.YtamilahkdinjkaaDoorTextT
namespace Go.Proofs.YtamilahkdinjkaaDoor
set_option linter.unusedVariables false
set_option linter.unusedSimpArgs false
open Go.RowKit Go.Lib

/-- Cutting a text at the first byte of a kind. -/
theorem cut_at (p : UInt8 → Bool) {a b r s : List UInt8} (ha : ∀ x ∈ a, p x = false) (hb : ∀ x ∈ b, p x = false) (hr : ∀ c t, r = c :: t → p c = true) (hs : ∀ c t, s = c :: t → p c = true) (h : a ++ r = b ++ s) : a = b ∧ r = s := by
  induction a generalizing b with
  | nil =>
    cases b with
    | nil => exact ⟨rfl, h⟩
    | cons y b =>
      have h1 := hr y (b ++ s) (by simpa using h)
      rw [hb y (by simp)] at h1
      cases h1
  | cons x a ih =>
    cases b with
    | nil =>
      have h1 := hs x (a ++ r) (by simpa using h.symm)
      rw [ha x (by simp)] at h1
      cases h1
    | cons y b =>
      simp only [List.cons_append, List.cons.injEq] at h
      obtain ⟨rfl, h⟩ := h
      obtain ⟨rfl, h2⟩ := ih (fun z hz => ha z (by simp [hz])) (fun z hz => hb z (by simp [hz])) h
      exact ⟨rfl, h2⟩

def valD (l : List UInt8) : Nat := l.foldl (fun a c => a * 10 + (c.toNat - 48)) 0
theorem dig_val {d : Nat} (h : d < 10) : (UInt8.ofNat (48 + d)).toNat = 48 + d := by
  simp; omega
theorem dec_val (u : Nat) : valD (Lib.decDigits u) = u := by
  induction u using Nat.strongRecOn with
  | _ u ih =>
    rw [Lib.decDigits]
    split
    · rename_i h
      simp only [valD, List.foldl_cons, List.foldl_nil, dig_val h]
      omega
    · rename_i h
      have h1 := ih (u / 10) (by omega)
      unfold valD at h1 ⊢
      rw [List.foldl_append, h1]
      simp only [List.foldl_cons, List.foldl_nil, dig_val (Nat.mod_lt u (by decide : 0 < 10))]
      omega
theorem dec_inj {a b : Nat} (h : Lib.decDigits a = Lib.decDigits b) : a = b := by
  rw [← dec_val a, h, dec_val]
theorem dec_dig (u : Nat) : ∀ x ∈ Lib.decDigits u, 48 ≤ x.toNat ∧ x.toNat ≤ 57 := by
  induction u using Nat.strongRecOn with
  | _ u ih =>
    rw [Lib.decDigits]
    split
    · rename_i h
      intro x hx
      simp only [List.mem_singleton] at hx
      subst hx
      rw [dig_val h]; omega
    · rename_i h
      intro x hx
      rw [List.mem_append] at hx
      rcases hx with hx | hx
      · exact ih (u / 10) (by omega) x hx
      · simp only [List.mem_singleton] at hx
        subst hx
        rw [dig_val (Nat.mod_lt u (by decide : 0 < 10))]; omega
theorem dec_ne0 (n : Nat) : ∃ c t, Lib.decDigits n = c :: t := by
  cases h : Lib.decDigits n with
  | nil => rw [Lib.decDigits] at h; split at h <;> simp at h
  | cons c t => exact ⟨c, t, rfl⟩
theorem itoa_inj {a b : Int} (h : Lib.itoa a = Lib.itoa b) : a = b := by
  have hno : ∀ (m : Nat) (l : List UInt8), Lib.decDigits m = 45 :: l → False := by
    intro m l hm
    have := dec_dig m 45 (by rw [hm]; simp)
    simp at this
  unfold Lib.itoa at h
  split at h <;> split at h
  · simp only [List.cons.injEq, true_and] at h
    have := dec_inj h
    omega
  · exact (hno _ _ h.symm).elim
  · exact (hno _ _ h).elim
  · have := dec_inj h
    omega
/-- The bytes that part a text's pieces: ' ', '(', ')', ','. -/
def sepB (c : UInt8) : Bool := c == 32 || c == 40 || c == 41 || c == 44
theorem sep_dig {c : UInt8} (h : 45 ≤ c.toNat) : sepB c = false := by
  unfold sepB
  have e : ∀ k : UInt8, k.toNat < 45 → (c == k) = false := by
    intro k hk
    rw [beq_eq_false_iff_ne]
    rintro rfl
    omega
  rw [e 32 (by decide), e 40 (by decide), e 41 (by decide), e 44 (by decide)]
  rfl
theorem xL_sep (n : Int) : ∀ x ∈ xL n, sepB x = false := by
  intro x hx
  unfold xL at hx
  rw [List.mem_cons] at hx
  rcases hx with rfl | hx
  · rfl
  · exact sep_dig (by have := dec_dig _ x hx; omega)
theorem itoa_sep (n : Int) : ∀ x ∈ Lib.itoa n, sepB x = false := by
  intro x hx
  unfold Lib.itoa at hx
  split at hx
  · rw [List.mem_cons] at hx
    rcases hx with rfl | hx
    · rfl
    · exact sep_dig (by have := dec_dig _ x hx; omega)
  · exact sep_dig (by have := dec_dig _ x hx; omega)
theorem dec_sep (n : Nat) : ∀ x ∈ Lib.decDigits n, sepB x = false := fun x hx => sep_dig (by have := dec_dig _ x hx; omega)
theorem xL_inj {a b : Int} (h : xL a = xL b) (ha : 0 ≤ a) (hb : 0 ≤ b) : a = b := by
  unfold xL at h
  simp only [List.cons.injEq, true_and] at h
  have := dec_inj h
  omega
theorem sgn_inj {a b : Int} (h : sgn a = sgn b) (a0 : 0 ≤ a) (a1 : a < 4294967296) (b0 : 0 ≤ b) (b1 : b < 4294967296) : a = b := by
  unfold sgn at h
  split at h <;> split at h <;> omega
theorem cut_sep {a b r s : List UInt8} (ha : ∀ x ∈ a, sepB x = false) (hb : ∀ x ∈ b, sepB x = false) {c d : UInt8} (hc : sepB c = true) (hd : sepB d = true) (h : a ++ c :: r = b ++ d :: s) : a = b ∧ c = d ∧ r = s := by
  obtain ⟨h1, h2⟩ := cut_at sepB ha hb (fun _ _ e => by cases e; exact hc) (fun _ _ e => by cases e; exact hd) h
  simp only [List.cons.injEq] at h2
  exact ⟨h1, h2⟩
theorem sufL_inj {a b c d : Bool} (h : sufL a b = sufL c d) : a = c ∧ b = d := by
  revert h; cases a <;> cases b <;> cases c <;> cases d <;> decide
theorem endL_inj {a b : List UInt8} (h : endL a = endL b) : a = b := by
  unfold endL at h
  split at h <;> split at h
  · rename_i h1 h2; rw [h1, h2]
  · simp at h
  · simp at h
  · simpa using h
theorem names_ok : (List.range 59).all (fun j => (nmL j).all (fun c => !(c == 32 || c == 46)) && (List.range 59).all (fun k => j == k || !(nmL j == nmL k))) = true := by decide +kernel
theorem nm_sep {k : Nat} (hk : k < 59) : ∀ x ∈ nmL k, (x == 32 || x == 46) = false := by
  intro x hx
  have h := List.all_eq_true.1 names_ok k (List.mem_range.2 hk)
  rw [Bool.and_eq_true] at h
  simpa using List.all_eq_true.1 h.1 x hx
theorem nm_inj {j k : Nat} (hj : j < 59) (hk : k < 59) (h : nmL j = nmL k) : j = k := by
  have h1 := List.all_eq_true.1 names_ok j (List.mem_range.2 hj)
  rw [Bool.and_eq_true] at h1
  have h2 := List.all_eq_true.1 h1.2 k (List.mem_range.2 hk)
  rw [h] at h2
  simpa using h2
theorem text_parts {j k : Nat} {i x : Inst} (hj : j < 59) (hk : k < 59) (h : textL j i = textL k x) : j = k ∧ i.aq = x.aq ∧ i.rl = x.rl ∧ toldL (formK j) i = toldL (formK k) x := by
  unfold textL at h
  rw [List.append_assoc, List.append_assoc] at h
  have hh : ∀ (a b : Bool) (t : List UInt8) c l, sufL a b ++ endL t = c :: l → (c == 32 || c == 46) = true := by
    intro a b t c l e
    cases a <;> cases b <;> simp only [sufL, if_true, if_false, Bool.false_eq_true, List.cons_append, List.nil_append, List.cons.injEq] at e
    · unfold endL at e
      split at e
      · cases e
      · cases e; rfl
    · rw [← e.1]; rfl
    · rw [← e.1]; rfl
    · rw [← e.1]; rfl
  obtain ⟨h1, h2⟩ := cut_at (fun c => c == 32 || c == 46) (nm_sep hj) (nm_sep hk) (fun c t e => hh _ _ _ c t e) (fun c t e => hh _ _ _ c t e) h
  have hsf : ∀ a b : Bool, ∀ y ∈ sufL a b, (y == 32) = false := by
    intro a b; cases a <;> cases b <;> decide
  have hen : ∀ (t : List UInt8) c l, endL t = c :: l → (c == 32) = true := by
    intro t c l e
    unfold endL at e
    split at e
    · cases e
    · cases e; rfl
  obtain ⟨h3, h4⟩ := cut_at (fun c => c == 32) (hsf _ _) (hsf _ _) (fun c t e => hen _ c t e) (fun c t e => hen _ c t e) h2
  obtain ⟨h5, h6⟩ := sufL_inj h3
  exact ⟨nm_inj hj hk h1, h5, h6, endL_inj h4⟩
set_option maxHeartbeats 1000000 in
theorem told_inj {f : Fm} {i x : Inst} (hi : okF f i = true) (hx : okF f x = true) (i0 : 0 ≤ i.imm) (i1 : i.imm < 4294967296) (x0 : 0 ≤ x.imm) (x1 : x.imm < 4294967296) (h : toldL f i = toldL f x) : i.rd = x.rd ∧ i.rs1 = x.rs1 ∧ i.rs2 = x.rs2 ∧ i.imm = x.imm := by
  obtain ⟨op, rd, rs1, rs2, imm, aq, rl⟩ := i
  obtain ⟨op', rd', rs1', rs2', imm', aq', rl'⟩ := x
  rw [okF_iff] at hi hx
  obtain ⟨k1, k2, k3, k4, -⟩ := hi
  obtain ⟨l1, l2, l3, l4, -⟩ := hx
  simp only at *
  have d0 := (regB_b k1).1
  have d1 := (regB_b l1).1
  have a0 := (regB_b k2).1
  have a1 := (regB_b l2).1
  have b0 := (regB_b k3).1
  have b1 := (regB_b l3).1
  have X := fun {a b : Int} (h : xL a = xL b) (ha : 0 ≤ a) (hb : 0 ≤ b) => xL_inj h ha hb
  have z := fun {n m : Int} (h : regB n false = true) (h' : regB m false = true) => (regB_f h).trans (regB_f h').symm
  cases f <;> simp only [rdZ, rs1Z, rs2Z] at k1 k2 k3 l1 l2 l3 <;> simp only [toldL, join2, join3, mL, List.append_assoc, List.cons_append, List.nil_append] at h
  case u =>
    obtain ⟨h1, -, h2⟩ := cut_sep (xL_sep _) (xL_sep _) (by rfl) (by rfl) h
    simp only [List.cons.injEq, true_and] at h2
    have h3 := dec_inj h2
    simp only [mayZ, beq_iff_eq] at k4 l4
    exact ⟨X h1 d0 d1, z k2 l2, z k3 l3, by omega⟩
  case j =>
    obtain ⟨h1, -, h2⟩ := cut_sep (xL_sep _) (xL_sep _) (by rfl) (by rfl) h
    simp only [List.cons.injEq, true_and] at h2
    exact ⟨X h1 d0 d1, z k2 l2, z k3 l3, sgn_inj (itoa_inj h2) i0 i1 x0 x1⟩
  case i =>
    obtain ⟨h1, -, h2⟩ := cut_sep (xL_sep _) (xL_sep _) (by rfl) (by rfl) h
    simp only [List.cons.injEq, true_and] at h2
    obtain ⟨h3, -, h4⟩ := cut_sep (xL_sep _) (xL_sep _) (by rfl) (by rfl) h2
    simp only [List.cons.injEq, true_and] at h4
    exact ⟨X h1 d0 d1, X h3 a0 a1, z k3 l3, sgn_inj (itoa_inj h4) i0 i1 x0 x1⟩
  case shift =>
    obtain ⟨h1, -, h2⟩ := cut_sep (xL_sep _) (xL_sep _) (by rfl) (by rfl) h
    simp only [List.cons.injEq, true_and] at h2
    obtain ⟨h3, -, h4⟩ := cut_sep (xL_sep _) (xL_sep _) (by rfl) (by rfl) h2
    simp only [List.cons.injEq, true_and] at h4
    exact ⟨X h1 d0 d1, X h3 a0 a1, z k3 l3, sgn_inj (itoa_inj h4) i0 i1 x0 x1⟩
  case load =>
    obtain ⟨h1, -, h2⟩ := cut_sep (xL_sep _) (xL_sep _) (by rfl) (by rfl) h
    simp only [List.cons.injEq, true_and] at h2
    obtain ⟨h3, -, h4⟩ := cut_sep (itoa_sep _) (itoa_sep _) (by rfl) (by rfl) h2
    obtain ⟨h5, -, -⟩ := cut_sep (xL_sep _) (xL_sep _) (by rfl) (by rfl) h4
    exact ⟨X h1 d0 d1, X h5 a0 a1, z k3 l3, sgn_inj (itoa_inj h3) i0 i1 x0 x1⟩
  case b =>
    obtain ⟨h1, -, h2⟩ := cut_sep (xL_sep _) (xL_sep _) (by rfl) (by rfl) h
    simp only [List.cons.injEq, true_and] at h2
    obtain ⟨h3, -, h4⟩ := cut_sep (xL_sep _) (xL_sep _) (by rfl) (by rfl) h2
    simp only [List.cons.injEq, true_and] at h4
    exact ⟨z k1 l1, X h1 a0 a1, X h3 b0 b1, sgn_inj (itoa_inj h4) i0 i1 x0 x1⟩
  case s =>
    obtain ⟨h1, -, h2⟩ := cut_sep (xL_sep _) (xL_sep _) (by rfl) (by rfl) h
    simp only [List.cons.injEq, true_and] at h2
    obtain ⟨h3, -, h4⟩ := cut_sep (itoa_sep _) (itoa_sep _) (by rfl) (by rfl) h2
    obtain ⟨h5, -, -⟩ := cut_sep (xL_sep _) (xL_sep _) (by rfl) (by rfl) h4
    exact ⟨z k1 l1, X h5 a0 a1, X h1 b0 b1, sgn_inj (itoa_inj h3) i0 i1 x0 x1⟩
  case r =>
    obtain ⟨h1, -, h2⟩ := cut_sep (xL_sep _) (xL_sep _) (by rfl) (by rfl) h
    simp only [List.cons.injEq, true_and] at h2
    obtain ⟨h3, -, h4⟩ := cut_sep (xL_sep _) (xL_sep _) (by rfl) (by rfl) h2
    simp only [List.cons.injEq, true_and] at h4
    simp only [mayZ, beq_iff_eq] at k4 l4
    exact ⟨X h1 d0 d1, X h3 a0 a1, X h4 b0 b1, by omega⟩
  case fence =>
    exact ⟨z k1 l1, z k2 l2, z k3 l3, sgn_inj (itoa_inj h) i0 i1 x0 x1⟩
  case all =>
    simp only [mayZ, beq_iff_eq] at k4 l4
    exact ⟨z k1 l1, z k2 l2, z k3 l3, by omega⟩
  case lr =>
    obtain ⟨h1, -, h2⟩ := cut_sep (xL_sep _) (xL_sep _) (by rfl) (by rfl) h
    simp only [List.cons.injEq, true_and] at h2
    obtain ⟨h3, -, -⟩ := cut_sep (xL_sep _) (xL_sep _) (by rfl) (by rfl) h2
    simp only [mayZ, beq_iff_eq] at k4 l4
    exact ⟨X h1 d0 d1, X h3 a0 a1, z k3 l3, by omega⟩
  case a =>
    obtain ⟨h1, -, h2⟩ := cut_sep (xL_sep _) (xL_sep _) (by rfl) (by rfl) h
    simp only [List.cons.injEq, true_and] at h2
    obtain ⟨h3, -, h4⟩ := cut_sep (xL_sep _) (xL_sep _) (by rfl) (by rfl) h2
    simp only [List.cons.injEq, true_and] at h4
    obtain ⟨h5, -, -⟩ := cut_sep (xL_sep _) (xL_sep _) (by rfl) (by rfl) h4
    simp only [mayZ, beq_iff_eq] at k4 l4
    exact ⟨X h1 d0 d1, X h5 a0 a1, X h3 b0 b1, by omega⟩
  case csr =>
    simp only [mayZ, beq_iff_eq] at k4 l4
    exact ⟨X h d0 d1, z k2 l2, z k3 l3, by omega⟩
theorem text_inj {j k : Nat} {i x : Inst} (hj : j < 59) (hk : k < 59) (hij : i.op = j + 1) (hxk : x.op = k + 1) (hi : okI j i = true) (hx : okI k x = true) (i0 : 0 ≤ i.imm) (i1 : i.imm < 4294967296) (x0 : 0 ≤ x.imm) (x1 : x.imm < 4294967296) (h : textL j i = textL k x) : i = x := by
  obtain ⟨rfl, h1, h2, h3⟩ := text_parts hj hk h
  obtain ⟨r0, r1, r2, r3⟩ := told_inj (f := formK j) hi hx i0 i1 x0 x1 h3
  obtain ⟨op, rd, rs1, rs2, imm, aq, rl⟩ := i
  obtain ⟨op', rd', rs1', rs2', imm', aq', rl'⟩ := x
  simp only at *
  rw [hij, hxk, r0, r1, r2, r3, h1, h2]
end Go.Proofs.YtamilahkdinjkaaDoor
