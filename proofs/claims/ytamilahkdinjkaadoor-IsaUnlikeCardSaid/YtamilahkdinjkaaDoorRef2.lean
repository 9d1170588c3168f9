/-
  The tables of the reference of layer 3: Form, opcode, f3, f7: each at the number of a row.
-/
import Derived.Test.YtamilahkdinjkaaDoorRef1
import Derived.Test.YtamilahkdinjkaaDoorTab
import Derived.Below
namespace Go.Proofs.YtamilahkdinjkaaDoor
set_option linter.unusedVariables false
set_option linter.unusedSimpArgs false
open Go.RowKit

def chF : Fm → Int
  | .u => 117
  | .j => 106
  | .load => 108
  | .b => 98
  | .s => 115
  | .i => 105
  | .shift => 104
  | .r => 114
  | .fence => 102
  | .all => 101
  | .lr => 113
  | .a => 97
  | .csr => 99
def formZ (op : Int) : Int :=
  if op = 1 ∨ op = 2 then 117 else if op = 3 then 106 else if op = 4 ∨ (11 ≤ op ∧ op ≤ 15) then 108 else if 5 ≤ op ∧ op ≤ 10 then 98 else if 16 ≤ op ∧ op ≤ 18 then 115 else if 19 ≤ op ∧ op ≤ 24 then 105
  else if 25 ≤ op ∧ op ≤ 27 then 104 else if (28 ≤ op ∧ op ≤ 37) ∨ (40 ≤ op ∧ op ≤ 47) then 114 else if op = 38 then 102 else if op = 39 then 101 else if op = 48 then 113 else if 49 ≤ op ∧ op ≤ 58 then 97 else if op = 59 then 99 else 0
set_option maxHeartbeats 4000000 in
theorem form_z (op : Int) (w : World) : Calls Tryd.prog 22 #[.int .i64 op] w fun e w' => e = .returned (.int .u8 (formZ op)) ∧ w = w' := by
  go_enter Tryd.func22, Tryd.ntmps22
  go_wp2
  all_goals
    go_ret
    refine ⟨ret_int ?_, rfl⟩
    (try simp only [beq_iff_eq, beq_eq_false_iff_ne, ne_eq] at *)
    unfold formZ
    first | (exfalso; omega) | (repeat (first | rw [if_pos (by omega)] | rw [if_neg (by omega)]))
theorem formZ_k (k : Nat) (hk : k < 59) : formZ (k + 1) = chF (formK k) := by
  have h : (List.range 59).all (fun j => decide (formZ (j + 1) = chF (formK j))) = true := by decide +kernel
  exact of_decide_eq_true (List.all_eq_true.1 h k (List.mem_range.2 hk))
theorem form_k (k : Nat) (w : World) (hk : k < 59) : Calls Tryd.prog 22 #[.int .i64 ((k : Int) + 1)] w fun e w' => e = .returned (.int .u8 (chF (formK k))) ∧ w = w' := by
  rw [← formZ_k k hk]
  exact form_z _ w
theorem formZ_out (op : Int) (h : op < 1 ∨ 59 < op) : formZ op = 0 := by
  unfold formZ
  repeat (first | rw [if_pos (by omega)] | rw [if_neg (by omega)])
theorem form_out (op : Int) (w : World) (h : op < 1 ∨ 59 < op) : Calls Tryd.prog 22 #[.int .i64 op] w fun e w' => e = .returned (.int .u8 0) ∧ w = w' := by
  have := form_z op w
  rw [formZ_out op h] at this
  exact this

def opcZ (op : Int) : Int :=
  if op = 1 then 55 else if op = 2 then 23 else if op = 3 then 111 else if op = 4 then 103 else if op ≤ 10 then 99 else if op ≤ 15 then 3 else if op ≤ 18 then 35 else if op ≤ 27 then 19 else if op ≤ 37 ∨ (40 ≤ op ∧ op ≤ 47) then 51
  else if op = 38 then 15 else if op = 39 ∨ op = 59 then 115 else 47
set_option maxHeartbeats 4000000 in
theorem opcode_any (op : Int) (w : World) : Calls Tryd.prog 29 #[.int .i64 op] w fun e w' => e = .returned (.int .u32 (opcZ op)) ∧ w = w' := by
  go_enter Tryd.func29, Tryd.ntmps29
  go_wp2
  all_goals
    go_ret
    refine ⟨ret_int ?_, rfl⟩
    (try simp only [beq_iff_eq, beq_eq_false_iff_ne, ne_eq] at *)
    unfold opcZ
    first | (exfalso; omega) | (repeat (first | rw [if_pos (by omega)] | rw [if_neg (by omega)]))

def f3Z (k : Nat) : Int := [0, 0, 0, 0, 0, 1, 4, 5, 6, 7, 0, 1, 2, 4, 5, 0, 1, 2, 0, 2, 3, 4, 6, 7, 1, 5, 5, 0, 0, 1, 2, 3, 4, 5, 5, 6, 7, 0, 0, 0, 1, 2, 3, 4, 5, 6, 7, 2, 2, 2, 2, 2, 2, 2, 2, 2, 2, 2, 2].getD k 0
theorem f3_get {l : List Value} (hl : l = (List.range 59).map fun j => .int .u32 (f3Z j)) {k : Nat} (hk : k < l.length) : l[k] = .int .u32 (f3Z k) := by
  subst hl; simp
set_option maxRecDepth 100000 in
set_option maxHeartbeats 4000000 in
theorem f3_any (k : Nat) (w : World) (hk : k < 59) : Calls Tryd.prog 30 #[.int .i64 ((k : Int) + 1)] w fun e w' => e = .returned (.int .u32 (f3Z k)) ∧ Below w.heap.size w w' := by
  go_enter Tryd.func30, Tryd.ntmps30
  go_wp2
  have e0 : ((k : Int) + 1).toNat = k + 1 := by omega
  refine bodyPost_ret (v := .int .u32 (f3Z k)) ?_ rfl ⟨rfl, (Below.refl _ _).alloc (Nat.le_refl _) _⟩
  simp [results, Tryd.f30, go_sem]
  exact f3_get (by kernel_rfl) _

def f7L (k : Nat) : Int := [2, 3, 1, 0, 4, 12, 8, 16, 20, 24, 28].getD k 0
theorem f7_get {l : List Value} (hl : l = (List.range 11).map fun j => .int .u32 (f7L j)) {k : Nat} (hk : k < l.length) : l[k] = .int .u32 (f7L k) := by
  subst hl; simp
def f7Z (k : Nat) : Int := if k = 26 ∨ k = 28 ∨ k = 34 then 32 else if 39 ≤ k ∧ k ≤ 46 then 1 else if 47 ≤ k ∧ k ≤ 57 then 4 * f7L (k - 47) else 0
set_option maxRecDepth 100000 in
set_option maxHeartbeats 4000000 in
theorem f7_any (k : Nat) (w : World) (hk : k < 59) : Calls Tryd.prog 31 #[.int .i64 ((k : Int) + 1)] w fun e w' => e = .returned (.int .u32 (f7Z k)) ∧ Below w.heap.size w w' := by
  by_cases h : 47 ≤ k ∧ k ≤ 57
  · rcases (by omega : k = 47 ∨ k = 48 ∨ k = 49 ∨ k = 50 ∨ k = 51 ∨ k = 52 ∨ k = 53 ∨ k = 54 ∨ k = 55 ∨ k = 56 ∨ k = 57) with rfl | rfl | rfl | rfl | rfl | rfl | rfl | rfl | rfl | rfl | rfl
    all_goals
      go_enter Tryd.func31, Tryd.ntmps31
      go_wp2
      go_ret
      exact ⟨rfl, (Below.refl _ _).alloc (Nat.le_refl _) _⟩
  · go_enter Tryd.func31, Tryd.ntmps31
    go_wp2
    all_goals (try simp only [beq_iff_eq, beq_eq_false_iff_ne, ne_eq] at *)
    all_goals first | (exfalso; omega) | skip
    all_goals
      go_ret
      refine ⟨ret_int ?_, Below.refl _ _⟩
      unfold f7Z
      (repeat (first | rw [if_pos (by omega)] | rw [if_neg (by omega)]))
end Go.Proofs.YtamilahkdinjkaaDoor
