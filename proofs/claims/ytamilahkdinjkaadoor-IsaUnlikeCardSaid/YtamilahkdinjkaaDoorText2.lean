/-
  strconv.FormatUint to the base 10.
-/
import Derived.Test.YtamilahkdinjkaaDoorText1
import Derived.WalkLawsBesides
import Derived.Lib.AppendIntMem
import Derived.Laws.IdiomStrings
namespace Go.Proofs.YtamilahkdinjkaaDoor
set_option linter.unusedVariables false
set_option linter.unusedSimpArgs false
open Go.RowKit Go.Sort Go.Lib
attribute [local go_sem] Oper.semAt_some

theorem fmtu_small (k : Nat) (w : World) (h : k < 100) : Calls Tryd.prog 90 #[.int .u64 k, .int .i64 10] w fun e w' => e = .returned (.string (bs (Lib.decDigits k))) ∧ Below w.heap.size w w' := by
  go_enter Tryd.func90, Tryd.ntmps90
  go_wp2_with (go_at_call 82; refine (Tryd.internal_strconv_small k h _).mono ?_; rintro e w' ⟨rfl, rfl⟩)
  go_ret
  exact ⟨rfl, Below.refl _ _⟩
set_option maxRecDepth 100000 in
set_option maxHeartbeats 2000000 in
theorem fmtu_great (u : Nat) (w : World) (h : 100 ≤ u) (hu : u < 4294967296) (hP : TabP w) : Calls Tryd.prog 90 #[.int .u64 u, .int .i64 10] w fun e w' => e = .returned (.string (bs (Lib.decDigits u))) ∧ Below w.heap.size w w' := by
  have hd := dec_len u hu
  rw [Lib.decDigits_length] at hd
  have hal : Tryd.prog.arrayLen 86 = 24 := by kernel_rfl
  have hel : Tryd.prog.elem 86 = 5 := by kernel_rfl
  have hsl : ∀ W, (Instr.sliceAt 86 (.pointer (some ⟨w.heap.size, 0, none⟩)) none (some (.int .i64 (Lib.nDigits u : Int))) none).run Tryd.prog W = .ok (.slice (some ⟨w.heap.size, 0, none⟩) (Lib.nDigits u) 24) W := fun W => by
    rw [run_sliceAt_array_h W 86 ⟨w.heap.size, 0, none⟩ (by simp [hal, hel]) .i64 (Lib.nDigits u : Int) (by omega) (by rw [hal]; omega)]
    go_simp
  have hH0 := Lib.holds_zero0 w 86 (Lib.nDigits u) (by omega)
  have hfmt := Tryd.internal_strconv_formatBase10 w.heap.size 0 24 u (Array.replicate (Lib.nDigits u) 0) (w.alloc (.cells Lib.zeros24 86)) hH0 (by rw [Array.size_replicate]; exact Lib.lt_pow_nDigits u) (by omega) (by rw [Array.size_replicate]; omega)
  rw [Array.size_replicate] at hfmt
  have HF := Lib.hid hfmt
  have HH := Lib.hid hH0
  have HP := Lib.hid hP
  clear hfmt hH0 hal hel hP
  go_enter Tryd.func90, Tryd.ntmps90
  go_wp2_with (go_at_call 83; refine (Tryd.internal_strconv_numDigits u (by omega) (by omega) _ (Lib.tabIs_alloc HP.out _)).mono ?_; rintro e w' ⟨rfl, rfl⟩)
  go_at_call 84
  refine HF.out.mono ?_
  rintro e w' ⟨rfl, k, v', dk, rfl, hF⟩
  obtain ⟨os, hos⟩ := Lib.fin_at w (.cells Lib.zeros24 86) dk k 0
  have hcell : ∀ j (hj : j < (Lib.decDigits u).length), ((putRow (fun (b : UInt8) => Value.int .u8 (b.toNat : Int)) (w.alloc (.cells Lib.zeros24 86)) w.heap.size 0 dk).drewN k).cell? ((⟨w.heap.size, 0, none⟩ : Addr).add j) = some (.int .u8 ((Lib.decDigits u)[j].toNat : Int)) := fun j hj => by
    have hl : j < Lib.nDigits u := by rw [Lib.decDigits_length] at hj; exact hj
    rw [Lib.row_is_numeral hF j hj, Lib.add_plain, World.cell?_drewN]
    exact cell?_putRow (fun (b : UInt8) => Value.int .u8 (b.toNat : Int)) _ w.heap.size 0 _ dk HH.out (by rw [hF.size, Array.size_replicate]) j (by rw [hF.size]; exact hl)
  have hcv := run_convert_bytes_back (P := Tryd.prog) _ 89 9 5 ⟨w.heap.size, 0, none⟩ 24 (Lib.decDigits u) Tryd.underlying89 Tryd.underlying5 Tryd.underlying9 hcell
  rw [Lib.decDigits_length] at hcv
  rw [hos] at hcv ⊢
  clear hcell hos hF HF HH
  go_wp2
  go_ret
  exact ⟨rfl, below_grow w k os⟩
theorem fmtu_any (n : Int) (w : World) (hP : TabP w) (h0 : 0 ≤ n) (h1 : n < 4294967296) : Calls Tryd.prog 63 #[.int .u64 n, .int .i64 10] w fun e w' => e = .returned (.string (bs (Lib.decDigits n.toNat))) ∧ Below w.heap.size w w' := by
  obtain ⟨k, rfl⟩ := Int.eq_ofNat_of_zero_le h0
  have H : Calls Tryd.prog 90 #[.int .u64 k, .int .i64 10] w fun e w' => e = .returned (.string (bs (Lib.decDigits k))) ∧ Below w.heap.size w w' := by
    by_cases h : k < 100
    · exact fmtu_small k w h
    · exact fmtu_great k w (by omega) (by omega) hP
  have HH := Lib.hid H
  clear H
  go_enter Tryd.func63, Tryd.ntmps63
  go_wp2_with (go_at_call 90; refine HH.out.mono ?_; rintro e w' ⟨rfl, hb⟩)
  go_ret
  exact ⟨rfl, hb⟩
end Go.Proofs.YtamilahkdinjkaaDoor
