/-
  isa.rows$1$3: the rows of several names, handed to a round one by one.
-/
import Derived.Test.YtamilahkdinjkaaDoorIter
namespace Go.Proofs.YtamilahkdinjkaaDoor
set_option linter.unusedVariables false
set_option linter.unusedSimpArgs false
open Go.RowKit Go.Shelf
attribute [local go_sem] Oper.semAt_some

set_option maxRecDepth 100000 in
set_option maxHeartbeats 2000000 in
theorem atomic_in {b0 : Nat} {Wf : World} {m nB yB fB l k : Nat} {W : World} {J : Nat → World → Prop} {Jx : World → Prop} (hR : Rounds l b0 J Jx) (hJ : AbideB b0 J) (hJx : AbideX Jx)
    (hT : ∀ k W, J k W → Tab W) (hS : ISt b0 Wf m nB yB fB l k W) (hJk : J k W) (aB : Nat) (ha : W.heap[aB]? = some (.cells #[.func (.func 37) #[] #[.pointer (some ⟨nB, 0, none⟩), .pointer (some ⟨yB, 0, none⟩), .pointer (some ⟨fB, 0, none⟩)]] 73 (0, 0)))
    (hab : b0 ≤ aB) (f : Fm) (s : ByteArray) (lB : Nat) (ls : List Int) (hl : W.heap[lB]? = some (.cells ((ls.map (Value.int .u32)).toArray) 22 (0, 0))) (hlb : b0 ≤ lB)
    (hss : s.size < 100) (hascii : ∀ (j : Nat) b, s.data.toList[j]? = some b → b.toNat < 128) (hlen : (Lib.fields s.data.toList).length = ls.length) (hk : k + ls.length ≤ 59)
    (hrow : ∀ j, j < ls.length → formK (k + j) = f ∧ nameK (k + j) = ⟨((Lib.fields s.data.toList).getD j []).toArray⟩ ∧ bitsK (k + j) = bits .or .u32 8239 (ls.getD j 0 * 134217728 % 4294967296)) (n : Nat) :
    CallsIn Fence.wide n Tryd.prog 40 #[.string (keyF f), .string s, .slice (some ⟨lB, 0, none⟩) ls.length ls.length, .pointer (some ⟨aB, 0, none⟩)] W fun e W' =>
      (e = .returned (.bool true) ∧ ISt b0 Wf m nB yB fB l (k + ls.length) W' ∧ J (k + ls.length) W' ∧ KB b0 nB W W') ∨ (e = .returned (.bool false) ∧ Jx W') := by
  have htab := hT k W hJk
  have hfn : ∀ f : FuncId, Fence.wide.fn f = True := fun _ => rfl
  have hwd : Fence.wide.depth = none := rfl
  refine callsIn_of_wp Tryd.func40 rfl trivial ?_ rfl
  simp only [Tryd.ntmps40, List.size_toArray, List.length_cons, List.length_nil, Nat.reduceAdd, Nat.reduceSub, Array.replicate_succ, Array.replicate_zero, List.push_toArray, List.append_toArray, List.nil_append, List.cons_append]
  gi_wp2_with (gi_at_call 39; refine (callsIn_wide.2 (Tryd.strings_Fields s _ (by omega) hascii htab)).mono ?_; rintro e w' ⟨rfl, rfl⟩)
  obtain ⟨W2, hW2⟩ : ∃ W2, W.alloc (.cells ((Lib.fields s.data.toList).map fun l => Value.string ⟨l.toArray⟩).toArray 9) = W2 := ⟨_, rfl⟩
  rw [hW2]
  have hb2 : Below W.heap.size W W2 := by rw [← hW2]; exact (Below.refl _ _).alloc (Nat.le_refl _) _
  have hF : W2.heap[W.heap.size]? = some (.cells ((Lib.fields s.data.toList).map fun l => Value.string ⟨l.toArray⟩).toArray 9 (0, 0)) := by rw [← hW2]; exact World.alloc_heap_new _ _
  have hWB : b0 ≤ W.heap.size := Nat.le_trans hS.bf hS.sz
  have hnlt : nB < W.heap.size := lt_of_heap hS.n
  have hkb2 : KB b0 nB W W2 := KB.of_below hb2
  have hS2 := hS.kb hkb2 ((hb2.block nB hnlt).trans hS.n)
  have hJ2 := hJ _ _ _ hJk (hb2.mono hWB)
  have haB2 := (hb2.block aB (lt_of_heap ha)).trans ha
  have hlB2 := (hb2.block lB (lt_of_heap hl)).trans hl
  have han : aB ≠ nB := fun e => by rw [e, hS.n] at ha; simp at ha
  have hln : lB ≠ nB := fun e => by rw [e, hS.n] at hl; cases ls with | nil => simp at hl | cons x t => simp at hl
  have hFn : W.heap.size ≠ nB := by omega
  have HL := Lib.hid hlen
  have HR := Lib.hid hrow
  clear hlen hrow htab hb2 hW2 ha hl hS hJk
  gi_loopw [13] (fun p wr => ∃ i : Nat, i ≤ ls.length ∧ p = .int .i64 i ∧ ISt b0 Wf m nB yB fB l (k + i) wr ∧ J (k + i) wr ∧ KB b0 nB W2 wr) (fun p _ => ls.length - (intOf p).toNat)
  case atStart => exact ⟨0, Nat.zero_le _, rfl, hS2, hJ2, KB.refl _ _ _⟩
  case round =>
    obtain ⟨i, hi, rfl, hSi, hJi, hKi⟩ := hrel
    by_cases hlt : i < ls.length
    · obtain ⟨x, hx⟩ : ∃ x, ls[i]? = some x := ⟨_, List.getElem?_eq_getElem hlt⟩
      obtain ⟨hf, hnm, hbt⟩ := HR.out i hlt
      have hbt' : bitsK (k + i) = bits .or .u32 8239 (IntKind.u32.wrap (x * 134217728)) := by rw [hbt, IntKind.wrap_u32]; simp [hx]
      have hwF := (hKi.block _ hWB (lt_of_heap hF) hFn).trans hF
      have hwl := (hKi.block _ hlb (lt_of_heap hlB2) hln).trans hlB2
      have hwa := (hKi.block _ hab (lt_of_heap haB2) han).trans haB2
      have hname : wr.cell? ⟨W.heap.size, i, none⟩ = some (.string (nameK (k + i))) := by
        rw [hnm]
        have hi2 : i < (Lib.fields s.data.toList).length := by rw [HL.out]; exact hlt
        simp [World.cell?, hwF, hi2]
      have hlc : wr.cell? ⟨lB, i, none⟩ = some (.int .u32 x) := by simp [World.cell?, hwl, hx]
      have hac := (cells_one hwa).1
      have hadd : ∀ o : Obj, o = .cells #[.string (nameK (k + i))] 9 (0, 0) → ∀ n', CallsIn Fence.wide n' Tryd.prog 37 #[.string (keyF f), .int .u32 (bits .or .u32 8239 (IntKind.u32.wrap (x * 134217728))), .slice (some ⟨wr.heap.size, 0, none⟩) 1 1, .pointer (some ⟨nB, 0, none⟩), .pointer (some ⟨yB, 0, none⟩), .pointer (some ⟨fB, 0, none⟩)] (wr.alloc o).drew fun e W' =>
          ∃ b, e = .returned (.bool b) ∧ (b = true → ISt b0 Wf m nB yB fB l (k + i + 1) W' ∧ J (k + i + 1) W' ∧ KB b0 nB wr W') ∧ (b = false → Jx W') := by
        intro o ho n'
        have hb : Below wr.heap.size wr (wr.alloc o).drew := ((Below.refl _ _).alloc (Nat.le_refl _) _).drew
        have hkb : KB b0 nB wr (wr.alloc o).drew := KB.of_below hb
        have hSa := hSi.kb hkb ((hb.block nB (lt_of_heap hSi.n)).trans hSi.n)
        have hJa := hJ _ _ _ hJi (hb.mono (Nat.le_trans hSi.bf hSi.sz))
        refine (add_at hR hJ hJx (by omega) hSa hJa hf hbt' rfl wr.heap.size ?_ n').mono ?_
        · rw [ho]; exact World.alloc_heap_new _ _
        · rintro e W' (⟨h1, h2, h3, h4⟩ | h)
          · exact ⟨true, h1, fun _ => ⟨h2, h3, hkb.trans h4⟩, fun h => by cases h⟩
          · exact ⟨false, h.1, (fun h => by cases h), fun _ => h.2⟩
      have hadd := Lib.hid hadd
      clear hf hnm hbt hbt' hx hwF hwl hwa hJ2 hS2 hF haB2 hlB2 hkb2 hR hJ hJx HR HL hT hSi hJi
      have hmix : Tryd.prog.follows .mixedOrders = true := by kernel_rfl
      gi_wp2
      have nl := cell_lt hlc
      have na := cell_lt hac
      have hlc2 : ∀ o, (wr.alloc o).cell? ⟨lB, i, none⟩ = some (.int .u32 x) := fun o => cell_alloc hlc
      have hac2 : ∀ o, (wr.alloc o).cell? ⟨aB, 0, none⟩ = some (.func (.func 37) #[] #[.pointer (some ⟨nB, 0, none⟩), .pointer (some ⟨yB, 0, none⟩), .pointer (some ⟨fB, 0, none⟩)]) := fun o => cell_alloc hac
      gi_region_with_o (gi_at_call 37; refine (hadd.out _ rfl _).mono ?_; rintro e W5 ⟨b, rfl, ht, hx⟩)
      all_goals
        clear hadd hlc hac hlc2 hac2 hname hmix
        cases b with
        | true =>
          obtain ⟨t1, t2, t3⟩ := ht rfl
          clear ht hx
          gi_wp2
          go_roundw
          case rel => exact ⟨i + 1, by omega, by go_num, t1, t2, hKi.trans t3⟩
          case measure => simp [intOf]; omega
        | false =>
          have hx2 := hx rfl
          clear ht hx
          gi_wp2
          go_ret
          exact .inr ⟨rfl, hx2⟩
    · obtain rfl : i = ls.length := by omega
      gi_wp2
      go_ret
      exact .inl ⟨rfl, hSi, hJi, hkb2.trans hKi⟩

end Go.Proofs.YtamilahkdinjkaaDoor
