/-
  isa.rows$1: the iterator, whole.
-/
import Derived.Test.YtamilahkdinjkaaDoorSeg
namespace Go.Proofs.YtamilahkdinjkaaDoor
set_option linter.unusedVariables false
set_option linter.unusedSimpArgs false
open Go.RowKit Go.Shelf
attribute [local go_sem] Oper.semAt_some

/-- Where the iterator stands within its chain: k rows have come. -/
structure TT (b0 : Nat) (Wf : World) (m nB yB fB l aB : Nat) (J : Nat → World → Prop) (k : Nat) (w : World) : Prop where
  st : ISt b0 Wf m nB yB fB l k w
  j : J k w
  a : w.heap[aB]? = some (.cells #[.func (.func 37) #[] #[.pointer (some ⟨nB, 0, none⟩), .pointer (some ⟨yB, 0, none⟩), .pointer (some ⟨fB, 0, none⟩)]] 73 (0, 0))

section
variable {b0 : Nat} {Wf : World} {m nB yB fB l aB : Nat} {J : Nat → World → Prop} {Jx : World → Prop} (hR : Rounds l b0 J Jx) (hJ : AbideB b0 J) (hJx : AbideX Jx) (hab : b0 ≤ aB) (han : aB ≠ nB)

omit hR hJx hab han in
include hJ in
theorem TT.grow {k : Nat} {w w' : World} (h : TT b0 Wf m nB yB fB l aB J k w) (hb : Below w.heap.size w w') : TT b0 Wf m nB yB fB l aB J k w' := by
  have hS := h.st
  exact ⟨hS.kb (KB.of_below hb) ((hb.block _ (lt_of_heap hS.n)).trans hS.n), hJ _ _ _ h.j (hb.mono (Nat.le_trans hS.bf hS.sz)), (hb.block _ (lt_of_heap h.a)).trans h.a⟩

include hR hJ hJx hab han
theorem TT.add {k : Nat} {w : World} (h : TT b0 Wf m nB yB fB l aB J k w) (hk : k < 59) {f : Fm} (hf : formK k = f) {bb : Int} (hb : bitsK k = bb) {nm : ByteArray} (hn : nameK k = nm) (n sB : Nat) (hsB : w.heap.size = sB) :
    CallsIn Fence.wide n Tryd.prog 37 #[.string (keyF f), .int .u32 bb, .slice (some ⟨sB, 0, none⟩) 1 1, .pointer (some ⟨nB, 0, none⟩), .pointer (some ⟨yB, 0, none⟩), .pointer (some ⟨fB, 0, none⟩)] (w.alloc (.cells #[.string nm] 9)) fun e W' =>
      (e = .returned (.bool true) ∧ TT b0 Wf m nB yB fB l aB J (k + 1) W') ∨ (e = .returned (.bool false) ∧ Jx W') := by
  subst hsB
  have h' := TT.grow hJ h (w' := w.alloc (.cells #[.string nm] 9)) ((Below.refl _ _).alloc (Nat.le_refl _) _)
  refine (add_at hR hJ hJx hk h'.st h'.j hf hb hn w.heap.size (World.alloc_heap_new _ _) n).mono ?_
  rintro e W' (⟨h1, h2, h3, h4⟩ | h1)
  · exact .inl ⟨h1, h2, h3, (h4.block _ hab (lt_of_heap h'.a) han).trans h'.a⟩
  · exact .inr h1

theorem TT.f3 (hT : ∀ k W, J k W → Tab W) {k : Nat} {w : World} (h : TT b0 Wf m nB yB fB l aB J k w) (f : Fm) (c : Int) (s : ByteArray) (ls : List Int)
    (hss : s.size < 100) (hascii : ∀ (j : Nat) b, s.data.toList[j]? = some b → b.toNat < 128) (hlen : (Lib.fields s.data.toList).length = ls.length) (hk : k + ls.length ≤ 59) (hc0 : 0 ≤ c) (hc1 : c < 4294967296)
    (hrow : ∀ j, j < ls.length → formK (k + j) = f ∧ nameK (k + j) = ⟨((Lib.fields s.data.toList).getD j []).toArray⟩ ∧ bitsK (k + j) = bits .or .u32 c (ls.getD j 0 * 4096 % 4294967296)) (n : Nat) :
    CallsIn Fence.wide n Tryd.prog 38 #[.string (keyF f), .int .u32 c, .string s, .slice (some ⟨w.heap.size, 0, none⟩) ls.length ls.length, .pointer (some ⟨aB, 0, none⟩)] (w.alloc (.cells ((ls.map (Value.int .u32)).toArray) 22)) fun e W' =>
      (e = .returned (.bool true) ∧ TT b0 Wf m nB yB fB l aB J (k + ls.length) W') ∨ (e = .returned (.bool false) ∧ Jx W') := by
  have h' := TT.grow hJ h (w' := w.alloc (.cells ((ls.map (Value.int .u32)).toArray) 22)) ((Below.refl _ _).alloc (Nat.le_refl _) _)
  refine (f3_in hR hJ hJx hT h'.st h'.j aB h'.a hab f c s w.heap.size ls (World.alloc_heap_new _ _) (Nat.le_trans h.st.bf h.st.sz) hss hascii hlen hk hc0 hc1 hrow n).mono ?_
  rintro e W' (⟨h1, h2, h3, h4⟩ | h1)
  · exact .inl ⟨h1, h2, h3, (h4.block _ hab (lt_of_heap h'.a) han).trans h'.a⟩
  · exact .inr h1

theorem TT.atomic (hT : ∀ k W, J k W → Tab W) {k : Nat} {w : World} (h : TT b0 Wf m nB yB fB l aB J k w) (f : Fm) (s : ByteArray) (ls : List Int)
    (hss : s.size < 100) (hascii : ∀ (j : Nat) b, s.data.toList[j]? = some b → b.toNat < 128) (hlen : (Lib.fields s.data.toList).length = ls.length) (hk : k + ls.length ≤ 59)
    (hrow : ∀ j, j < ls.length → formK (k + j) = f ∧ nameK (k + j) = ⟨((Lib.fields s.data.toList).getD j []).toArray⟩ ∧ bitsK (k + j) = bits .or .u32 8239 (ls.getD j 0 * 134217728 % 4294967296)) (n : Nat) :
    CallsIn Fence.wide n Tryd.prog 40 #[.string (keyF f), .string s, .slice (some ⟨w.heap.size, 0, none⟩) ls.length ls.length, .pointer (some ⟨aB, 0, none⟩)] (w.alloc (.cells ((ls.map (Value.int .u32)).toArray) 22)) fun e W' =>
      (e = .returned (.bool true) ∧ TT b0 Wf m nB yB fB l aB J (k + ls.length) W') ∨ (e = .returned (.bool false) ∧ Jx W') := by
  have h' := TT.grow hJ h (w' := w.alloc (.cells ((ls.map (Value.int .u32)).toArray) 22)) ((Below.refl _ _).alloc (Nat.le_refl _) _)
  refine (atomic_in hR hJ hJx hT h'.st h'.j aB h'.a hab f s w.heap.size ls (World.alloc_heap_new _ _) (Nat.le_trans h.st.bf h.st.sz) hss hascii hlen hk hrow n).mono ?_
  rintro e W' (⟨h1, h2, h3, h4⟩ | h1)
  · exact .inl ⟨h1, h2, h3, (h4.block _ hab (lt_of_heap h'.a) han).trans h'.a⟩
  · exact .inr h1
end

/-! ### The three operations of a link -/
theorem tmp_eval {a : Act} {k : Nat} {v : Value} (h : a.tmps[k]? = some v) : a.eval (.tmp k) = v := by simp [Act.eval, h]

theorem r_load {aB : Nat} {a : Act} {w : World} {v : Value} (hv : (match v with | .func .. => true | _ => false) = true) (hF : FR aB a) (h : w.heap[aB]? = some (.cells #[v] 73 (0, 0))) {o : Oper} (ho : o.op = .load 73 (.tmp 4)) :
    (execOp a.eval o).run Tryd.prog w = .ok (.value v) w := by
  have hc := (cells_one h).1
  have e := tmp_eval hF.s4
  obtain ⟨dst, op, ty, pos, after, guard⟩ := o
  simp only at ho
  subst ho
  cases v <;> simp at hv
  simp only [execOp, e]
  go_simp

theorem r_build1 {a : Act} {w : World} {nm : ByteArray} {o : Oper} (ho : o.op = .buildSlice 68 1 #[(0, .const (.string nm))]) :
    (execOp a.eval o).run Tryd.prog w = .ok (.value (.slice (some ⟨w.heap.size, 0, none⟩) 1 1)) (w.alloc (.cells #[.string nm] 9)) := by
  obtain ⟨dst, op, ty, pos, after, guard⟩ := o
  simp only at ho
  subst ho
  go_simp

theorem r_call3 {a : Act} {w : World} {k1 k2 fn : Nat} {cap : Array Value} {v1 v2 x y : Value} (h1 : a.tmps[k1]? = some (.func (.func fn) #[] cap)) (h2 : a.tmps[k2]? = some v2) (he : Enters Tryd.prog fn) {ts : Array TypeId}
    {o : Oper} (ho : o.op = .call { callee := .value (.tmp k1), args := #[.const x, .const y, .tmp k2], argTypes := ts }) : (execOp a.eval o).run Tryd.prog w = .ok (.enter fn (#[x, y, v2] ++ cap)) w := by
  have e1 := tmp_eval h1
  have e2 := tmp_eval h2
  obtain ⟨dst, op, ty, pos, after, guard⟩ := o
  simp only at ho
  subst ho
  have ec : ∀ v, a.eval (.const v) = v := fun _ => rfl
  simp only [execOp, resolve, e1, e2, ec, List.map_toArray, List.map_cons, List.map_nil]
  simp [go_sem, invoke, he _ _]
theorem r_call4 {a : Act} {w : World} {k1 k2 fn : Nat} {cap : Array Value} {v1 v2 x y z : Value} (h1 : a.tmps[k1]? = some (.func (.func fn) #[] cap)) (h2 : a.tmps[k2]? = some v2) (he : Enters Tryd.prog fn) {ts : Array TypeId}
    {o : Oper} (ho : o.op = .call { callee := .value (.tmp k1), args := #[.const x, .const y, .const z, .tmp k2], argTypes := ts }) : (execOp a.eval o).run Tryd.prog w = .ok (.enter fn (#[x, y, z, v2] ++ cap)) w := by
  have e1 := tmp_eval h1
  have e2 := tmp_eval h2
  obtain ⟨dst, op, ty, pos, after, guard⟩ := o
  simp only at ho
  subst ho
  have ec : ∀ v, a.eval (.const v) = v := fun _ => rfl
  simp only [execOp, resolve, e1, e2, ec, List.map_toArray, List.map_cons, List.map_nil]
  simp [go_sem, invoke, he _ _]

theorem enAdd : Enters Tryd.prog 37 := enters_of Tryd.func37 (by kernel_rfl) rfl
theorem enF3 : Enters Tryd.prog 38 := enters_of Tryd.func38 (by kernel_rfl) rfl
theorem enAt : Enters Tryd.prog 40 := enters_of Tryd.func40 (by kernel_rfl) rfl

theorem r_move {a : Act} {w : World} {k : Nat} {v : Value} (h : a.tmps[k]? = some v) {o : Oper} (ho : o.op = .move (.tmp k)) : (execOp a.eval o).run Tryd.prog w = .ok (.value v) w := by
  have e := tmp_eval h
  unfold execOp
  rw [ho]
  simp [e]
theorem wpl_gen {n : Nat} {P : Program} {ops : Array Oper} {Q : Exit → Act → World → Prop} {rest : List Oper} {a : Act} {w : World} (C : Act → Prop) (hC : C a) (h : ∀ a', C a' → wpListIn Fence.wide n P ops Q rest a' w) : wpListIn Fence.wide n P ops Q rest a w := h a hC
theorem ascii_of {l : List UInt8} (h : (l.all fun b => decide (b.toNat < 128)) = true) : ∀ (j : Nat) b, l[j]? = some b → b.toNat < 128 := fun j b hb => by
  have := List.all_eq_true.1 h b (List.mem_of_getElem? hb)
  simpa using this

theorem asc4 : ∀ (j : Nat) b, (⟨#[98, 101, 113, 32, 98, 110, 101, 32, 98, 108, 116, 32, 98, 103, 101, 32, 98, 108, 116, 117, 32, 98, 103, 101, 117]⟩ : ByteArray).data.toList[j]? = some b → b.toNat < 128 := ascii_of (by decide)
theorem row4 : ∀ j, j < ([0, 1, 4, 5, 6, 7] : List Int).length → formK (4 + j) = .b ∧ nameK (4 + j) = ⟨((Lib.fields (⟨#[98, 101, 113, 32, 98, 110, 101, 32, 98, 108, 116, 32, 98, 103, 101, 32, 98, 108, 116, 117, 32, 98, 103, 101, 117]⟩ : ByteArray).data.toList).getD j []).toArray⟩ ∧ bitsK (4 + j) = bits .or .u32 99 (([0, 1, 4, 5, 6, 7] : List Int).getD j 0 * 4096 % 4294967296) := by
  intro j hj
  have hj : j < 6 := hj
  match j, hj with
  | 0, _ => exact ⟨rfl, by decide, by decide⟩
  | 1, _ => exact ⟨rfl, by decide, by decide⟩
  | 2, _ => exact ⟨rfl, by decide, by decide⟩
  | 3, _ => exact ⟨rfl, by decide, by decide⟩
  | 4, _ => exact ⟨rfl, by decide, by decide⟩
  | 5, _ => exact ⟨rfl, by decide, by decide⟩
theorem asc5 : ∀ (j : Nat) b, (⟨#[108, 98, 32, 108, 104, 32, 108, 119, 32, 108, 98, 117, 32, 108, 104, 117]⟩ : ByteArray).data.toList[j]? = some b → b.toNat < 128 := ascii_of (by decide)
theorem row5 : ∀ j, j < ([0, 1, 2, 4, 5] : List Int).length → formK (10 + j) = .load ∧ nameK (10 + j) = ⟨((Lib.fields (⟨#[108, 98, 32, 108, 104, 32, 108, 119, 32, 108, 98, 117, 32, 108, 104, 117]⟩ : ByteArray).data.toList).getD j []).toArray⟩ ∧ bitsK (10 + j) = bits .or .u32 3 (([0, 1, 2, 4, 5] : List Int).getD j 0 * 4096 % 4294967296) := by
  intro j hj
  have hj : j < 5 := hj
  match j, hj with
  | 0, _ => exact ⟨rfl, by decide, by decide⟩
  | 1, _ => exact ⟨rfl, by decide, by decide⟩
  | 2, _ => exact ⟨rfl, by decide, by decide⟩
  | 3, _ => exact ⟨rfl, by decide, by decide⟩
  | 4, _ => exact ⟨rfl, by decide, by decide⟩
theorem asc6 : ∀ (j : Nat) b, (⟨#[115, 98, 32, 115, 104, 32, 115, 119]⟩ : ByteArray).data.toList[j]? = some b → b.toNat < 128 := ascii_of (by decide)
theorem row6 : ∀ j, j < ([0, 1, 2] : List Int).length → formK (15 + j) = .s ∧ nameK (15 + j) = ⟨((Lib.fields (⟨#[115, 98, 32, 115, 104, 32, 115, 119]⟩ : ByteArray).data.toList).getD j []).toArray⟩ ∧ bitsK (15 + j) = bits .or .u32 35 (([0, 1, 2] : List Int).getD j 0 * 4096 % 4294967296) := by
  intro j hj
  have hj : j < 3 := hj
  match j, hj with
  | 0, _ => exact ⟨rfl, by decide, by decide⟩
  | 1, _ => exact ⟨rfl, by decide, by decide⟩
  | 2, _ => exact ⟨rfl, by decide, by decide⟩
theorem asc7 : ∀ (j : Nat) b, (⟨#[97, 100, 100, 105, 32, 115, 108, 116, 105, 32, 115, 108, 116, 105, 117, 32, 120, 111, 114, 105, 32, 111, 114, 105, 32, 97, 110, 100, 105]⟩ : ByteArray).data.toList[j]? = some b → b.toNat < 128 := ascii_of (by decide)
theorem row7 : ∀ j, j < ([0, 2, 3, 4, 6, 7] : List Int).length → formK (18 + j) = .i ∧ nameK (18 + j) = ⟨((Lib.fields (⟨#[97, 100, 100, 105, 32, 115, 108, 116, 105, 32, 115, 108, 116, 105, 117, 32, 120, 111, 114, 105, 32, 111, 114, 105, 32, 97, 110, 100, 105]⟩ : ByteArray).data.toList).getD j []).toArray⟩ ∧ bitsK (18 + j) = bits .or .u32 19 (([0, 2, 3, 4, 6, 7] : List Int).getD j 0 * 4096 % 4294967296) := by
  intro j hj
  have hj : j < 6 := hj
  match j, hj with
  | 0, _ => exact ⟨rfl, by decide, by decide⟩
  | 1, _ => exact ⟨rfl, by decide, by decide⟩
  | 2, _ => exact ⟨rfl, by decide, by decide⟩
  | 3, _ => exact ⟨rfl, by decide, by decide⟩
  | 4, _ => exact ⟨rfl, by decide, by decide⟩
  | 5, _ => exact ⟨rfl, by decide, by decide⟩
theorem asc8 : ∀ (j : Nat) b, (⟨#[115, 108, 108, 105, 32, 115, 114, 108, 105]⟩ : ByteArray).data.toList[j]? = some b → b.toNat < 128 := ascii_of (by decide)
theorem row8 : ∀ j, j < ([1, 5] : List Int).length → formK (24 + j) = .shift ∧ nameK (24 + j) = ⟨((Lib.fields (⟨#[115, 108, 108, 105, 32, 115, 114, 108, 105]⟩ : ByteArray).data.toList).getD j []).toArray⟩ ∧ bitsK (24 + j) = bits .or .u32 19 (([1, 5] : List Int).getD j 0 * 4096 % 4294967296) := by
  intro j hj
  have hj : j < 2 := hj
  match j, hj with
  | 0, _ => exact ⟨rfl, by decide, by decide⟩
  | 1, _ => exact ⟨rfl, by decide, by decide⟩
theorem asc12 : ∀ (j : Nat) b, (⟨#[115, 108, 108, 32, 115, 108, 116, 32, 115, 108, 116, 117, 32, 120, 111, 114, 32, 115, 114, 108]⟩ : ByteArray).data.toList[j]? = some b → b.toNat < 128 := ascii_of (by decide)
theorem row12 : ∀ j, j < ([1, 2, 3, 4, 5] : List Int).length → formK (29 + j) = .r ∧ nameK (29 + j) = ⟨((Lib.fields (⟨#[115, 108, 108, 32, 115, 108, 116, 32, 115, 108, 116, 117, 32, 120, 111, 114, 32, 115, 114, 108]⟩ : ByteArray).data.toList).getD j []).toArray⟩ ∧ bitsK (29 + j) = bits .or .u32 51 (([1, 2, 3, 4, 5] : List Int).getD j 0 * 4096 % 4294967296) := by
  intro j hj
  have hj : j < 5 := hj
  match j, hj with
  | 0, _ => exact ⟨rfl, by decide, by decide⟩
  | 1, _ => exact ⟨rfl, by decide, by decide⟩
  | 2, _ => exact ⟨rfl, by decide, by decide⟩
  | 3, _ => exact ⟨rfl, by decide, by decide⟩
  | 4, _ => exact ⟨rfl, by decide, by decide⟩
theorem asc14 : ∀ (j : Nat) b, (⟨#[111, 114, 32, 97, 110, 100]⟩ : ByteArray).data.toList[j]? = some b → b.toNat < 128 := ascii_of (by decide)
theorem row14 : ∀ j, j < ([6, 7] : List Int).length → formK (35 + j) = .r ∧ nameK (35 + j) = ⟨((Lib.fields (⟨#[111, 114, 32, 97, 110, 100]⟩ : ByteArray).data.toList).getD j []).toArray⟩ ∧ bitsK (35 + j) = bits .or .u32 51 (([6, 7] : List Int).getD j 0 * 4096 % 4294967296) := by
  intro j hj
  have hj : j < 2 := hj
  match j, hj with
  | 0, _ => exact ⟨rfl, by decide, by decide⟩
  | 1, _ => exact ⟨rfl, by decide, by decide⟩
theorem asc17 : ∀ (j : Nat) b, (⟨#[109, 117, 108, 32, 109, 117, 108, 104, 32, 109, 117, 108, 104, 115, 117, 32, 109, 117, 108, 104, 117, 32, 100, 105, 118, 32, 100, 105, 118, 117, 32, 114, 101, 109, 32, 114, 101, 109, 117]⟩ : ByteArray).data.toList[j]? = some b → b.toNat < 128 := ascii_of (by decide)
theorem row17 : ∀ j, j < ([0, 1, 2, 3, 4, 5, 6, 7] : List Int).length → formK (39 + j) = .r ∧ nameK (39 + j) = ⟨((Lib.fields (⟨#[109, 117, 108, 32, 109, 117, 108, 104, 32, 109, 117, 108, 104, 115, 117, 32, 109, 117, 108, 104, 117, 32, 100, 105, 118, 32, 100, 105, 118, 117, 32, 114, 101, 109, 32, 114, 101, 109, 117]⟩ : ByteArray).data.toList).getD j []).toArray⟩ ∧ bitsK (39 + j) = bits .or .u32 33554483 (([0, 1, 2, 3, 4, 5, 6, 7] : List Int).getD j 0 * 4096 % 4294967296) := by
  intro j hj
  have hj : j < 8 := hj
  match j, hj with
  | 0, _ => exact ⟨rfl, by decide, by decide⟩
  | 1, _ => exact ⟨rfl, by decide, by decide⟩
  | 2, _ => exact ⟨rfl, by decide, by decide⟩
  | 3, _ => exact ⟨rfl, by decide, by decide⟩
  | 4, _ => exact ⟨rfl, by decide, by decide⟩
  | 5, _ => exact ⟨rfl, by decide, by decide⟩
  | 6, _ => exact ⟨rfl, by decide, by decide⟩
  | 7, _ => exact ⟨rfl, by decide, by decide⟩
theorem asc18 : ∀ (j : Nat) b, (⟨#[108, 114]⟩ : ByteArray).data.toList[j]? = some b → b.toNat < 128 := ascii_of (by decide)
theorem row18 : ∀ j, j < ([2] : List Int).length → formK (47 + j) = .lr ∧ nameK (47 + j) = ⟨((Lib.fields (⟨#[108, 114]⟩ : ByteArray).data.toList).getD j []).toArray⟩ ∧ bitsK (47 + j) = bits .or .u32 8239 (([2] : List Int).getD j 0 * 134217728 % 4294967296) := by
  intro j hj
  have hj : j < 1 := hj
  match j, hj with
  | 0, _ => exact ⟨rfl, by decide, by decide⟩
theorem asc19 : ∀ (j : Nat) b, (⟨#[115, 99, 32, 97, 109, 111, 115, 119, 97, 112, 32, 97, 109, 111, 97, 100, 100, 32, 97, 109, 111, 120, 111, 114, 32, 97, 109, 111, 97, 110, 100, 32, 97, 109, 111, 111, 114, 32, 97, 109, 111, 109, 105, 110, 32, 97, 109, 111, 109, 97, 120, 32, 97, 109, 111, 109, 105, 110, 117, 32, 97, 109, 111, 109, 97, 120, 117]⟩ : ByteArray).data.toList[j]? = some b → b.toNat < 128 := ascii_of (by decide)
theorem row19 : ∀ j, j < ([3, 1, 0, 4, 12, 8, 16, 20, 24, 28] : List Int).length → formK (48 + j) = .a ∧ nameK (48 + j) = ⟨((Lib.fields (⟨#[115, 99, 32, 97, 109, 111, 115, 119, 97, 112, 32, 97, 109, 111, 97, 100, 100, 32, 97, 109, 111, 120, 111, 114, 32, 97, 109, 111, 97, 110, 100, 32, 97, 109, 111, 111, 114, 32, 97, 109, 111, 109, 105, 110, 32, 97, 109, 111, 109, 97, 120, 32, 97, 109, 111, 109, 105, 110, 117, 32, 97, 109, 111, 109, 97, 120, 117]⟩ : ByteArray).data.toList).getD j []).toArray⟩ ∧ bitsK (48 + j) = bits .or .u32 8239 (([3, 1, 0, 4, 12, 8, 16, 20, 24, 28] : List Int).getD j 0 * 134217728 % 4294967296) := by
  intro j hj
  have hj : j < 10 := hj
  match j, hj with
  | 0, _ => exact ⟨rfl, by decide, by decide⟩
  | 1, _ => exact ⟨rfl, by decide, by decide⟩
  | 2, _ => exact ⟨rfl, by decide, by decide⟩
  | 3, _ => exact ⟨rfl, by decide, by decide⟩
  | 4, _ => exact ⟨rfl, by decide, by decide⟩
  | 5, _ => exact ⟨rfl, by decide, by decide⟩
  | 6, _ => exact ⟨rfl, by decide, by decide⟩
  | 7, _ => exact ⟨rfl, by decide, by decide⟩
  | 8, _ => exact ⟨rfl, by decide, by decide⟩
  | 9, _ => exact ⟨rfl, by decide, by decide⟩

set_option maxRecDepth 100000 in
set_option maxHeartbeats 4000000 in
theorem rows1_in {l : Nat} {W : World} {J : Nat → World → Prop} {Jx : World → Prop} (hR : Rounds l W.heap.size J Jx) (hJ : AbideB W.heap.size J) (hJx : AbideX Jx) (hT : ∀ k W, J k W → Tab W) (h0 : J 0 W) (n : Nat) :
    CallsIn Fence.wide n Tryd.prog 35 #[.func (.yield l) #[] #[]] W fun e W' => (∃ v, e = .returned v) ∧ (J 59 W' ∨ Jx W') := by
  have hfn : ∀ f : FuncId, Fence.wide.fn f = True := fun _ => rfl
  have hwd : Fence.wide.depth = none := rfl
  have hmf : ∀ (fn : Fn) (first cap : Array Value) (w : World), (Instr.makeFunc fn first cap).run Tryd.prog w = .ok (.func fn first cap) w := fun _ _ _ _ => rfl
  have hR := Lib.hid hR
  have hJ := Lib.hid hJ
  have hJx := Lib.hid hJx
  have hT := Lib.hid hT
  refine callsIn_of_wp Tryd.func35 rfl trivial ?_ rfl
  simp only [Tryd.ntmps35, List.size_toArray, List.length_cons, List.length_nil, Nat.reduceAdd, Nat.reduceSub, Array.replicate_succ, Array.replicate_zero, List.push_toArray, List.append_toArray, List.nil_append, List.cons_append]
  gi_wp2_with (gi_at_call 36; refine (callsIn_wide.2 (forms_any _)).mono ?_; rintro e w' ⟨m, rfl, hm, hfm, hb⟩)
  rename_i K hK
  have hsz : (W.alloc (.cells #[.func (.yield l) #[] #[]] 70)).heap.size = W.heap.size + 1 := by simp
  rw [hsz] at hm hfm
  have hbs := hb.size
  rw [hsz] at hbs
  have hR := hR.out
  have hJ := hJ.out
  have hJx := hJx.out
  have hT := hT.out
  obtain ⟨aB, haB⟩ : ∃ aB, aB = w'.heap.size + 1 + 1 := ⟨_, rfl⟩
  have hT0 : TT W.heap.size w' m (w'.heap.size + 1) W.heap.size w'.heap.size l aB J 0 (((w'.alloc (.cells #[.map (some m)] 71)).alloc (.cells #[.int .i64 0] 23)).alloc (.cells #[.func (.func 37) #[] #[.pointer (some ⟨w'.heap.size + 1, 0, none⟩), .pointer (some ⟨W.heap.size, 0, none⟩), .pointer (some ⟨w'.heap.size, 0, none⟩)]] 73)) := by
    have hfor : FormsMap W.heap.size m w' := hfm.mono (by omega)
    have hbk : ∀ r, r < w'.heap.size → (((w'.alloc (.cells #[.map (some m)] 71)).alloc (.cells #[.int .i64 0] 23)).alloc (.cells #[.func (.func 37) #[] #[.pointer (some ⟨w'.heap.size + 1, 0, none⟩), .pointer (some ⟨W.heap.size, 0, none⟩), .pointer (some ⟨w'.heap.size, 0, none⟩)]] 73)).heap[r]? = w'.heap[r]? := fun r hr =>
      ((Below.heap_alloc _ _ r (by simp; omega)).trans (Below.heap_alloc _ _ r (by simp; omega))).trans (Below.heap_alloc _ _ r hr)
    have hbe : Below W.heap.size W (((w'.alloc (.cells #[.map (some m)] 71)).alloc (.cells #[.int .i64 0] 23)).alloc (.cells #[.func (.func 37) #[] #[.pointer (some ⟨w'.heap.size + 1, 0, none⟩), .pointer (some ⟨W.heap.size, 0, none⟩), .pointer (some ⟨w'.heap.size, 0, none⟩)]] 73)) :=
      (((((Below.refl _ _).alloc (Nat.le_refl _) _).trans (hb.mono (by simp))).alloc (by omega) _).alloc (by simp; omega) _).alloc (by simp; omega) _
    refine ⟨⟨hfor, by omega, fun r _ hr => hbk r hr, by simp; omega, by omega, by omega, by omega, by omega, by omega, by omega, ?_, ?_, ?_⟩, hJ _ _ _ h0 hbe, ?_⟩
    · refine (Below.heap_alloc _ _ _ (by simp)).trans ?_
      have := World.alloc_heap_new (w'.alloc (.cells #[.map (some m)] 71)) (.cells #[.int .i64 0] 23)
      rwa [World.size_alloc] at this
    · refine (hbk _ (by omega)).trans ((hb.block _ (by simp)).trans (World.alloc_heap_new _ _))
    · exact ((Below.heap_alloc _ _ _ (by simp; omega)).trans (Below.heap_alloc _ _ _ (by simp))).trans (World.alloc_heap_new _ _)
    · have := World.alloc_heap_new ((w'.alloc (.cells #[.map (some m)] 71)).alloc (.cells #[.int .i64 0] 23)) (.cells #[.func (.func 37) #[] #[.pointer (some ⟨w'.heap.size + 1, 0, none⟩), .pointer (some ⟨W.heap.size, 0, none⟩), .pointer (some ⟨w'.heap.size, 0, none⟩)]] 73)
      rw [World.size_alloc, World.size_alloc] at this
      rw [haB]; exact this
  refine (TT.add hR hJ hJx (aB := aB) (by omega) (by omega) hT0 (by decide) (f := .u) rfl rfl rfl (n - 1) (w'.heap.size + 1 + 1 + 1) (by simp)).mono ?_
  intro e w2 hpost
  have hpost2 : ∃ b, e = .returned (.bool b) ∧ (b = true → TT W.heap.size w' m (w'.heap.size + 1) W.heap.size w'.heap.size l aB J 1 w2) ∧ (b = false → Jx w2) := by
    rcases hpost with ⟨h1, h2⟩ | ⟨h1, h2⟩
    · exact ⟨true, h1, fun _ => h2, fun h => by cases h⟩
    · exact ⟨false, h1, (fun h => by cases h), fun _ => h2⟩
  obtain ⟨b, rfl, ht, hx⟩ := hpost2
  refine hK _ _ ?_
  clear hK h0 hT0 hb hfm hm hsz
  refine stepV (v := .bool b) (w' := w2) rfl rfl ?_
  refine wpl_gen (fun a => FR aB a ∧ a.tmps[14]? = some (.bool b)) ⟨⟨rfl, rfl, by rw [haB]; rfl, by rw [haB]; rfl, by rw [haB]; rfl⟩, rfl⟩ ?_
  intro a1 ⟨hF1, hp1⟩
  have hab : W.heap.size ≤ aB := by omega
  have han : aB ≠ w'.heap.size + 1 := by omega
  clear haB hbs
  generalize w'.heap.size + 1 = nB at *
  generalize W.heap.size = b0 at *
  generalize w'.heap.size = fB at *
  -- 1: auipc
  refine seg (g := 3) (p := 14) (T := TT b0 w' m nB b0 fB l aB J 2) (Jx := Jx) hF1 hp1 (by decide) (by decide) rfl rfl rfl rfl rfl rfl rfl rfl rfl rfl rfl rfl rfl hx (fun hb => ?_) ?_
  · have hT1 := ht hb
    have hF' := hF1
    refine ⟨_, _, _, _, _, r_load rfl hF1 hT1.a rfl, r_build1 (nm := ⟨#[97, 117, 105, 112, 99]⟩) rfl, r_call3 (v1 := .nilFunc) ((put_get (by decide)).trans (put_self (by rw [hF1.size]; decide))) (put_self (by simp [Act.put, hF1.size])) enAdd rfl, ?_⟩
    exact TT.add hR hJ hJx hab han hT1 (by decide) (f := .u) rfl (bb := 23) rfl (nm := ⟨#[97, 117, 105, 112, 99]⟩) rfl (n - 1) _ rfl
  intro a2 w3 b2 hF2 hp2 ht2 hx2
  clear ht hx hF1 hp1
  -- 2: jal
  refine seg (g := 8) (p := 19) (T := TT b0 w' m nB b0 fB l aB J 3) (Jx := Jx) hF2 hp2 (by decide) (by decide) rfl rfl rfl rfl rfl rfl rfl rfl rfl rfl rfl rfl rfl hx2 (fun hb => ?_) ?_
  · have hT2 := ht2 hb
    have hF' := hF2
    refine ⟨_, _, _, _, _, r_load rfl hF2 hT2.a rfl, r_build1 (nm := ⟨#[106, 97, 108]⟩) rfl, r_call3 (v1 := .nilFunc) ((put_get (by decide)).trans (put_self (by rw [hF2.size]; decide))) (put_self (by simp [Act.put, hF2.size])) enAdd rfl, ?_⟩
    exact TT.add hR hJ hJx hab han hT2 (by decide) (f := .j) rfl (bb := 111) rfl (nm := ⟨#[106, 97, 108]⟩) rfl (n - 1) _ rfl
  intro a3 w4 b3 hF3 hp3 ht3 hx3
  clear ht2 hx2 hF2 hp2
  -- 3: jalr
  refine seg (g := 13) (p := 24) (T := TT b0 w' m nB b0 fB l aB J 4) (Jx := Jx) hF3 hp3 (by decide) (by decide) rfl rfl rfl rfl rfl rfl rfl rfl rfl rfl rfl rfl rfl hx3 (fun hb => ?_) ?_
  · have hT3 := ht3 hb
    have hF' := hF3
    refine ⟨_, _, _, _, _, r_load rfl hF3 hT3.a rfl, r_build1 (nm := ⟨#[106, 97, 108, 114]⟩) rfl, r_call3 (v1 := .nilFunc) ((put_get (by decide)).trans (put_self (by rw [hF3.size]; decide))) (put_self (by simp [Act.put, hF3.size])) enAdd rfl, ?_⟩
    exact TT.add hR hJ hJx hab han hT3 (by decide) (f := .load) rfl (bb := 103) rfl (nm := ⟨#[106, 97, 108, 114]⟩) rfl (n - 1) _ rfl
  intro a4 w5 b4 hF4 hp4 ht4 hx4
  clear ht3 hx3 hF3 hp3
  -- 4: beq bne blt bge bltu bgeu
  refine seg (g := 18) (p := 29) (T := TT b0 w' m nB b0 fB l aB J 10) (Jx := Jx) hF4 hp4 (by decide) (by decide) rfl rfl rfl rfl rfl rfl rfl rfl rfl rfl rfl rfl rfl hx4 (fun hb => ?_) ?_
  · have hT4 := ht4 hb
    have hF' := hF4
    refine ⟨_, .slice (some ⟨w5.heap.size, 0, none⟩) 6 6, w5.alloc (.cells (([0, 1, 4, 5, 6, 7].map (Value.int .u32)).toArray) 22), _, _, r_move hF4.s5 rfl, by go_simp, r_call4 (v1 := .nilFunc) ((put_get (by decide)).trans (put_self (by rw [hF4.size]; decide))) (put_self (by simp [Act.put, hF4.size])) enF3 rfl, ?_⟩
    exact TT.f3 hR hJ hJx hab han hT hT4 .b 99 ⟨#[98, 101, 113, 32, 98, 110, 101, 32, 98, 108, 116, 32, 98, 103, 101, 32, 98, 108, 116, 117, 32, 98, 103, 101, 117]⟩ [0, 1, 4, 5, 6, 7] (by decide) asc4 (by decide) (by decide) (by decide) (by decide) row4 (n - 1)
  intro a5 w6 b5 hF5 hp5 ht5 hx5
  clear ht4 hx4 hF4 hp4
  -- 5: lb lh lw lbu lhu
  refine seg (g := 23) (p := 34) (T := TT b0 w' m nB b0 fB l aB J 15) (Jx := Jx) hF5 hp5 (by decide) (by decide) rfl rfl rfl rfl rfl rfl rfl rfl rfl rfl rfl rfl rfl hx5 (fun hb => ?_) ?_
  · have hT5 := ht5 hb
    have hF' := hF5
    refine ⟨_, .slice (some ⟨w6.heap.size, 0, none⟩) 5 5, w6.alloc (.cells (([0, 1, 2, 4, 5].map (Value.int .u32)).toArray) 22), _, _, r_move hF5.s5 rfl, by go_simp, r_call4 (v1 := .nilFunc) ((put_get (by decide)).trans (put_self (by rw [hF5.size]; decide))) (put_self (by simp [Act.put, hF5.size])) enF3 rfl, ?_⟩
    exact TT.f3 hR hJ hJx hab han hT hT5 .load 3 ⟨#[108, 98, 32, 108, 104, 32, 108, 119, 32, 108, 98, 117, 32, 108, 104, 117]⟩ [0, 1, 2, 4, 5] (by decide) asc5 (by decide) (by decide) (by decide) (by decide) row5 (n - 1)
  intro a6 w7 b6 hF6 hp6 ht6 hx6
  clear ht5 hx5 hF5 hp5
  -- 6: sb sh sw
  refine seg (g := 28) (p := 39) (T := TT b0 w' m nB b0 fB l aB J 18) (Jx := Jx) hF6 hp6 (by decide) (by decide) rfl rfl rfl rfl rfl rfl rfl rfl rfl rfl rfl rfl rfl hx6 (fun hb => ?_) ?_
  · have hT6 := ht6 hb
    have hF' := hF6
    refine ⟨_, .slice (some ⟨w7.heap.size, 0, none⟩) 3 3, w7.alloc (.cells (([0, 1, 2].map (Value.int .u32)).toArray) 22), _, _, r_move hF6.s5 rfl, by go_simp, r_call4 (v1 := .nilFunc) ((put_get (by decide)).trans (put_self (by rw [hF6.size]; decide))) (put_self (by simp [Act.put, hF6.size])) enF3 rfl, ?_⟩
    exact TT.f3 hR hJ hJx hab han hT hT6 .s 35 ⟨#[115, 98, 32, 115, 104, 32, 115, 119]⟩ [0, 1, 2] (by decide) asc6 (by decide) (by decide) (by decide) (by decide) row6 (n - 1)
  intro a7 w8 b7 hF7 hp7 ht7 hx7
  clear ht6 hx6 hF6 hp6
  -- 7: addi slti sltiu xori ori andi
  refine seg (g := 33) (p := 44) (T := TT b0 w' m nB b0 fB l aB J 24) (Jx := Jx) hF7 hp7 (by decide) (by decide) rfl rfl rfl rfl rfl rfl rfl rfl rfl rfl rfl rfl rfl hx7 (fun hb => ?_) ?_
  · have hT7 := ht7 hb
    have hF' := hF7
    refine ⟨_, .slice (some ⟨w8.heap.size, 0, none⟩) 6 6, w8.alloc (.cells (([0, 2, 3, 4, 6, 7].map (Value.int .u32)).toArray) 22), _, _, r_move hF7.s5 rfl, by go_simp, r_call4 (v1 := .nilFunc) ((put_get (by decide)).trans (put_self (by rw [hF7.size]; decide))) (put_self (by simp [Act.put, hF7.size])) enF3 rfl, ?_⟩
    exact TT.f3 hR hJ hJx hab han hT hT7 .i 19 ⟨#[97, 100, 100, 105, 32, 115, 108, 116, 105, 32, 115, 108, 116, 105, 117, 32, 120, 111, 114, 105, 32, 111, 114, 105, 32, 97, 110, 100, 105]⟩ [0, 2, 3, 4, 6, 7] (by decide) asc7 (by decide) (by decide) (by decide) (by decide) row7 (n - 1)
  intro a8 w9 b8 hF8 hp8 ht8 hx8
  clear ht7 hx7 hF7 hp7
  -- 8: slli srli
  refine seg (g := 38) (p := 49) (T := TT b0 w' m nB b0 fB l aB J 26) (Jx := Jx) hF8 hp8 (by decide) (by decide) rfl rfl rfl rfl rfl rfl rfl rfl rfl rfl rfl rfl rfl hx8 (fun hb => ?_) ?_
  · have hT8 := ht8 hb
    have hF' := hF8
    refine ⟨_, .slice (some ⟨w9.heap.size, 0, none⟩) 2 2, w9.alloc (.cells (([1, 5].map (Value.int .u32)).toArray) 22), _, _, r_move hF8.s5 rfl, by go_simp, r_call4 (v1 := .nilFunc) ((put_get (by decide)).trans (put_self (by rw [hF8.size]; decide))) (put_self (by simp [Act.put, hF8.size])) enF3 rfl, ?_⟩
    exact TT.f3 hR hJ hJx hab han hT hT8 .shift 19 ⟨#[115, 108, 108, 105, 32, 115, 114, 108, 105]⟩ [1, 5] (by decide) asc8 (by decide) (by decide) (by decide) (by decide) row8 (n - 1)
  intro a9 w10 b9 hF9 hp9 ht9 hx9
  clear ht8 hx8 hF8 hp8
  -- 9: srai
  refine seg (g := 43) (p := 54) (T := TT b0 w' m nB b0 fB l aB J 27) (Jx := Jx) hF9 hp9 (by decide) (by decide) rfl rfl rfl rfl rfl rfl rfl rfl rfl rfl rfl rfl rfl hx9 (fun hb => ?_) ?_
  · have hT9 := ht9 hb
    have hF' := hF9
    refine ⟨_, _, _, _, _, r_load rfl hF9 hT9.a rfl, r_build1 (nm := ⟨#[115, 114, 97, 105]⟩) rfl, r_call3 (v1 := .nilFunc) ((put_get (by decide)).trans (put_self (by rw [hF9.size]; decide))) (put_self (by simp [Act.put, hF9.size])) enAdd rfl, ?_⟩
    exact TT.add hR hJ hJx hab han hT9 (by decide) (f := .shift) rfl (bb := 1073762323) rfl (nm := ⟨#[115, 114, 97, 105]⟩) rfl (n - 1) _ rfl
  intro a10 w11 b10 hF10 hp10 ht10 hx10
  clear ht9 hx9 hF9 hp9
  -- 10: add
  refine seg (g := 48) (p := 59) (T := TT b0 w' m nB b0 fB l aB J 28) (Jx := Jx) hF10 hp10 (by decide) (by decide) rfl rfl rfl rfl rfl rfl rfl rfl rfl rfl rfl rfl rfl hx10 (fun hb => ?_) ?_
  · have hT10 := ht10 hb
    have hF' := hF10
    refine ⟨_, _, _, _, _, r_load rfl hF10 hT10.a rfl, r_build1 (nm := ⟨#[97, 100, 100]⟩) rfl, r_call3 (v1 := .nilFunc) ((put_get (by decide)).trans (put_self (by rw [hF10.size]; decide))) (put_self (by simp [Act.put, hF10.size])) enAdd rfl, ?_⟩
    exact TT.add hR hJ hJx hab han hT10 (by decide) (f := .r) rfl (bb := 51) rfl (nm := ⟨#[97, 100, 100]⟩) rfl (n - 1) _ rfl
  intro a11 w12 b11 hF11 hp11 ht11 hx11
  clear ht10 hx10 hF10 hp10
  -- 11: sub
  refine seg (g := 53) (p := 64) (T := TT b0 w' m nB b0 fB l aB J 29) (Jx := Jx) hF11 hp11 (by decide) (by decide) rfl rfl rfl rfl rfl rfl rfl rfl rfl rfl rfl rfl rfl hx11 (fun hb => ?_) ?_
  · have hT11 := ht11 hb
    have hF' := hF11
    refine ⟨_, _, _, _, _, r_load rfl hF11 hT11.a rfl, r_build1 (nm := ⟨#[115, 117, 98]⟩) rfl, r_call3 (v1 := .nilFunc) ((put_get (by decide)).trans (put_self (by rw [hF11.size]; decide))) (put_self (by simp [Act.put, hF11.size])) enAdd rfl, ?_⟩
    exact TT.add hR hJ hJx hab han hT11 (by decide) (f := .r) rfl (bb := 1073741875) rfl (nm := ⟨#[115, 117, 98]⟩) rfl (n - 1) _ rfl
  intro a12 w13 b12 hF12 hp12 ht12 hx12
  clear ht11 hx11 hF11 hp11
  -- 12: sll slt sltu xor srl
  refine seg (g := 58) (p := 69) (T := TT b0 w' m nB b0 fB l aB J 34) (Jx := Jx) hF12 hp12 (by decide) (by decide) rfl rfl rfl rfl rfl rfl rfl rfl rfl rfl rfl rfl rfl hx12 (fun hb => ?_) ?_
  · have hT12 := ht12 hb
    have hF' := hF12
    refine ⟨_, .slice (some ⟨w13.heap.size, 0, none⟩) 5 5, w13.alloc (.cells (([1, 2, 3, 4, 5].map (Value.int .u32)).toArray) 22), _, _, r_move hF12.s5 rfl, by go_simp, r_call4 (v1 := .nilFunc) ((put_get (by decide)).trans (put_self (by rw [hF12.size]; decide))) (put_self (by simp [Act.put, hF12.size])) enF3 rfl, ?_⟩
    exact TT.f3 hR hJ hJx hab han hT hT12 .r 51 ⟨#[115, 108, 108, 32, 115, 108, 116, 32, 115, 108, 116, 117, 32, 120, 111, 114, 32, 115, 114, 108]⟩ [1, 2, 3, 4, 5] (by decide) asc12 (by decide) (by decide) (by decide) (by decide) row12 (n - 1)
  intro a13 w14 b13 hF13 hp13 ht13 hx13
  clear ht12 hx12 hF12 hp12
  -- 13: sra
  refine seg (g := 63) (p := 74) (T := TT b0 w' m nB b0 fB l aB J 35) (Jx := Jx) hF13 hp13 (by decide) (by decide) rfl rfl rfl rfl rfl rfl rfl rfl rfl rfl rfl rfl rfl hx13 (fun hb => ?_) ?_
  · have hT13 := ht13 hb
    have hF' := hF13
    refine ⟨_, _, _, _, _, r_load rfl hF13 hT13.a rfl, r_build1 (nm := ⟨#[115, 114, 97]⟩) rfl, r_call3 (v1 := .nilFunc) ((put_get (by decide)).trans (put_self (by rw [hF13.size]; decide))) (put_self (by simp [Act.put, hF13.size])) enAdd rfl, ?_⟩
    exact TT.add hR hJ hJx hab han hT13 (by decide) (f := .r) rfl (bb := 1073762355) rfl (nm := ⟨#[115, 114, 97]⟩) rfl (n - 1) _ rfl
  intro a14 w15 b14 hF14 hp14 ht14 hx14
  clear ht13 hx13 hF13 hp13
  -- 14: or and
  refine seg (g := 68) (p := 79) (T := TT b0 w' m nB b0 fB l aB J 37) (Jx := Jx) hF14 hp14 (by decide) (by decide) rfl rfl rfl rfl rfl rfl rfl rfl rfl rfl rfl rfl rfl hx14 (fun hb => ?_) ?_
  · have hT14 := ht14 hb
    have hF' := hF14
    refine ⟨_, .slice (some ⟨w15.heap.size, 0, none⟩) 2 2, w15.alloc (.cells (([6, 7].map (Value.int .u32)).toArray) 22), _, _, r_move hF14.s5 rfl, by go_simp, r_call4 (v1 := .nilFunc) ((put_get (by decide)).trans (put_self (by rw [hF14.size]; decide))) (put_self (by simp [Act.put, hF14.size])) enF3 rfl, ?_⟩
    exact TT.f3 hR hJ hJx hab han hT hT14 .r 51 ⟨#[111, 114, 32, 97, 110, 100]⟩ [6, 7] (by decide) asc14 (by decide) (by decide) (by decide) (by decide) row14 (n - 1)
  intro a15 w16 b15 hF15 hp15 ht15 hx15
  clear ht14 hx14 hF14 hp14
  -- 15: fence
  refine seg (g := 73) (p := 84) (T := TT b0 w' m nB b0 fB l aB J 38) (Jx := Jx) hF15 hp15 (by decide) (by decide) rfl rfl rfl rfl rfl rfl rfl rfl rfl rfl rfl rfl rfl hx15 (fun hb => ?_) ?_
  · have hT15 := ht15 hb
    have hF' := hF15
    refine ⟨_, _, _, _, _, r_load rfl hF15 hT15.a rfl, r_build1 (nm := ⟨#[102, 101, 110, 99, 101]⟩) rfl, r_call3 (v1 := .nilFunc) ((put_get (by decide)).trans (put_self (by rw [hF15.size]; decide))) (put_self (by simp [Act.put, hF15.size])) enAdd rfl, ?_⟩
    exact TT.add hR hJ hJx hab han hT15 (by decide) (f := .fence) rfl (bb := 15) rfl (nm := ⟨#[102, 101, 110, 99, 101]⟩) rfl (n - 1) _ rfl
  intro a16 w17 b16 hF16 hp16 ht16 hx16
  clear ht15 hx15 hF15 hp15
  -- 16: ecall
  refine seg (g := 78) (p := 89) (T := TT b0 w' m nB b0 fB l aB J 39) (Jx := Jx) hF16 hp16 (by decide) (by decide) rfl rfl rfl rfl rfl rfl rfl rfl rfl rfl rfl rfl rfl hx16 (fun hb => ?_) ?_
  · have hT16 := ht16 hb
    have hF' := hF16
    refine ⟨_, _, _, _, _, r_load rfl hF16 hT16.a rfl, r_build1 (nm := ⟨#[101, 99, 97, 108, 108]⟩) rfl, r_call3 (v1 := .nilFunc) ((put_get (by decide)).trans (put_self (by rw [hF16.size]; decide))) (put_self (by simp [Act.put, hF16.size])) enAdd rfl, ?_⟩
    exact TT.add hR hJ hJx hab han hT16 (by decide) (f := .all) rfl (bb := 115) rfl (nm := ⟨#[101, 99, 97, 108, 108]⟩) rfl (n - 1) _ rfl
  intro a17 w18 b17 hF17 hp17 ht17 hx17
  clear ht16 hx16 hF16 hp16
  -- 17: mul mulh mulhsu mulhu div divu rem remu
  refine seg (g := 83) (p := 94) (T := TT b0 w' m nB b0 fB l aB J 47) (Jx := Jx) hF17 hp17 (by decide) (by decide) rfl rfl rfl rfl rfl rfl rfl rfl rfl rfl rfl rfl rfl hx17 (fun hb => ?_) ?_
  · have hT17 := ht17 hb
    have hF' := hF17
    refine ⟨_, .slice (some ⟨w18.heap.size, 0, none⟩) 8 8, w18.alloc (.cells (([0, 1, 2, 3, 4, 5, 6, 7].map (Value.int .u32)).toArray) 22), _, _, r_move hF17.s5 rfl, by go_simp, r_call4 (v1 := .nilFunc) ((put_get (by decide)).trans (put_self (by rw [hF17.size]; decide))) (put_self (by simp [Act.put, hF17.size])) enF3 rfl, ?_⟩
    exact TT.f3 hR hJ hJx hab han hT hT17 .r 33554483 ⟨#[109, 117, 108, 32, 109, 117, 108, 104, 32, 109, 117, 108, 104, 115, 117, 32, 109, 117, 108, 104, 117, 32, 100, 105, 118, 32, 100, 105, 118, 117, 32, 114, 101, 109, 32, 114, 101, 109, 117]⟩ [0, 1, 2, 3, 4, 5, 6, 7] (by decide) asc17 (by decide) (by decide) (by decide) (by decide) row17 (n - 1)
  intro a18 w19 b18 hF18 hp18 ht18 hx18
  clear ht17 hx17 hF17 hp17
  -- 18: lr
  refine seg (g := 88) (p := 99) (T := TT b0 w' m nB b0 fB l aB J 48) (Jx := Jx) hF18 hp18 (by decide) (by decide) rfl rfl rfl rfl rfl rfl rfl rfl rfl rfl rfl rfl rfl hx18 (fun hb => ?_) ?_
  · have hT18 := ht18 hb
    have hF' := hF18
    refine ⟨_, .slice (some ⟨w19.heap.size, 0, none⟩) 1 1, w19.alloc (.cells (([2].map (Value.int .u32)).toArray) 22), _, _, r_move hF18.s6 rfl, by go_simp, r_call3 (v1 := .nilFunc) ((put_get (by decide)).trans (put_self (by rw [hF18.size]; decide))) (put_self (by simp [Act.put, hF18.size])) enAt rfl, ?_⟩
    exact TT.atomic hR hJ hJx hab han hT hT18 .lr ⟨#[108, 114]⟩ [2] (by decide) asc18 (by decide) (by decide) row18 (n - 1)
  intro a19 w20 b19 hF19 hp19 ht19 hx19
  clear ht18 hx18 hF18 hp18
  -- 19: sc amoswap amoadd amoxor amoand amoor amomin amomax amominu amomaxu
  refine seg (g := 93) (p := 104) (T := TT b0 w' m nB b0 fB l aB J 58) (Jx := Jx) hF19 hp19 (by decide) (by decide) rfl rfl rfl rfl rfl rfl rfl rfl rfl rfl rfl rfl rfl hx19 (fun hb => ?_) ?_
  · have hT19 := ht19 hb
    have hF' := hF19
    refine ⟨_, .slice (some ⟨w20.heap.size, 0, none⟩) 10 10, w20.alloc (.cells (([3, 1, 0, 4, 12, 8, 16, 20, 24, 28].map (Value.int .u32)).toArray) 22), _, _, r_move hF19.s6 rfl, by go_simp, r_call3 (v1 := .nilFunc) ((put_get (by decide)).trans (put_self (by rw [hF19.size]; decide))) (put_self (by simp [Act.put, hF19.size])) enAt rfl, ?_⟩
    exact TT.atomic hR hJ hJx hab han hT hT19 .a ⟨#[115, 99, 32, 97, 109, 111, 115, 119, 97, 112, 32, 97, 109, 111, 97, 100, 100, 32, 97, 109, 111, 120, 111, 114, 32, 97, 109, 111, 97, 110, 100, 32, 97, 109, 111, 111, 114, 32, 97, 109, 111, 109, 105, 110, 32, 97, 109, 111, 109, 97, 120, 32, 97, 109, 111, 109, 105, 110, 117, 32, 97, 109, 111, 109, 97, 120, 117]⟩ [3, 1, 0, 4, 12, 8, 16, 20, 24, 28] (by decide) asc19 (by decide) (by decide) row19 (n - 1)
  intro a20 w21 b20 hF20 hp20 ht20 hx20
  clear ht19 hx19 hF19 hp19
  -- 20: hartid
  refine seg_last (g := 98) (p := 109) (T := TT b0 w' m nB b0 fB l aB J 59) (Jx := Jx) hF20 hp20 (by decide) (by decide) rfl rfl rfl rfl rfl rfl rfl rfl rfl rfl hx20 (fun hb => ?_) ?_
  · have hT20 := ht20 hb
    have hF' := hF20
    refine ⟨_, _, _, _, _, r_load rfl hF20 hT20.a rfl, r_build1 (nm := ⟨#[104, 97, 114, 116, 105, 100]⟩) rfl, r_call3 (v1 := .nilFunc) ((put_get (by decide)).trans (put_self (by rw [hF20.size]; decide))) (put_self (by simp [Act.put, hF20.size])) enAdd rfl, ?_⟩
    exact TT.add hR hJ hJx hab han hT20 (by decide) (f := .csr) rfl (bb := 4047511667) rfl (nm := ⟨#[104, 97, 114, 116, 105, 100]⟩) rfl (n - 1) _ rfl
  intro a99 w99 b99 hF99 ht99 hx99
  gi_wp2
  refine bodyPost_end (results_none rfl _ _ _) hF99.defers ⟨⟨_, rfl⟩, ?_⟩
  cases b99 with
  | true => exact .inl (ht99 rfl).j
  | false => exact .inr (hx99 rfl)

/-- isa.rows hands back the iterator. -/
theorem rows_any (w : World) : Calls Tryd.prog 20 #[] w fun e w' => e = .returned (.func (.func 35) #[] #[]) ∧ w = w' := by
  have hmf : ∀ (fn : Fn) (first cap : Array Value) (w : World), (Instr.makeFunc fn first cap).run Tryd.prog w = .ok (.func fn first cap) w := fun _ _ _ _ => rfl
  go_enter Tryd.func20, Tryd.ntmps20
  go_wp2
  go_ret
  exact ⟨rfl, rfl⟩
theorem enRows1 : Enters Tryd.prog 35 := enters_of Tryd.func35 (by kernel_rfl) rfl

end Go.Proofs.YtamilahkdinjkaaDoor
