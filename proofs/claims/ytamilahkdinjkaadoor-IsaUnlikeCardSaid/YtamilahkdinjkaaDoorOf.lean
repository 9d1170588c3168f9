/-
  isa.of: an Op's row.
-/
import Derived.Test.YtamilahkdinjkaaDoorRange
namespace Go.Proofs.YtamilahkdinjkaaDoor
set_option linter.unusedVariables false
set_option linter.unusedSimpArgs false
open Go.RowKit Go.Shelf
attribute [local go_sem] Oper.semAt_some

theorem Tab.below {w w' : World} (h : Tab w) (hb : Below w.heap.size w w') : Tab w' := by
  unfold Tab Lib.TabIs World.var? at *
  cases hg : Tryd.prog.globalNamed "strings.asciiSpace" with
  | none => rw [hg] at h; simp at h
  | some g =>
    rw [hg] at h
    simp only [Option.bind_some] at h ⊢
    cases hh : w.heap[g]? with
    | none => rw [hh] at h; simp at h
    | some o => rw [hb.block g (lt_of_heap hh)]; exact h

def zeroRow : Array Value := #[.int .i64 0, .string ⟨#[]⟩, .int .u32 0, .bool false, .bool false, .bool false, .bool false, .nilFunc, .nilFunc, .nilFunc, .nilFunc, .int .u32 0]

/-- A row of isa's in block B. -/
def RowAt (B k : Nat) (mv : Value) (w : World) : Prop :=
    w.cell? ⟨B, 0, none⟩ = some (.int .i64 (k + 1)) ∧ w.cell? ⟨B, 1, none⟩ = some (.string (nameK k)) ∧ w.cell? ⟨B, 2, none⟩ = some (.int .u32 (maskZ (formK k))) ∧ w.cell? ⟨B, 3, none⟩ = some (.bool (rdZ (formK k))) ∧
      w.cell? ⟨B, 4, none⟩ = some (.bool (rs1Z (formK k))) ∧ w.cell? ⟨B, 5, none⟩ = some (.bool (rs2Z (formK k))) ∧ w.cell? ⟨B, 6, none⟩ = some (.bool (aZ (formK k))) ∧ w.cell? ⟨B, 7, none⟩ = some mv ∧
      w.cell? ⟨B, 8, none⟩ = some (.func (.func (putN (formK k))) #[] #[]) ∧ w.cell? ⟨B, 9, none⟩ = some (.func (.func (takeN (formK k))) #[] #[]) ∧
      w.cell? ⟨B, 10, none⟩ = some (.func (.func (toldN (formK k))) #[] #[]) ∧ w.cell? ⟨B, 11, none⟩ = some (.int .u32 (bitsK k))
theorem cells_row {w : World} {B k : Nat} {mv : Value} {t : TypeId} (h : w.heap[B]? = some (.cells (rowC k mv) t (0, 0))) : RowAt B k mv w := by
  simp [RowAt, World.cell?, h, rowC]
theorem RowAt.keep {B k : Nat} {mv : Value} {w w' : World} (h : RowAt B k mv w) (hb : w'.heap[B]? = w.heap[B]?) : RowAt B k mv w' := by
  have hc : ∀ o, w'.cell? ⟨B, o, none⟩ = w.cell? ⟨B, o, none⟩ := fun o => World.cell?_of_block hb
  obtain ⟨h0, h1, h2, h3, h4, h5, h6, h7, h8, h9, h10, h11⟩ := h
  exact ⟨(hc _).trans h0, (hc _).trans h1, (hc _).trans h2, (hc _).trans h3, (hc _).trans h4, (hc _).trans h5, (hc _).trans h6, (hc _).trans h7, (hc _).trans h8, (hc _).trans h9, (hc _).trans h10, (hc _).trans h11⟩
theorem free_of {w : World} {B : Nat} {cs : Array Value} {t : TypeId} (h : w.heap[B]? = some (.cells cs t (0, 0))) : ∀ o, w.frozen? ⟨B, o, none⟩ = false := by
  intro o; simp [World.frozen?, h]
theorem MayOK.fn {B : Nat} {f : Fm} {v : Value} {w : World} (h : MayOK B f v w) : ∃ k cap, v = .func (.func k) #[] cap := by
  obtain ⟨k, cap, h, _⟩ := may_any h
  exact ⟨k, cap, h⟩
theorem cells_zrow {w : World} {B : Nat} {t : TypeId} (h : w.heap[B]? = some (.cells zeroRow t (0, 0))) :
    w.cell? ⟨B, 0, none⟩ = some (.int .i64 0) ∧ w.cell? ⟨B, 1, none⟩ = some (.string ⟨#[]⟩) ∧ w.cell? ⟨B, 2, none⟩ = some (.int .u32 0) ∧ w.cell? ⟨B, 3, none⟩ = some (.bool false) ∧
      w.cell? ⟨B, 4, none⟩ = some (.bool false) ∧ w.cell? ⟨B, 5, none⟩ = some (.bool false) ∧ w.cell? ⟨B, 6, none⟩ = some (.bool false) ∧ w.cell? ⟨B, 7, none⟩ = some .nilFunc ∧
      w.cell? ⟨B, 8, none⟩ = some .nilFunc ∧ w.cell? ⟨B, 9, none⟩ = some .nilFunc ∧ w.cell? ⟨B, 10, none⟩ = some .nilFunc ∧ w.cell? ⟨B, 11, none⟩ = some (.int .u32 0) := by
  simp [World.cell?, h, zeroRow]

/-- One block's cells are new, all else is as it was. -/
structure PutAt (B : Nat) (o : Obj) (w w' : World) : Prop where
  os : w'.os = w.os
  tape : w'.tape = w.tape
  output : w'.output = w.output
  size : w'.heap.size = w.heap.size
  here : w'.heap[B]? = some o
  block : ∀ r, r ≠ B → w'.heap[r]? = w.heap[r]?
theorem PutAt.set {B : Nat} {c : Array Value} {t : TypeId} {w w' : World} (h : PutAt B (.cells c t (0, 0)) w w') (i : Nat) (v : Value) :
    PutAt B (.cells (c.setIfInBounds i v) t (0, 0)) w (w'.setCell ⟨B, i, none⟩ v) := by
  refine ⟨h.os, h.tape, h.output, (by simp [h.size]), ?_, fun r hr => ?_⟩
  · have := h.here
    simp [World.setCell, Array.getElem?_modify, this]
  · simp only [World.setCell, Array.getElem?_modify]
    rw [if_neg (by omega)]
    exact h.block r hr
theorem PutAt.refl {B : Nat} {o : Obj} {w : World} (h : w.heap[B]? = some o) : PutAt B o w w := ⟨rfl, rfl, rfl, rfl, h, fun _ _ => rfl⟩
theorem PutAt.below {B D : Nat} {o : Obj} {w w' : World} (h : PutAt B o w w') (hD : D ≤ B) : Below D w w' := ⟨h.os, h.tape, h.output, Nat.le_of_eq h.size.symm, fun k hk => h.block k (by omega)⟩
theorem PutAt.ka {B D : Nat} {o : Obj} {w w' : World} (h : PutAt B o w w') (hD : B < D) : KA D w w' := ⟨Nat.le_of_eq h.size.symm, fun k hk _ => h.block k (by omega)⟩
theorem KA.trans {D : Nat} {a b c : World} (h : KA D a b) (k : KA D b c) : KA D a c := ⟨Nat.le_trans h.size k.size, fun r h1 h2 => (k.block r h1 (Nat.lt_of_lt_of_le h2 h.size)).trans (h.block r h1 h2)⟩
theorem putAt_row {w : World} {B : Nat} {t : TypeId} {c0 c1 c2 c3 c4 c5 c6 c7 c8 c9 c10 c11 : Value} (h : w.heap[B]? = some (.cells #[c0, c1, c2, c3, c4, c5, c6, c7, c8, c9, c10, c11] t (0, 0))) (v0 v1 v2 v3 v4 v5 v6 v7 v8 v9 v10 v11 : Value) :
    PutAt B (.cells #[v0, v1, v2, v3, v4, v5, v6, v7, v8, v9, v10, v11] t (0, 0)) w ((((((((((((w.setCell ⟨B, 0, none⟩ v0).setCell ⟨B, 1, none⟩ v1).setCell ⟨B, 2, none⟩ v2).setCell ⟨B, 3, none⟩ v3).setCell ⟨B, 4, none⟩ v4).setCell ⟨B, 5, none⟩ v5).setCell ⟨B, 6, none⟩ v6).setCell ⟨B, 7, none⟩ v7).setCell ⟨B, 8, none⟩ v8).setCell ⟨B, 9, none⟩ v9).setCell ⟨B, 10, none⟩ v10).setCell ⟨B, 11, none⟩ v11) := by
  have := ((((((((((((PutAt.refl h).set 0 v0).set 1 v1).set 2 v2).set 3 v3).set 4 v4).set 5 v5).set 6 v6).set 7 v7).set 8 v8).set 9 v9).set 10 v10).set 11 v11
  simpa using this
theorem putAt_one {w : World} {B : Nat} {t : TypeId} {c0 : Value} (h : w.heap[B]? = some (.cells #[c0] t (0, 0))) (v0 : Value) : PutAt B (.cells #[v0] t (0, 0)) w (w.setCell ⟨B, 0, none⟩ v0) := by
  simpa using (PutAt.refl h).set 0 v0

set_option maxRecDepth 100000 in
set_option maxHeartbeats 4000000 in
theorem of_any (op : Int) (w : World) (hT : Tab w) :
    Calls Tryd.prog 32 #[.int .i64 op] w fun e w' => (∃ (k : Nat) (v : Value), k < 59 ∧ op = k + 1 ∧ e = .returned (.tuple #[v, .bool true]) ∧ RowOK w.heap.size k v w' ∧ Below w.heap.size w w') ∨
      ((op < 1 ∨ 59 < op) ∧ e = .returned (.tuple #[.agg zeroRow, .bool false]) ∧ Below w.heap.size w w') := by
  refine (callsIn_wide (n := 10)).1 ?_
  have hfn : ∀ f : FuncId, Fence.wide.fn f = True := fun _ => rfl
  have hwd : Fence.wide.depth = none := rfl
  refine callsIn_of_wp_marks Tryd.func32 rfl trivial ?_ rfl
  simp only [Tryd.ntmps32, List.size_toArray, List.length_cons, List.length_nil, Nat.reduceAdd, Nat.reduceSub, Array.replicate_succ, Array.replicate_zero, List.push_toArray, List.append_toArray, List.nil_append, List.cons_append]
  gi_wp2_with (gi_at_call 20; refine (callsIn_wide.2 (rows_any _)).mono ?_; rintro e w' ⟨rfl, rfl⟩)
  refine wpIn_range_rows rfl rfl
    (fun k W => (∀ j : Nat, j < k → op ≠ j + 1) ∧ Below w.heap.size w W ∧ W.heap[w.heap.size]? = some (.cells #[.int .i64 op] 23 (0, 0)) ∧ W.heap[w.heap.size + 1]? = some (.cells zeroRow 51 (0, 0)) ∧ W.heap[w.heap.size + 1 + 1]? = some (.cells #[.bool false] 4 (0, 0)))
    (fun c W => c = .ret ∧ ∃ (k : Nat) (mv : Value), k < 59 ∧ op = k + 1 ∧ MayOK (w.heap.size + 5) (formK k) mv W ∧ Below w.heap.size w W ∧ RowAt (w.heap.size + 1) k mv W ∧ W.cell? ⟨w.heap.size + 1 + 1, 0, none⟩ = some (.bool true))
    ?_ ?_ ?_ ?_ ?_ ?_ ?_
  · rintro k W W' ⟨h1, h2, h3, h4, h5⟩ hb
    simp only [World.size_alloc] at hb
    exact ⟨h1, h2.trans (hb.mono (by omega)), (hb.block _ (by omega)).trans h3, (hb.block _ (by omega)).trans h4, (hb.block _ (by omega)).trans h5⟩
  · rintro c W W' ⟨rfl, k, mv, h1, h2, h3, h4, h5, h6⟩ hs hk
    simp only [World.size_alloc] at hs hk
    refine ⟨rfl, k, mv, h1, h2, h3.keep (fun p v hp hc => ?_), h4.trans ((hk.below (by omega)).mono (by omega)), h5.keep (hk.block _ (by omega) (by omega) (by omega)), (World.cell?_of_block (hk.block (w.heap.size + 1 + 1) (by omega) (by omega) (by omega))).trans h6⟩
    exact (World.cell?_of_block (hk.block p.block (cell_lt hc) (by omega) (by omega))).trans hc
  · rintro k W ⟨_, h2, _⟩
    exact hT.below h2
  · refine ⟨fun j hj => by omega, (((Below.refl _ w).alloc (Nat.le_refl _) _).alloc (by simp) _).alloc (by simp; omega) _, ?_, ?_, ?_⟩
    · exact ((Below.heap_alloc _ _ _ (by simp; omega)).trans (Below.heap_alloc _ _ _ (by simp))).trans (World.alloc_heap_new _ _)
    · refine (Below.heap_alloc _ _ _ (by simp)).trans ?_
      have := World.alloc_heap_new (w.alloc (.cells #[.int .i64 op] 23)) (.cells zeroRow 51)
      rwa [World.size_alloc] at this
    · have := World.alloc_heap_new ((w.alloc (.cells #[.int .i64 op] 23)).alloc (.cells zeroRow 51)) (.cells #[.bool false] 4)
      rwa [World.size_alloc, World.size_alloc] at this
  · intro l k v W n' hk hi hrow hsz
    obtain ⟨mv, rfl, hmv⟩ := hrow
    obtain ⟨mk, mcap, hmk⟩ := hmv.fn
    subst hmk
    unfold rowC
    obtain ⟨h1, h2, h3, h4, h5⟩ := hi
    simp only [World.size_alloc] at hmv hsz
    have hbw : Below W.heap.size W (W.alloc (.cells (rowC k (.func (.func mk) #[] mcap)) 51)) := (Below.refl _ _).alloc (Nat.le_refl _) _
    have hnew := World.alloc_heap_new W (.cells (rowC k (.func (.func mk) #[] mcap)) 51)
    gi_wp2
    refine ⟨hbw, ?_⟩
    intro w2 hs2 hsame hkp
    simp only [World.size_alloc] at hs2 hsame hkp
    have b0 : w2.heap[W.heap.size]? = some (.cells (rowC k (.func (.func mk) #[] mcap)) 51 (0, 0)) := (hsame _ (by omega)).trans hnew
    have b1 : w2.heap[w.heap.size]? = some (.cells #[.int .i64 op] 23 (0, 0)) := ((hsame _ (by omega)).trans (hbw.block _ (by omega))).trans h3
    have b2 : w2.heap[w.heap.size + 1]? = some (.cells zeroRow 51 (0, 0)) := ((hsame _ (by omega)).trans (hbw.block _ (by omega))).trans h4
    have b3 : w2.heap[w.heap.size + 1 + 1]? = some (.cells #[.bool false] 4 (0, 0)) := ((hsame _ (by omega)).trans (hbw.block _ (by omega))).trans h5
    have hbelow : Below w.heap.size w w2 := h2.trans ((hbw.mono (by omega)).trans ((hkp.below (by simp; omega)).mono (by omega)))
    have hmv2 : MayOK (w.heap.size + 5) (formK k) (.func (.func mk) #[] mcap) w2 := (hmv.mono (by omega)).keep (fun p v hp hc => (World.cell?_of_block ((hsame p.block (by omega)).trans (hbw.block _ (cell_lt hc)))).trans hc)
    have c0 := cells_row b0
    have hsz2 : W.heap.size < w2.heap.size := by omega
    clear hnew hsame hkp hmv hbw h2 h3 h4 h5 hs2
    obtain ⟨d0, d1, d2, d3, d4, d5, d6, d7, d8, d9, d10, d11⟩ := c0
    have e1 := (cells_one b1).1
    have z := cells_zrow b2
    obtain ⟨z0, z1, z2, z3, z4, z5, z6, z7, z8, z9, z10, z11⟩ := z
    have f2 := free_of b2
    have e3 := (cells_one b3).1
    have f3 := free_of b3
    by_cases hop : op = (k : Int) + 1
    · subst hop
      gi_wp2
      have p1 := putAt_row b2 (.int .i64 (k + 1)) (.string (nameK k)) (.int .u32 (maskZ (formK k))) (.bool (rdZ (formK k))) (.bool (rs1Z (formK k))) (.bool (rs2Z (formK k))) (.bool (aZ (formK k))) (.func (.func mk) #[] mcap)
        (.func (.func (putN (formK k))) #[] #[]) (.func (.func (takeN (formK k))) #[] #[]) (.func (.func (toldN (formK k))) #[] #[]) (.int .u32 (bitsK k))
      have p2 := putAt_one ((p1.block (w.heap.size + 1 + 1) (by omega)).trans b3) (.bool true)
      have hka := (p1.ka (D := w.heap.size + 1 + 1 + 1) (by omega)).trans (p2.ka (D := w.heap.size + 1 + 1 + 1) (by omega))
      refine ⟨(by simpa using hka), rfl, k, .func (.func mk) #[] mcap, hk, rfl, hmv2.keep (fun p v hp hc => ?_), hbelow.trans ((p1.below (by omega)).trans (p2.below (by omega))), ?_, ?_⟩
      · exact (World.cell?_of_block ((p2.block _ (by omega)).trans (p1.block _ (by omega)))).trans hc
      · exact (cells_row p1.here).keep (p2.block _ (by omega))
      · exact (cells_one p2.here).1
    · have hbeq : ((k : Int) + 1 == op) = false := by simpa using fun h => hop h.symm
      gi_wp2
      refine ⟨⟨Nat.le_refl _, fun _ _ _ => rfl⟩, fun j hj => ?_, hbelow, b1, b2, b3⟩
      rcases Nat.lt_succ_iff_lt_or_eq.1 hj with h | rfl
      · exact h1 j h
      · exact hop
  · rintro W ⟨h1, h2, h3, h4, h5⟩ hd
    have c2 := cells_zrow h4
    obtain ⟨d0, d1, d2, d3, d4, d5, d6, d7, d8, d9, d10, d11⟩ := c2
    have f2 := free_of h4
    have c3 := (cells_one h5).1
    have f3 := free_of h5
    have hd' : W.heap[w.heap.size + 1 + 1 + 1]? = some (.deferred (some [])) := by simpa using hd
    gi_wp2
    have p1 := putAt_row h4 (.int .i64 0) (.string ⟨#[]⟩) (.int .u32 0) (.bool false) (.bool false) (.bool false) (.bool false) .nilFunc .nilFunc .nilFunc .nilFunc (.int .u32 0)
    have p2 := putAt_one ((p1.block (w.heap.size + 1 + 1) (by omega)).trans h5) (.bool false)
    have hd2 := ((p2.block (w.heap.size + 1 + 1 + 1) (by omega)).trans (p1.block _ (by omega))).trans hd'
    have hb2 : Below w.heap.size w _ := h2.trans ((p1.below (by omega)).trans (p2.below (by omega)))
    have hq2 := (p2.block (w.heap.size + 1) (by omega)).trans p1.here
    have hq3 := p2.here
    generalize World.setCell _ ⟨w.heap.size + 1 + 1, 0, none⟩ _ = W9 at *
    refine ⟨by simp, .inl ⟨_, _, rfl, run_takeDeferred (by simpa using hd2), ?_⟩⟩
    simp only [World.size_alloc]
    obtain ⟨W10, hW10⟩ : ∃ W10, W9.putObj (w.heap.size + 1 + 1 + 1) (.deferred none) = W10 := ⟨_, rfl⟩
    rw [hW10]
    have hq2' := (World.putObj_heap_other (w := W9) (o := .deferred none) (show w.heap.size + 1 ≠ w.heap.size + 1 + 1 + 1 by omega)).trans hq2
    have hq3' := (World.putObj_heap_other (w := W9) (o := .deferred none) (show w.heap.size + 1 + 1 ≠ w.heap.size + 1 + 1 + 1 by omega)).trans hq3
    have hb10 := hb2.trans (Below.put W9 (w.heap.size + 1 + 1 + 1) (.deferred none) (by omega : w.heap.size ≤ w.heap.size + 1 + 1 + 1))
    rw [hW10] at hq2' hq3' hb10
    obtain ⟨z0, z1, z2, z3, z4, z5, z6, z7, z8, z9, z10, z11⟩ := cells_zrow hq2'
    have z := (cells_one hq3').1
    refine ⟨.tuple #[.agg zeroRow, .bool false], ?_, .inr ⟨?_, rfl, hb10⟩⟩
    · simp [results, Tryd.f32, go_sem, z, z0, z1, z2, z3, z4, z5, z6, z7, z8, z9, z10, z11, zeroRow]
    · rcases Int.lt_or_le op 1 with h | h
      · exact .inl h
      · right
        have := h1 (op - 1).toNat
        omega
  · rintro c W ⟨rfl, k, mv, h1, h2, h3, h4, h5, h6⟩ hd hs
    gi_wp2
    have hd' : W.heap[w.heap.size + 1 + 1 + 1]? = some (.deferred (some [])) := by simpa using hd
    refine ⟨by simp, .inl ⟨_, _, rfl, run_takeDeferred hd, ?_⟩⟩
    simp only [World.size_alloc]
    obtain ⟨W10, hW10⟩ : ∃ W10, W.putObj (w.heap.size + 1 + 1 + 1) (.deferred none) = W10 := ⟨_, rfl⟩
    rw [hW10]
    have hq : ∀ r, r ≠ w.heap.size + 1 + 1 + 1 → W10.heap[r]? = W.heap[r]? := fun r hr => hW10 ▸ World.putObj_heap_other (w := W) (o := .deferred none) hr
    have hb10 := h4.trans (Below.put W (w.heap.size + 1 + 1 + 1) (.deferred none) (by omega : w.heap.size ≤ w.heap.size + 1 + 1 + 1))
    rw [hW10] at hb10
    obtain ⟨z0, z1, z2, z3, z4, z5, z6, z7, z8, z9, z10, z11⟩ := h5.keep (hq (w.heap.size + 1) (by omega))
    have z := (World.cell?_of_block (a := ⟨w.heap.size + 1 + 1, 0, none⟩) (hq (w.heap.size + 1 + 1) (by omega))).trans h6
    refine ⟨.tuple #[.agg (rowC k mv), .bool true], ?_, .inl ⟨k, _, h1, h2, rfl, ⟨mv, rfl, (h3.keep (fun p v hp hc => ?_)).mono (by omega)⟩, hb10⟩⟩
    · simp [results, Tryd.f32, go_sem, z, z0, z1, z2, z3, z4, z5, z6, z7, z8, z9, z10, z11, rowC]
    · exact (World.cell?_of_block (hq _ (by omega))).trans hc
end Go.Proofs.YtamilahkdinjkaaDoor
