/-
  'for r := range rows() { .. }': the statement, by what holds between two rounds and where a round leaves.
-/
import Derived.Test.YtamilahkdinjkaaDoorRows1
namespace Go.Proofs.YtamilahkdinjkaaDoor
set_option linter.unusedVariables false
set_option linter.unusedSimpArgs false
open Go.RowKit Go.Shelf

/-- All is as it was but for blocks D and D + 1 (the loop's own). -/
structure Kp2 (D : Nat) (w w' : World) : Prop where
  os : w'.os = w.os
  tape : w'.tape = w.tape
  output : w'.output = w.output
  size : w.heap.size ≤ w'.heap.size
  block : ∀ r, r < w.heap.size → r ≠ D → r ≠ D + 1 → w'.heap[r]? = w.heap[r]?
theorem Kp2.below {D : Nat} {w w' : World} (h : Kp2 D w w') (hD : D ≤ w.heap.size) : Below D w w' := ⟨h.os, h.tape, h.output, h.size, fun k hk => h.block k (by omega) (by omega) (by omega)⟩
theorem Kp2.of_put {D : Nat} (w : World) (r : Nat) (o : Obj) (hr : r = D ∨ r = D + 1) : Kp2 D w (w.putObj r o) :=
  ⟨rfl, rfl, rfl, by simp, fun k _ h1 h2 => World.putObj_heap_other (by omega)⟩
theorem Kp2.of_below {D : Nat} {w w' : World} (h : Below w.heap.size w w') : Kp2 D w w' := ⟨h.os, h.tape, h.output, h.size, fun k hk _ _ => h.block k hk⟩
theorem Below.put {B : Nat} (w : World) (r : Nat) (o : Obj) (hr : B ≤ r) : Below B w (w.putObj r o) :=
  ⟨rfl, rfl, rfl, by simp, fun k hk => World.putObj_heap_other (by omega)⟩

/-- How a round's body is left. -/
def rowPost (B : Nat) (I : Nat → World → Prop) (Ix : Code → World → Prop) (k : Nat) (W : World) : Exit → Act → World → Prop
  | .normal, _, W' => KA B W W' ∧ I (k + 1) W'
  | .ret, _, W' => KA B W W' ∧ Ix .ret W'
  | .exit id, _, W' => KA B W W' ∧ Ix (.exit id) W'
  | .goto t, _, W' => KA B W W' ∧ Ix (.goto t) W'
  | .panic _, _, _ => False
  | .outgrown, _, _ => False

theorem wpIn_range_rows {g : Operand} {ps : Array Tmp} {assign body : Code} {Q : Exit → Act → World → Prop} {a : Act} {w : World} {n : Nat}
    (hg : a.eval g = .func (.func 35) #[] #[]) (hps : ps.size = 1) (I : Nat → World → Prop) (Ix : Code → World → Prop)
    (hI : ∀ k W W', I k W → Below w.heap.size W W' → I k W') (hIx : ∀ c W W', Ix c W → w.heap.size + 2 ≤ W.heap.size → Kp2 w.heap.size W W' → Ix c W') (hTab : ∀ k W, I k W → Tab W) (h0 : I 0 w)
    (hround : ∀ (l k : Nat) (v : Value) (W : World) (n' : Nat), k < 59 → I k W → RowOK (w.heap.size + 2) k v W → w.heap.size + 2 ≤ W.heap.size →
      assign.wpIn (Fence.wide.inRound l) n' Tryd.prog (Exit.then (fun a₁ w₁ => Below W.heap.size W w₁ ∧ ∀ w₂, w₂.heap.size = w₁.heap.size → (∀ r, r ≠ w.heap.size + 1 → w₂.heap[r]? = w₁.heap[r]?) → Kp2 w.heap.size w₁ w₂ →
        body.wpIn (Fence.wide.inRound l) n' Tryd.prog (rowPost w.heap.size I Ix k w₂) a₁ w₂) (fun _ _ _ => False))
        { tmps := (ps.zip #[v]).foldl (fun t (p, v) => t.setIfInBounds p v) a.tmps, defers := [] } W)
    (hdone : ∀ W, I 59 W → W.heap[w.heap.size]? = some (.deferred (some [])) → Q .normal { a with defers := { target := .collected w.heap.size, args := #[] } :: a.defers } W)
    (hstop : ∀ c W, Ix c W → W.heap[w.heap.size]? = some (.deferred (some [])) → w.heap.size + 2 ≤ W.heap.size → c.wpIn Fence.wide n Tryd.prog Q { a with defers := { target := .collected w.heap.size, args := #[] } :: a.defers } W) :
    (Code.rangeFunc g ps assign body).wpIn Fence.wide n Tryd.prog Q a w := by
  refine wpIn_rangeFunc ?_
  intro fn hfn
  obtain ⟨rec, hrec⟩ : ∃ rec : LoopState → Option Code → Loop, rec = fun st pe => { state := st, pending := pe, fn, tmps := a.tmps, params := ps, assign, body, defers := w.heap.size } := ⟨_, rfl⟩
  obtain ⟨W1, hW1⟩ : ∃ W1, (w.alloc (.deferred (some []))).alloc (.loop (rec .ready none)) = W1 := ⟨_, rfl⟩
  have hL1 : W1.heap[w.heap.size + 1]? = some (.loop (rec .ready none)) := by
    rw [← hW1]; have := World.alloc_heap_new (w.alloc (.deferred (some []))) (.loop (rec .ready none)); rwa [World.size_alloc] at this
  have hK1 : W1.heap[w.heap.size]? = some (.deferred (some [])) := by
    rw [← hW1]; exact (Below.heap_alloc _ _ _ (by simp)).trans (World.alloc_heap_new w _)
  have hsz : W1.heap.size = w.heap.size + 2 := by rw [← hW1]; simp
  have hI1 : I 0 W1 := by rw [← hW1]; exact hI _ _ _ h0 (((Below.refl _ w).alloc (Nat.le_refl _) _).alloc (by simp) _)
  refine ⟨w.heap.size + 1, [{ target := .collected w.heap.size, args := #[] }], W1, { target := .fn (.func 35) #[], args := #[.func (.yield (w.heap.size + 1)) #[] #[]] }, W1, 35,
    #[.func (.yield (w.heap.size + 1)) #[] #[]], W1, ?_, ?_, fun _ _ => trivial, ?_, (fun h => by cases h), ?_⟩
  · rw [← hW1, hrec]; exact run_enterLoop_outer _ _ _ _ _
  · simp only [resolve, hg]
    simp [go_sem]
  · simp [invoke, go_sem, enRows1 _ _]
  · have hlt : ∀ {W : World} {r : Nat} {o : Obj}, W.heap[r]? = some o → r < W.heap.size := fun h => (Array.getElem?_eq_some_iff.1 h).1
    refine (rows1_in (l := w.heap.size + 1) (W := W1)
      (J := fun k W => I k W ∧ W.heap[w.heap.size + 1]? = some (.loop (rec .ready none)) ∧ W.heap[w.heap.size]? = some (.deferred (some [])))
      (Jx := fun W => ∃ c, Ix c W ∧ W.heap[w.heap.size + 1]? = some (.loop (rec .done (some c))) ∧ W.heap[w.heap.size]? = some (.deferred (some [])))
      ?_ ?_ ?_ (fun k W h => hTab k W h.1) ⟨hI1, hL1, hK1⟩ (n - 1)).mono ?_
    · -- a round
      intro k v W hk hJ hb0 hrow n'
      obtain ⟨hi, hl, hd⟩ := hJ
      rw [hsz] at hb0 hrow
      have hy := run_yield (P := Tryd.prog) (args := #[v]) hl (by rw [hrec]; exact hps.symm)
      rw [hrec] at hy
      refine ⟨fn, _, assign, body, hy, roundIn_of_wpIn trivial (wpIn_mono (hround (w.heap.size + 1) k v W n' hk hi hrow hb0) ?_)⟩
      intro e a₁ w₁ hp
      cases e with
      | normal =>
        obtain ⟨hbw, hbody⟩ := hp
        have hl1 : w₁.heap[w.heap.size + 1]? = some (.loop (rec .ready none)) := (hbw.block _ (hlt hl)).trans hl
        have hd1 : w₁.heap[w.heap.size]? = some (.deferred (some [])) := (hbw.block _ (hlt hd)).trans hd
        refine ⟨_, run_beginRound hl1 (by rw [hrec]), ?_⟩
        have hs1 := hbw.size
        refine wpIn_mono (hbody (w₁.putObj (w.heap.size + 1) (.loop { rec .ready none with state := .busy })) World.putObj_size (fun r hr => World.putObj_heap_other hr) (Kp2.of_put _ _ _ (.inr rfl))) ?_
        have hl2 : (w₁.putObj (w.heap.size + 1) (.loop { rec .ready none with state := .busy })).heap[w.heap.size + 1]? = some (.loop { rec .ready none with state := .busy }) := World.putObj_heap_same (hlt hl1)
        have hd2 : (w₁.putObj (w.heap.size + 1) (.loop { rec .ready none with state := .busy })).heap[w.heap.size]? = some (.deferred (some [])) := (World.putObj_heap_other (by omega)).trans hd1
        have hsz2 : (w₁.putObj (w.heap.size + 1) (.loop { rec .ready none with state := .busy })).heap.size = w₁.heap.size := World.putObj_size
        have fin : ∀ (jump : Option Code) (W3 : World), KA w.heap.size (w₁.putObj (w.heap.size + 1) (.loop { rec .ready none with state := .busy })) W3 →
            (Instr.endRound (w.heap.size + 1) jump).run Tryd.prog W3 = .ok (.bool jump.isNone) (W3.putObj (w.heap.size + 1) (.loop (rec (if jump.isNone then .ready else .done) jump))) ∧
            (W3.putObj (w.heap.size + 1) (.loop (rec (if jump.isNone then .ready else .done) jump))).heap[w.heap.size + 1]? = some (.loop (rec (if jump.isNone then .ready else .done) jump)) ∧
            (W3.putObj (w.heap.size + 1) (.loop (rec (if jump.isNone then .ready else .done) jump))).heap[w.heap.size]? = some (.deferred (some [])) ∧ w.heap.size + 2 ≤ W3.heap.size := fun jump W3 hk3 => by
          have hl3 := (hk3.block (w.heap.size + 1) (by omega) (hlt hl2)).trans hl2
          have hd3 := (hk3.block w.heap.size (Nat.le_refl _) (hlt hd2)).trans hd2
          have := run_endRound (P := Tryd.prog) jump hl3
          rw [hrec] at this ⊢
          exact ⟨this, World.putObj_heap_same (hlt hl3), (World.putObj_heap_other (by omega)).trans hd3, by have := hk3.size; omega⟩
        have hx : ∀ (c : Code) (W3 : World), KA w.heap.size (w₁.putObj (w.heap.size + 1) (.loop { rec .ready none with state := .busy })) W3 → Ix c W3 → ∃ v w', (Instr.endRound (w.heap.size + 1) (some c)).run Tryd.prog W3 = .ok v w' ∧
            ((Ending.returned v = .returned (.bool true) ∧ (I (k + 1) w' ∧ w'.heap[w.heap.size + 1]? = some (.loop (rec .ready none)) ∧ w'.heap[w.heap.size]? = some (.deferred (some []))) ∧ KA W1.heap.size W w') ∨
             (Ending.returned v = .returned (.bool false) ∧ ∃ c, Ix c w' ∧ w'.heap[w.heap.size + 1]? = some (.loop (rec .done (some c))) ∧ w'.heap[w.heap.size]? = some (.deferred (some [])))) := fun c W3 hk3 hix => by
          obtain ⟨hr, hl4, hd4, hs4⟩ := fin (some c) W3 hk3
          exact ⟨_, _, hr, .inr ⟨rfl, c, hIx _ _ _ hix hs4 (Kp2.of_put _ _ _ (.inr rfl)), hl4, hd4⟩⟩
        intro e a3 W3 hp
        cases e with
        | normal =>
          obtain ⟨hk3, hi3⟩ := hp
          obtain ⟨hr, hl4, hd4, _⟩ := fin none W3 hk3
          refine ⟨_, _, hr, .inl ⟨rfl, ⟨hI _ _ _ hi3 (Below.put _ _ _ (by omega)), hl4, hd4⟩, ?_, ?_⟩⟩
          · have := hk3.size; simp only [World.putObj_size]; omega
          · intro r h1 h2
            rw [hsz] at h1
            rw [World.putObj_heap_other (by omega), hk3.block r (by omega) (by omega), World.putObj_heap_other (by omega)]
            exact hbw.block r h2
        | ret => exact hx _ W3 hp.1 hp.2
        | exit id => exact hx _ W3 hp.1 hp.2
        | goto t => exact hx _ W3 hp.1 hp.2
        | panic ch => exact hp.elim
        | outgrown => exact hp.elim
      | ret => exact hp.elim
      | exit id => exact hp.elim
      | goto t => exact hp.elim
      | panic ch => exact hp.elim
      | outgrown => exact hp.elim
    · intro k W W' ⟨h1, h2, h3⟩ hb
      rw [hsz] at hb
      exact ⟨hI _ _ _ h1 (hb.mono (by omega)), (hb.block _ (by omega)).trans h2, (hb.block _ (by omega)).trans h3⟩
    · rintro W W' ⟨c, h1, h2, h3⟩ hb
      have := hlt h2
      exact ⟨c, hIx _ _ _ h1 (by omega) (Kp2.of_below hb), (hb.block _ (hlt h2)).trans h2, (hb.block _ (hlt h3)).trans h3⟩
    · rintro e W2 ⟨⟨v, rfl⟩, (⟨hi, hl, hd⟩ | ⟨c, hi, hl, hd⟩)⟩
      · exact ⟨none, _, by have := run_endLoop (P := Tryd.prog) hl (by rw [hrec]; simp); rw [hrec] at this; exact this, hdone _ (hI _ _ _ hi (Below.put _ _ _ (by omega))) ((World.putObj_heap_other (by omega)).trans hd)⟩
      · have := hlt hl
        exact ⟨some c, _, by have := run_endLoop (P := Tryd.prog) hl (by rw [hrec]; simp); rw [hrec] at this; exact this,
          hstop c _ (hIx _ _ _ hi (by omega) (Kp2.of_put _ _ _ (.inr rfl))) ((World.putObj_heap_other (by omega)).trans hd) (by simp; omega)⟩

end Go.Proofs.YtamilahkdinjkaaDoor
