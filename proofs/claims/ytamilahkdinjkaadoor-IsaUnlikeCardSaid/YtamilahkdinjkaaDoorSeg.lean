/-
  'a && b && ..' of calls: one link of the chain, walked once for all.
-/
import Derived.Test.YtamilahkdinjkaaDoorIterF
import Derived.Test.YtamilahkdinjkaaDoorIterA
namespace Go.Proofs.YtamilahkdinjkaaDoor
set_option linter.unusedVariables false
set_option linter.unusedSimpArgs false
open Go.RowKit Go.Shelf

section
variable {n : Nat} {P : Program} {ops : Array Oper} {Q : Exit → Act → World → Prop} {rest : List Oper} {o : Oper} {a : Act} {w w' : World}
theorem stepV {v : Value} (hw : Region.wanted o (yielded ops a.tmps) = true) (hr : (execOp a.eval o).run P w = .ok (.value v) w') (h : wpListIn Fence.wide n P ops Q rest (a.put o.dst v) w') : wpListIn Fence.wide n P ops Q (o :: rest) a w := by
  simp only [wpListIn, hw, if_true, Oper.wpIn]
  refine ⟨fun _ _ => trivial, ?_⟩
  have e : o.semAt Fence.wide.round a.eval = execOp a.eval o := rfl
  rw [e, hr]
  exact h
theorem stepS (hw : Region.wanted o (yielded ops a.tmps) = false) (h : wpListIn Fence.wide n P ops Q rest (a.put o.dst undef) w) : wpListIn Fence.wide n P ops Q (o :: rest) a w := by
  simp only [wpListIn, hw, Bool.false_eq_true, if_false]
  exact ⟨fun _ _ => trivial, h⟩
theorem stepC {f : FuncId} {args : Array Value} (hw : Region.wanted o (yielded ops a.tmps) = true) (hr : (execOp a.eval o).run P w = .ok (.enter f args) w')
    (h : CallsIn Fence.wide (n - 1) P f args w' fun e w'' => ∃ v, e = .returned v ∧ wpListIn Fence.wide n P ops Q rest (a.put o.dst v) w'') : wpListIn Fence.wide n P ops Q (o :: rest) a w := by
  simp only [wpListIn, hw, if_true, Oper.wpIn]
  refine ⟨fun _ _ => trivial, ?_⟩
  have e : o.semAt Fence.wide.round a.eval = execOp a.eval o := rfl
  rw [e, hr]
  refine ⟨(fun h => by cases h), h.mono ?_⟩
  rintro e w'' ⟨v, rfl, hv⟩
  exact hv
end

/-- The frame, as far as the chain reads it. -/
structure FR (aB : Nat) (a : Act) : Prop where
  defers : a.defers = []
  size : a.tmps.size = 114
  s4 : a.tmps[4]? = some (.pointer (some ⟨aB, 0, none⟩))
  s5 : a.tmps[5]? = some (.func (.func 38) #[] #[.pointer (some ⟨aB, 0, none⟩)])
  s6 : a.tmps[6]? = some (.func (.func 40) #[] #[.pointer (some ⟨aB, 0, none⟩)])

theorem put_get {a : Act} {d k : Nat} {v : Value} (h : d ≠ k) : (a.put (some d) v).tmps[k]? = a.tmps[k]? := by
  simp [Act.put, Array.getElem?_setIfInBounds, h]
theorem put_self {a : Act} {d : Nat} {v : Value} (h : d < a.tmps.size) : (a.put (some d) v).tmps[d]? = some v := by
  simp [Act.put, h]
theorem FR.put {aB : Nat} {a : Act} (h : FR aB a) {d : Nat} (v : Value) (hd : 6 < d) : FR aB (a.put (some d) v) :=
  ⟨h.defers, by simpa [Act.put] using h.size, (put_get (by omega)).trans h.s4, (put_get (by omega)).trans h.s5, (put_get (by omega)).trans h.s6⟩

theorem yielded_of {ops : Array Oper} {g p : Nat} {b : Bool} (hg : (ops[g]?).bind (·.dst) = some p) {t : Array Value} (hp : t[p]? = some (.bool b)) : yielded ops t g = some b := by
  simp [yielded, hg, hp]

/-- A link: three operations under the guard, then the chain's value so far, moved on. -/
theorem seg {n aB : Nat} {ops : Array Oper} {Q : Exit → Act → World → Prop} {rest : List Oper} {o1 o2 o3 o4 o5 : Oper} {g p : Nat} {a : Act} {w : World} {b : Bool} {T : World → Prop} {Jx : World → Prop}
    (hF : FR aB a) (hp : a.tmps[p]? = some (.bool b)) (h6 : 6 < p) (h114 : p + 5 < 114)
    (hg : (ops[g]?).bind (·.dst) = some p) (g1 : o1.guard = some (g, true)) (g2 : o2.guard = some (g, true)) (g3 : o3.guard = some (g, true)) (g4 : o4.guard = none) (g5 : o5.guard = none)
    (d1 : o1.dst = some (p + 1)) (d2 : o2.dst = some (p + 1 + 1)) (d3 : o3.dst = some (p + 1 + 1 + 1)) (d4 : o4.dst = some (p + 1 + 1 + 1 + 1)) (d5 : o5.dst = some (p + 1 + 1 + 1 + 1 + 1))
    (q4 : o4.op = .pick (.tmp p) (.tmp (p + 1 + 1 + 1)) (.const (.bool false))) (q5 : o5.op = .move (.tmp (p + 1 + 1 + 1 + 1)))
    (hx : b = false → Jx w)
    (ht : b = true → ∃ v1 v2 w1 f args, (execOp a.eval o1).run Tryd.prog w = .ok (.value v1) w ∧ (execOp (a.put (some (p + 1)) v1).eval o2).run Tryd.prog w = .ok (.value v2) w1 ∧
      (execOp ((a.put (some (p + 1)) v1).put (some (p + 1 + 1)) v2).eval o3).run Tryd.prog w1 = .ok (.enter f args) w1 ∧
      CallsIn Fence.wide (n - 1) Tryd.prog f args w1 fun e w'' => (e = .returned (.bool true) ∧ T w'') ∨ (e = .returned (.bool false) ∧ Jx w''))
    (h : ∀ (a' : Act) (w' : World) (b' : Bool), FR aB a' → a'.tmps[p + 1 + 1 + 1 + 1 + 1]? = some (.bool b') → (b' = true → T w') → (b' = false → Jx w') → wpListIn Fence.wide n Tryd.prog ops Q rest a' w') :
    wpListIn Fence.wide n Tryd.prog ops Q (o1 :: o2 :: o3 :: o4 :: o5 :: rest) a w := by
  have wt : ∀ (o : Oper), o.guard = some (g, true) → ∀ (t : Array Value), t[p]? = some (.bool b) → Region.wanted o (yielded ops t) = b := fun o ho t hp => by
    simp only [Region.wanted, ho, yielded_of hg hp]; cases b <;> rfl
  have wn : ∀ (o : Oper), o.guard = none → ∀ (t : Array Value), Region.wanted o (yielded ops t) = true := fun o ho t => by simp [Region.wanted, ho]
  have hsz := hF.size
  cases b with
  | false =>
    refine stepS (wt _ g1 _ hp) ?_
    rw [d1]
    have hF1 := hF.put undef (d := p + 1) (by omega)
    have hp1 : (a.put (some (p + 1)) undef).tmps[p]? = some (.bool false) := (put_get (by omega)).trans hp
    refine stepS (wt _ g2 _ hp1) ?_
    rw [d2]
    have hF2 := hF1.put undef (d := p + 1 + 1) (by omega)
    have hp2 := (put_get (a := a.put (some (p + 1)) undef) (d := p + 1 + 1) (k := p) (v := undef) (by omega)).trans hp1
    refine stepS (wt _ g3 _ hp2) ?_
    rw [d3]
    have hF3 := hF2.put undef (d := p + 1 + 1 + 1) (by omega)
    have hp3 := (put_get (a := (a.put (some (p + 1)) undef).put (some (p + 1 + 1)) undef) (d := p + 1 + 1 + 1) (k := p) (v := undef) (by omega)).trans hp2
    generalize ((a.put (some (p + 1)) undef).put (some (p + 1 + 1)) undef).put (some (p + 1 + 1 + 1)) undef = a3 at *
    refine stepV (v := .bool false) (w' := w) (wn _ g4 _) ?_ ?_
    · simp [execOp, q4, Act.eval, hp3, asBool, Result.andThen]
    · rw [d4]
      have hF4 := hF3.put (.bool false) (d := p + 1 + 1 + 1 + 1) (by omega)
      have hp4 := put_self (a := a3) (d := p + 1 + 1 + 1 + 1) (v := .bool false) (by have := hF3.size; omega)
      refine stepV (v := .bool false) (w' := w) (wn _ g5 _) ?_ ?_
      · simp [execOp, q5, Act.eval, hp4]
      · rw [d5]
        exact h _ _ false (hF4.put _ (by omega)) (put_self (by have := hF4.size; omega)) (fun h => by cases h) (fun _ => hx rfl)
  | true =>
    obtain ⟨v1, v2, w1, f, args, r1, r2, r3, hc⟩ := ht rfl
    refine stepV (wt _ g1 _ hp) r1 ?_
    rw [d1]
    have hF1 := hF.put v1 (d := p + 1) (by omega)
    have hp1 : (a.put (some (p + 1)) v1).tmps[p]? = some (.bool true) := (put_get (by omega)).trans hp
    refine stepV (wt _ g2 _ hp1) r2 ?_
    rw [d2]
    have hF2 := hF1.put v2 (d := p + 1 + 1) (by omega)
    have hp2 := (put_get (a := a.put (some (p + 1)) v1) (d := p + 1 + 1) (k := p) (v := v2) (by omega)).trans hp1
    refine stepC (wt _ g3 _ hp2) r3 (hc.mono ?_)
    have fin : ∀ (b' : Bool) (w'' : World), (b' = true → T w'') → (b' = false → Jx w'') → wpListIn Fence.wide n Tryd.prog ops Q (o4 :: o5 :: rest) (((a.put (some (p + 1)) v1).put (some (p + 1 + 1)) v2).put o3.dst (.bool b')) w'' := by
      intro b' w'' ht' hx'
      rw [d3]
      have hF3 := hF2.put (.bool b') (d := p + 1 + 1 + 1) (by omega)
      have hp3 := (put_get (a := (a.put (some (p + 1)) v1).put (some (p + 1 + 1)) v2) (d := p + 1 + 1 + 1) (k := p) (v := .bool b') (by omega)).trans hp2
      have hq3 := put_self (a := (a.put (some (p + 1)) v1).put (some (p + 1 + 1)) v2) (d := p + 1 + 1 + 1) (v := .bool b') (by have := hF2.size; omega)
      generalize (((a.put (some (p + 1)) v1).put (some (p + 1 + 1)) v2).put (some (p + 1 + 1 + 1)) (.bool b')) = a3 at *
      refine stepV (v := .bool b') (w' := w'') (wn _ g4 _) ?_ ?_
      · simp [execOp, q4, Act.eval, hp3, hq3, asBool, Result.andThen]
      · rw [d4]
        have hF4 := hF3.put (.bool b') (d := p + 1 + 1 + 1 + 1) (by omega)
        have hp4 := put_self (a := a3) (d := p + 1 + 1 + 1 + 1) (v := .bool b') (by have := hF3.size; omega)
        refine stepV (v := .bool b') (w' := w'') (wn _ g5 _) ?_ ?_
        · simp [execOp, q5, Act.eval, hp4]
        · rw [d5]
          exact h _ _ b' (hF4.put _ (by omega)) (put_self (by have := hF4.size; omega)) ht' hx'
    rintro e w'' (⟨rfl, hT⟩ | ⟨rfl, hX⟩)
    · exact ⟨_, rfl, fin true w'' (fun _ => hT) (fun h => by cases h)⟩
    · exact ⟨_, rfl, fin false w'' (fun h => by cases h) (fun _ => hX)⟩

/-- The last link. -/
theorem seg_last {n aB : Nat} {ops : Array Oper} {Q : Exit → Act → World → Prop} {o1 o2 o3 o4 : Oper} {g p : Nat} {a : Act} {w : World} {b : Bool} {T : World → Prop} {Jx : World → Prop}
    (hF : FR aB a) (hp : a.tmps[p]? = some (.bool b)) (h6 : 6 < p) (h114 : p + 4 < 114)
    (hg : (ops[g]?).bind (·.dst) = some p) (g1 : o1.guard = some (g, true)) (g2 : o2.guard = some (g, true)) (g3 : o3.guard = some (g, true)) (g4 : o4.guard = none)
    (d1 : o1.dst = some (p + 1)) (d2 : o2.dst = some (p + 1 + 1)) (d3 : o3.dst = some (p + 1 + 1 + 1)) (d4 : o4.dst = some (p + 1 + 1 + 1 + 1))
    (q4 : o4.op = .pick (.tmp p) (.tmp (p + 1 + 1 + 1)) (.const (.bool false)))
    (hx : b = false → Jx w)
    (ht : b = true → ∃ v1 v2 w1 f args, (execOp a.eval o1).run Tryd.prog w = .ok (.value v1) w ∧ (execOp (a.put (some (p + 1)) v1).eval o2).run Tryd.prog w = .ok (.value v2) w1 ∧
      (execOp ((a.put (some (p + 1)) v1).put (some (p + 1 + 1)) v2).eval o3).run Tryd.prog w1 = .ok (.enter f args) w1 ∧
      CallsIn Fence.wide (n - 1) Tryd.prog f args w1 fun e w'' => (e = .returned (.bool true) ∧ T w'') ∨ (e = .returned (.bool false) ∧ Jx w''))
    (h : ∀ (a' : Act) (w' : World) (b' : Bool), FR aB a' → (b' = true → T w') → (b' = false → Jx w') → Q .normal a' w') :
    wpListIn Fence.wide n Tryd.prog ops Q [o1, o2, o3, o4] a w := by
  have wt : ∀ (o : Oper), o.guard = some (g, true) → ∀ (t : Array Value), t[p]? = some (.bool b) → Region.wanted o (yielded ops t) = b := fun o ho t hp => by
    simp only [Region.wanted, ho, yielded_of hg hp]; cases b <;> rfl
  have wn : ∀ (o : Oper), o.guard = none → ∀ (t : Array Value), Region.wanted o (yielded ops t) = true := fun o ho t => by simp [Region.wanted, ho]
  have hsz := hF.size
  cases b with
  | false =>
    refine stepS (wt _ g1 _ hp) ?_
    rw [d1]
    have hF1 := hF.put undef (d := p + 1) (by omega)
    have hp1 : (a.put (some (p + 1)) undef).tmps[p]? = some (.bool false) := (put_get (by omega)).trans hp
    refine stepS (wt _ g2 _ hp1) ?_
    rw [d2]
    have hF2 := hF1.put undef (d := p + 1 + 1) (by omega)
    have hp2 := (put_get (a := a.put (some (p + 1)) undef) (d := p + 1 + 1) (k := p) (v := undef) (by omega)).trans hp1
    refine stepS (wt _ g3 _ hp2) ?_
    rw [d3]
    have hF3 := hF2.put undef (d := p + 1 + 1 + 1) (by omega)
    have hp3 := (put_get (a := (a.put (some (p + 1)) undef).put (some (p + 1 + 1)) undef) (d := p + 1 + 1 + 1) (k := p) (v := undef) (by omega)).trans hp2
    generalize ((a.put (some (p + 1)) undef).put (some (p + 1 + 1)) undef).put (some (p + 1 + 1 + 1)) undef = a3 at *
    refine stepV (v := .bool false) (w' := w) (wn _ g4 _) ?_ ?_
    · simp [execOp, q4, Act.eval, hp3, asBool, Result.andThen]
    · rw [d4]
      have hF4 := hF3.put (.bool false) (d := p + 1 + 1 + 1 + 1) (by omega)
      exact h _ _ false hF4 (fun h => by cases h) (fun _ => hx rfl)
  | true =>
    obtain ⟨v1, v2, w1, f, args, r1, r2, r3, hc⟩ := ht rfl
    refine stepV (wt _ g1 _ hp) r1 ?_
    rw [d1]
    have hF1 := hF.put v1 (d := p + 1) (by omega)
    have hp1 : (a.put (some (p + 1)) v1).tmps[p]? = some (.bool true) := (put_get (by omega)).trans hp
    refine stepV (wt _ g2 _ hp1) r2 ?_
    rw [d2]
    have hF2 := hF1.put v2 (d := p + 1 + 1) (by omega)
    have hp2 := (put_get (a := a.put (some (p + 1)) v1) (d := p + 1 + 1) (k := p) (v := v2) (by omega)).trans hp1
    refine stepC (wt _ g3 _ hp2) r3 (hc.mono ?_)
    have fin : ∀ (b' : Bool) (w'' : World), (b' = true → T w'') → (b' = false → Jx w'') → wpListIn Fence.wide n Tryd.prog ops Q [o4] (((a.put (some (p + 1)) v1).put (some (p + 1 + 1)) v2).put o3.dst (.bool b')) w'' := by
      intro b' w'' ht' hx'
      rw [d3]
      have hF3 := hF2.put (.bool b') (d := p + 1 + 1 + 1) (by omega)
      have hp3 := (put_get (a := (a.put (some (p + 1)) v1).put (some (p + 1 + 1)) v2) (d := p + 1 + 1 + 1) (k := p) (v := .bool b') (by omega)).trans hp2
      have hq3 := put_self (a := (a.put (some (p + 1)) v1).put (some (p + 1 + 1)) v2) (d := p + 1 + 1 + 1) (v := .bool b') (by have := hF2.size; omega)
      generalize (((a.put (some (p + 1)) v1).put (some (p + 1 + 1)) v2).put (some (p + 1 + 1 + 1)) (.bool b')) = a3 at *
      refine stepV (v := .bool b') (w' := w'') (wn _ g4 _) ?_ ?_
      · simp [execOp, q4, Act.eval, hp3, hq3, asBool, Result.andThen]
      · rw [d4]
        have hF4 := hF3.put (.bool b') (d := p + 1 + 1 + 1 + 1) (by omega)
        exact h _ _ b' hF4 ht' hx'
    rintro e w'' (⟨rfl, hT⟩ | ⟨rfl, hX⟩)
    · exact ⟨_, rfl, fin true w'' (fun _ => hT) (fun h => by cases h)⟩
    · exact ⟨_, rfl, fin false w'' (fun h => by cases h) (fun _ => hX)⟩

end Go.Proofs.YtamilahkdinjkaaDoor
