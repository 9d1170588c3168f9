/-
  A REGION THAT DRAWS ITS ORDER, WALKED ONCE IN THE TEXT's ORDER: loads under a condition S on the world; calls and stores where nothing else may come up; guards that are decided.
-/
import Derived.OrdersHeld
import Derived.Deep.Draws
namespace Go.Proofs.YtamilahkdinjkaaDoor
set_option linter.unusedVariables false
set_option linter.unusedSimpArgs false
open Go

section
variable {P : Program} {ops : Array Oper} {Q : Exit → Act → World → Prop} {md : Region.Mode} {S : World → Prop} {solo : Nat → Bool} {R : Act → World → Prop}

/-- One operation: alone, it may do what it likes, as long as S holds behind it; else it yields one value in every world that meets S. -/
def lexAt (P : Program) (S : World → Prop) (Q : Exit → Act → World → Prop) (o : Oper) (alone : Bool) (a : Act) (w : World) (K : Act → World → Prop) : Prop :=
  if alone then o.wp P a w (fun a' w' => S w' ∧ K a' w') Q else ∃ v, (∀ x, S x → (execOp a.eval o).run P x = .ok (.value v) x) ∧ K (a.put o.dst v) w

def wpLexH (P : Program) (ops : Array Oper) (S : World → Prop) (Q : Exit → Act → World → Prop) (solo : Nat → Bool) (R : Act → World → Prop) : Nat → List Oper → Act → World → Prop
  | _, [], a, w => R a w
  | k, o :: rest, a, w => if Region.wanted o (yielded ops a.tmps) = true then lexAt P S Q o (solo k) a w (wpLexH P ops S Q solo R (k + 1) rest) else wpLexH P ops S Q solo R (k + 1) rest (a.put o.dst undef) w

theorem wpLexH_step {k : Nat} {o : Oper} {rest : List Oper} {a : Act} {w : World}
    (h : ∀ K : Act → World → Prop, (∀ a w, wpLexH P ops S Q solo R (k + 1) rest a w → K a w) → if Region.wanted o (yielded ops a.tmps) = true then lexAt P S Q o (solo k) a w K else K (a.put o.dst undef) w) :
    wpLexH P ops S Q solo R k (o :: rest) a w := h _ fun _ _ h => h
theorem lex_skip {o : Oper} {b : Bool} {a : Act} {w : World} {K : Act → World → Prop} (hw : Region.wanted o (yielded ops a.tmps) = false) (h : K (a.put o.dst undef) w) :
    if Region.wanted o (yielded ops a.tmps) = true then lexAt P S Q o b a w K else K (a.put o.dst undef) w := by
  rw [if_neg (by rw [hw]; exact Bool.false_ne_true)]; exact h
theorem lex_val {o : Oper} {b : Bool} {a : Act} {w : World} {K : Act → World → Prop} {v : Value} (hw : Region.wanted o (yielded ops a.tmps) = true) (hb : b = false)
    (hv : ∀ x, S x → (execOp a.eval o).run P x = .ok (.value v) x) (h : K (a.put o.dst v) w) :
    if Region.wanted o (yielded ops a.tmps) = true then lexAt P S Q o b a w K else K (a.put o.dst undef) w := by
  rw [if_pos hw, hb]; exact ⟨v, hv, h⟩
theorem lex_solo {o : Oper} {b : Bool} {a : Act} {w : World} {K : Act → World → Prop} (hw : Region.wanted o (yielded ops a.tmps) = true) (hb : b = true)
    (h : ∀ K' : Act → World → Prop, (∀ a' w', S w' → K a' w' → K' a' w') → o.wp P a w K' Q) :
    if Region.wanted o (yielded ops a.tmps) = true then lexAt P S Q o b a w K else K (a.put o.dst undef) w := by
  rw [if_pos hw, hb]; exact h (fun a' w' => S w' ∧ K a' w') fun _ _ h1 h2 => ⟨h1, h2⟩

theorem wpLexH_skip {k : Nat} {o : Oper} {rest : List Oper} {a : Act} {w : World} (hw : Region.wanted o (yielded ops a.tmps) = false) (h : wpLexH P ops S Q solo R (k + 1) rest (a.put o.dst undef) w) :
    wpLexH P ops S Q solo R k (o :: rest) a w := wpLexH_step fun _ hK => lex_skip hw (hK _ _ h)
theorem wpLexH_val {k : Nat} {o : Oper} {rest : List Oper} {a : Act} {w : World} {v : Value} (hw : Region.wanted o (yielded ops a.tmps) = true) (hb : solo k = false)
    (hv : ∀ x, S x → (execOp a.eval o).run P x = .ok (.value v) x) (h : ∀ K : Act → World → Prop, (∀ a w, wpLexH P ops S Q solo R (k + 1) rest a w → K a w) → K (a.put o.dst v) w) :
    wpLexH P ops S Q solo R k (o :: rest) a w := wpLexH_step fun K hK => lex_val hw hb hv (h K hK)
theorem wpLexH_solo {k : Nat} {o : Oper} {rest : List Oper} {a : Act} {w : World} (hw : Region.wanted o (yielded ops a.tmps) = true) (hb : solo k = true)
    (h : ∀ K : Act → World → Prop, (∀ a' w', S w' → wpLexH P ops S Q solo R (k + 1) rest a' w' → K a' w') → o.wp P a w K Q) :
    wpLexH P ops S Q solo R k (o :: rest) a w := wpLexH_step fun K hK => lex_solo hw hb fun K' hK' => h K' fun a' w' h1 h2 => hK' a' w' h1 (hK a' w' h2)
theorem wpLexH_nil {k : Nat} {a : Act} {w : World} (h : R a w) : wpLexH P ops S Q solo R k [] a w := h

/-- One operation is passed over, and its slot holds nothing already. -/
def skipB (ops : Array Oper) (tmps : Array Value) (o : Oper) : Bool :=
  !Region.wanted o (yielded ops tmps) && (match o.dst with
    | some d => (match tmps[d]? with | some (.tuple a) => a.isEmpty | _ => false)
    | none => true)
theorem skipB_spec {a : Act} {o : Oper} (h : skipB ops a.tmps o = true) : Region.wanted o (yielded ops a.tmps) = false ∧ a.put o.dst undef = a := by
  unfold skipB at h
  simp only [Bool.and_eq_true, Bool.not_eq_true'] at h
  refine ⟨h.1, ?_⟩
  cases hd : o.dst with
  | none => rfl
  | some d =>
    have h2 := h.2
    rw [hd] at h2
    simp only at h2
    have hu : a.tmps[d]? = some undef := by
      cases ht : a.tmps[d]? with
      | none => rw [ht] at h2; simp at h2
      | some v =>
        rw [ht] at h2
        cases v with
        | tuple b => simp at h2; rw [h2]; rfl
        | _ => simp at h2
    obtain ⟨hlt, hv⟩ := Array.getElem?_eq_some_iff.1 hu
    obtain ⟨tmps, defers⟩ := a
    simp only [Act.put]
    congr 1
    apply Array.ext_getElem?
    intro i
    rw [Array.getElem?_setIfInBounds]
    by_cases hi : d = i
    · subst hi
      simp only [if_true]
      rw [if_pos hlt]
      exact hu.symm
    · rw [if_neg hi]
theorem wpLexH_skip1 {k : Nat} {o : Oper} {rest : List Oper} {a : Act} {w : World} (hb : skipB ops a.tmps o = true) (h : wpLexH P ops S Q solo R (k + 1) rest a w) : wpLexH P ops S Q solo R k (o :: rest) a w := by
  obtain ⟨h1, h2⟩ := skipB_spec hb
  exact wpLexH_skip h1 (h2.symm ▸ h)

theorem wpLexH_skip3 {k : Nat} {o0 o1 o2 : Oper} {rest : List Oper} {a : Act} {w : World} (hb : (skipB ops a.tmps o0 && skipB ops a.tmps o1 && skipB ops a.tmps o2) = true) (h : wpLexH P ops S Q solo R (k + 3) rest a w) : wpLexH P ops S Q solo R k (o0 :: o1 :: o2 :: rest) a w := by
  simp only [Bool.and_eq_true] at hb
  refine wpLexH_skip1 hb.1.1 ?_
  refine wpLexH_skip1 hb.1.2 ?_
  refine wpLexH_skip1 hb.2 ?_
  exact h
theorem wpLexH_skip4 {k : Nat} {o0 o1 o2 o3 : Oper} {rest : List Oper} {a : Act} {w : World} (hb : (skipB ops a.tmps o0 && skipB ops a.tmps o1 && skipB ops a.tmps o2 && skipB ops a.tmps o3) = true) (h : wpLexH P ops S Q solo R (k + 4) rest a w) : wpLexH P ops S Q solo R k (o0 :: o1 :: o2 :: o3 :: rest) a w := by
  simp only [Bool.and_eq_true] at hb
  refine wpLexH_skip1 hb.1.1.1 ?_
  refine wpLexH_skip1 hb.1.1.2 ?_
  refine wpLexH_skip1 hb.1.2 ?_
  refine wpLexH_skip1 hb.2 ?_
  exact h
theorem wpLexH_skip6 {k : Nat} {o0 o1 o2 o3 o4 o5 : Oper} {rest : List Oper} {a : Act} {w : World} (hb : (skipB ops a.tmps o0 && skipB ops a.tmps o1 && skipB ops a.tmps o2 && skipB ops a.tmps o3 && skipB ops a.tmps o4 && skipB ops a.tmps o5) = true) (h : wpLexH P ops S Q solo R (k + 6) rest a w) : wpLexH P ops S Q solo R k (o0 :: o1 :: o2 :: o3 :: o4 :: o5 :: rest) a w := by
  simp only [Bool.and_eq_true] at hb
  refine wpLexH_skip1 hb.1.1.1.1.1 ?_
  refine wpLexH_skip1 hb.1.1.1.1.2 ?_
  refine wpLexH_skip1 hb.1.1.1.2 ?_
  refine wpLexH_skip1 hb.1.1.2 ?_
  refine wpLexH_skip1 hb.1.2 ?_
  refine wpLexH_skip1 hb.2 ?_
  exact h
theorem wpLexH_skip8 {k : Nat} {o0 o1 o2 o3 o4 o5 o6 o7 : Oper} {rest : List Oper} {a : Act} {w : World} (hb : (skipB ops a.tmps o0 && skipB ops a.tmps o1 && skipB ops a.tmps o2 && skipB ops a.tmps o3 && skipB ops a.tmps o4 && skipB ops a.tmps o5 && skipB ops a.tmps o6 && skipB ops a.tmps o7) = true) (h : wpLexH P ops S Q solo R (k + 8) rest a w) : wpLexH P ops S Q solo R k (o0 :: o1 :: o2 :: o3 :: o4 :: o5 :: o6 :: o7 :: rest) a w := by
  simp only [Bool.and_eq_true] at hb
  refine wpLexH_skip1 hb.1.1.1.1.1.1.1 ?_
  refine wpLexH_skip1 hb.1.1.1.1.1.1.2 ?_
  refine wpLexH_skip1 hb.1.1.1.1.1.2 ?_
  refine wpLexH_skip1 hb.1.1.1.1.2 ?_
  refine wpLexH_skip1 hb.1.1.1.2 ?_
  refine wpLexH_skip1 hb.1.1.2 ?_
  refine wpLexH_skip1 hb.1.2 ?_
  refine wpLexH_skip1 hb.2 ?_
  exact h
theorem wpLexH_skip13 {k : Nat} {o0 o1 o2 o3 o4 o5 o6 o7 o8 o9 o10 o11 o12 : Oper} {rest : List Oper} {a : Act} {w : World} (hb : (skipB ops a.tmps o0 && skipB ops a.tmps o1 && skipB ops a.tmps o2 && skipB ops a.tmps o3 && skipB ops a.tmps o4 && skipB ops a.tmps o5 && skipB ops a.tmps o6 && skipB ops a.tmps o7 && skipB ops a.tmps o8 && skipB ops a.tmps o9 && skipB ops a.tmps o10 && skipB ops a.tmps o11 && skipB ops a.tmps o12) = true) (h : wpLexH P ops S Q solo R (k + 13) rest a w) : wpLexH P ops S Q solo R k (o0 :: o1 :: o2 :: o3 :: o4 :: o5 :: o6 :: o7 :: o8 :: o9 :: o10 :: o11 :: o12 :: rest) a w := by
  simp only [Bool.and_eq_true] at hb
  refine wpLexH_skip1 hb.1.1.1.1.1.1.1.1.1.1.1.1 ?_
  refine wpLexH_skip1 hb.1.1.1.1.1.1.1.1.1.1.1.2 ?_
  refine wpLexH_skip1 hb.1.1.1.1.1.1.1.1.1.1.2 ?_
  refine wpLexH_skip1 hb.1.1.1.1.1.1.1.1.1.2 ?_
  refine wpLexH_skip1 hb.1.1.1.1.1.1.1.1.2 ?_
  refine wpLexH_skip1 hb.1.1.1.1.1.1.1.2 ?_
  refine wpLexH_skip1 hb.1.1.1.1.1.1.2 ?_
  refine wpLexH_skip1 hb.1.1.1.1.1.2 ?_
  refine wpLexH_skip1 hb.1.1.1.1.2 ?_
  refine wpLexH_skip1 hb.1.1.1.2 ?_
  refine wpLexH_skip1 hb.1.1.2 ?_
  refine wpLexH_skip1 hb.1.2 ?_
  refine wpLexH_skip1 hb.2 ?_
  exact h

/-! ### The check: in the text's order each operation may come up, and is free, or stands alone -/
def freeL (ops : Array Oper) (k : Nat) (ok : Oper) : List Oper → Bool
  | [] => true
  | oj :: l => (oj.after.toList.any (fun e => Region.binds .any e && Nat.beq e.on k) || ok.apart ops oj) && freeL ops k ok l
def soloL (k : Nat) : List Oper → Bool
  | [] => true
  | oj :: l => oj.after.toList.any (fun e => Region.binds .any e && Nat.ble k e.on) && soloL k l
def lexL (ops : Array Oper) (solo : Nat → Bool) : Nat → List Oper → Bool
  | _, [] => true
  | k, o :: l => o.after.toList.all (fun e => !Region.binds .any e || Nat.blt e.on k) && (if solo k then soloL k l else freeL ops k o l) && lexL ops solo (k + 1) l

theorem freeL_spec {ops : Array Oper} {k : Nat} {ok : Oper} : ∀ {l : List Oper}, freeL ops k ok l = true → ∀ (i : Nat) (oj : Oper), l[i]? = some oj → (∀ e ∈ oj.after, Region.binds .any e = true → e.on ≠ k) → ok.apart ops oj = true
  | [], _, i, oj, h, _ => by simp at h
  | x :: l, hf, 0, oj, h, hn => by
    simp only [freeL, Bool.and_eq_true, Bool.or_eq_true] at hf
    simp at h; subst h
    rcases hf.1 with h1 | h1
    · obtain ⟨e, he, h2⟩ := List.any_eq_true.1 h1
      simp only [Bool.and_eq_true] at h2
      exact absurd (Nat.eq_of_beq_eq_true h2.2) (hn e (by simpa using he) h2.1)
    · exact h1
  | x :: l, hf, i + 1, oj, h, hn => by
    simp only [freeL, Bool.and_eq_true] at hf
    exact freeL_spec hf.2 i oj (by simpa using h) hn
theorem soloL_spec {k : Nat} : ∀ {l : List Oper}, soloL k l = true → ∀ (i : Nat) (oj : Oper), l[i]? = some oj → ∃ e ∈ oj.after, Region.binds .any e = true ∧ k ≤ e.on
  | [], _, i, oj, h => by simp at h
  | x :: l, hf, 0, oj, h => by
    simp only [soloL, Bool.and_eq_true] at hf
    simp at h; subst h
    obtain ⟨e, he, h2⟩ := List.any_eq_true.1 hf.1
    simp only [Bool.and_eq_true] at h2
    exact ⟨e, by simpa using he, h2.1, Nat.le_of_ble_eq_true h2.2⟩
  | x :: l, hf, i + 1, oj, h => by
    simp only [soloL, Bool.and_eq_true] at hf
    exact soloL_spec hf.2 i oj (by simpa using h)

/-- The first k have come up. -/
def FirstK (ops : Array Oper) (k : Nat) (listed : Array Bool) : Prop := listed.size = ops.size ∧ ∀ j, listed[j]? = if j < ops.size then some (decide (j < k)) else none
theorem FirstK.next {k : Nat} {listed : Array Bool} (h : FirstK ops k listed) (_hk : k < ops.size) : FirstK ops (k + 1) (listed.setIfInBounds k true) := by
  refine ⟨by simpa using h.1, fun j => ?_⟩
  rw [Array.getElem?_setIfInBounds]
  by_cases hj : k = j
  · subst hj
    simp [h.1, _hk]
  · rw [if_neg hj, h.2 j]
    by_cases h1 : j < ops.size
    · simp only [h1, if_true, Option.some.injEq, decide_eq_decide]; omega
    · simp [h1]

theorem lexH_any (hs : Region.noSelect ops = true) (hQ : ∀ c a d v w, Q (.panic c) (Act.put a d v) w → Q (.panic c) a w) : ∀ (l : List Oper) (k : Nat) (listed : Array Bool) (a : Act) (w : World), (∀ j, l[j]? = ops[k + j]?) → FirstK ops k listed → k ≤ ops.size →
    lexL ops solo k l = true → S w → wpLexH P ops S Q solo (fun a w => Q .normal a w) k l a w → wpAnyH P .any ops Q S l.length listed a w
  | [], k, listed, _, _, hl, hF, hle, _, _, h => by
    refine ⟨?_, h⟩
    rw [List.eq_nil_iff_forall_not_mem]
    intro i hi
    obtain ⟨h0, o, ho, _⟩ := mem_ready.1 hi
    have h1 : i < ops.size := (Array.getElem?_eq_some_iff.1 ho).1
    have h2 : ops.size ≤ k := by
      have := hl 0
      simp only [List.getElem?_nil, Nat.add_zero] at this
      rcases Nat.lt_or_ge k ops.size with h3 | h3
      · rw [Array.getElem?_eq_getElem h3] at this; cases this
      · exact h3
    have h3 := hF.2 i
    rw [if_pos h1, decide_eq_true (by omega : i < k)] at h3
    simp [Array.getD_eq_getD_getElem?, h3] at h0
  | o :: l, k, listed, a, w, hl, hF, hle, hB, hS, h => by
    have h0 : ops[k]? = some o := by simpa using (hl 0).symm
    have hk : k < ops.size := (Array.getElem?_eq_some_iff.1 h0).1
    have hl' : ∀ j, l[j]? = ops[k + 1 + j]? := fun j => by have := hl (j + 1); simpa [Nat.add_assoc, Nat.add_comm 1 j] using this
    simp only [lexL, Bool.and_eq_true] at hB
    obtain ⟨⟨hA, hB0⟩, hB1⟩ := hB
    have ih := lexH_any hs hQ l (k + 1) (listed.setIfInBounds k true)
    have hF' := hF.next hk
    have hafter : ∀ e ∈ o.after, Region.binds .any e = true → listed.getD e.on false = true := fun e he hb => by
      have h1 := List.all_eq_true.1 hA e (by simpa using he)
      simp only [hb, Bool.not_true, Bool.false_or] at h1
      have h2 : e.on < k := by simpa [Nat.blt_eq] using h1
      have h3 := hF.2 e.on
      rw [if_pos (by omega), decide_eq_true h2] at h3
      simp [Array.getD_eq_getD_getElem?, h3]
    have hun : listed.getD k true = false := by
      have h3 := hF.2 k
      rw [if_pos hk, decide_eq_false (by omega)] at h3
      simp [Array.getD_eq_getD_getElem?, h3]
    have hready : k ∈ Region.ready .any ops listed := mem_ready.2 ⟨hun, o, h0, hafter⟩
    have hlater : ∀ j oj, ops[j]? = some oj → j ≠ k → listed.getD j true = false → k < j ∧ l[j - (k + 1)]? = some oj := fun j oj hj hne hu => by
      have h1 : j < ops.size := (Array.getElem?_eq_some_iff.1 hj).1
      have h3 := hF.2 j
      rw [if_pos h1] at h3
      simp only [Array.getD_eq_getD_getElem?, h3, Option.getD_some, decide_eq_false_iff_not] at hu
      have h4 : k < j := by omega
      refine ⟨h4, ?_⟩
      rw [hl', show k + 1 + (j - (k + 1)) = j from by omega]; exact hj
    unfold wpLexH at h
    by_cases hsk : solo k = true
    · rw [if_pos hsk] at hB0
      have honly : ∀ i ∈ Region.ready .any ops listed, i = k := fun i hi => by
        by_cases hik : i = k
        · exact hik
        · exfalso
          obtain ⟨h1, oi, hoi, hall⟩ := mem_ready.1 hi
          obtain ⟨hlt, hli⟩ := hlater i oi hoi hik h1
          obtain ⟨e, he, hb, hke⟩ := soloL_spec hB0 _ _ hli
          have h5 := hall e he hb
          have h3 := hF.2 e.on
          by_cases h6 : e.on < ops.size
          · rw [if_pos h6, decide_eq_false (by omega)] at h3
            simp [Array.getD_eq_getD_getElem?, h3] at h5
          · rw [if_neg h6] at h3
            simp [Array.getD_eq_getD_getElem?, h3] at h5
      refine ⟨fun h1 => (by rw [h1] at hready; cases hready), ?_⟩
      intro i hi
      obtain rfl : i = k := honly i hi
      unfold wpOp
      simp only [h0]
      by_cases hw : Region.wanted o (yielded ops a.tmps) = true
      · rw [if_pos hw] at h ⊢
        have h1 : o.wp P a w (fun a' w' => S w' ∧ wpLexH P ops S Q solo (fun a w => Q .normal a w) (i + 1) l a' w') Q := by simpa [lexAt, hsk] using h
        exact .inl (Oper.wp_mono (fun a' w' h' => ⟨h'.1, ih a' w' hl' hF' hk hB1 h'.1 h'.2⟩) h1)
      · rw [if_neg hw] at h ⊢
        exact ⟨hS, ih _ _ hl' hF' hk hB1 hS h⟩
    · rw [if_neg hsk] at hB0
      have hfree : ∀ j oj, ops[j]? = some oj → j ≠ k → listed.getD j true = false → (∀ e ∈ oj.after, Region.binds .any e = true → e.on ≠ k) → o.apart ops oj = true := fun j oj hj hne hu hno =>
        freeL_spec hB0 _ _ (hlater j oj hj hne hu).2 hno
      have hsf : solo k = false := by simpa using hsk
      by_cases hw : Region.wanted o (yielded ops a.tmps) = true
      · rw [if_pos hw] at h
        obtain ⟨v, hv, hn⟩ : ∃ v, (∀ x, S x → (execOp a.eval o).run P x = .ok (.value v) x) ∧ wpLexH P ops S Q solo (fun a w => Q .normal a w) (k + 1) l (a.put o.dst v) w := by simpa [lexAt, hsf] using h
        exact wpAnyH_first h0 (Region.noSelect_spec hs) (fun c a w => hQ c a _ _ w) _ _ _ _ hfree hready (.inl ⟨hw, hv⟩) hS (ih _ _ hl' hF' hk hB1 hS hn)
      · rw [if_neg hw] at h
        exact wpAnyH_first (v := undef) h0 (Region.noSelect_spec hs) (fun c a w => hQ c a _ _ w) _ _ _ _ hfree hready (.inr ⟨by simpa using hw, rfl⟩) hS (ih _ _ hl' hF' hk hB1 hS h)

/-- **The law.** -/
theorem wp_region_lexH (S : World → Prop) (solo : Nat → Bool) {id : Nat} {a : Act} {w : World} {l : List Oper} (hm : P.follows .mixedOrders = true) (hB : (Region.noSelect l.toArray && lexL l.toArray solo 0 l) = true)
    (hQ : ∀ c a d v w, Q (.panic c) (Act.put a d v) w → Q (.panic c) a w) (hS : S w.drew) (h : wpLexH P l.toArray S Q solo (fun a w => Q .normal a w) 0 l a w.drew) : (Code.region id l.toArray true).wp P Q a w := by
  simp only [Bool.and_eq_true] at hB
  refine wp_region_held (S := S) hm ?_
  have := lexH_any hB.1 hQ l 0 (Array.replicate l.length false) a w.drew (by simp) ⟨by simp, fun j => by
    rw [Array.getElem?_replicate]; simp⟩ (Nat.zero_le _) hB.2 hS h
  simpa using this
end
attribute [irreducible] wpLexH
end Go.Proofs.YtamilahkdinjkaaDoor
