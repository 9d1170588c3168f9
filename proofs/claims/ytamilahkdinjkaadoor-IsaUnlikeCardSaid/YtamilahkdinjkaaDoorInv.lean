/-
  A REGION THAT DRAWS ITS ORDER, BY AN INVARIANT: what holds of the operations that are done, whatever the order; each operation is shown once.
-/
import Derived.Orders
import Derived.Laws.World
namespace Go.Proofs.YtamilahkdinjkaaDoor
set_option linter.unusedVariables false
set_option linter.unusedSimpArgs false
open Go

/-- Each operation waits for earlier ones alone. -/
def acyclic (ops : Array Oper) : Bool := (List.range ops.size).all fun i => match ops[i]? with
  | some o => o.after.all fun e => e.on < i
  | none => true

theorem acyclic_spec {ops : Array Oper} (h : acyclic ops = true) {i : Nat} {o : Oper} (ho : ops[i]? = some o) (e : Edge) (he : e ∈ o.after) : e.on < i := by
  have hi : i < ops.size := (Array.getElem?_eq_some_iff.1 ho).1
  have h1 := List.all_eq_true.1 h i (List.mem_range.2 hi)
  simp only [ho] at h1
  simpa using Array.all_eq_true_iff_forall_mem.1 h1 e he

theorem ready_nil_all {md : Region.Mode} {ops : Array Oper} (hac : acyclic ops = true) {listed : Array Bool} (hs : listed.size = ops.size) (hr : Region.ready md ops listed = []) :
    ∀ i, i < ops.size → listed.getD i false = true := by
  intro i
  induction i using Nat.strongRecOn with
  | _ i ih =>
    intro hi
    cases hl : listed.getD i true with
    | true =>
      have : i < listed.size := by omega
      simp [Array.getD, this] at hl ⊢; exact hl
    | false =>
      exfalso
      have ho : ops[i]? = some ops[i] := Array.getElem?_eq_getElem hi
      have hm : i ∈ Region.ready md ops listed := mem_ready.2 ⟨hl, _, ho, fun e he _ => ih e.on (acyclic_spec hac ho e he) (by have := acyclic_spec hac ho e he; omega)⟩
      rw [hr] at hm; cases hm

/-- How many are not yet done. -/
def undone : List Bool → Nat
  | [] => 0
  | b :: l => (if b then 0 else 1) + undone l

theorem undone_set : ∀ (l : List Bool) (i : Nat), l[i]? = some false → undone (l.set i true) + 1 = undone l
  | [], i, h => by simp at h
  | b :: l, 0, h => by simp at h; subst h; simp [undone]; omega
  | b :: l, i + 1, h => by simp at h; have := undone_set l i h; simp [undone]; omega
theorem undone_zero : ∀ (l : List Bool), undone l = 0 → ∀ i, i < l.length → l[i]? = some true
  | [], _, i, hi => by simp at hi
  | b :: l, h, 0, _ => by cases b <;> simp [undone] at h ⊢
  | b :: l, h, i + 1, hi => by simp [undone] at h; simp at hi; simpa using undone_zero l h.2 i hi
theorem undone_replicate (n : Nat) : undone (List.replicate n false) = n := by
  induction n with
  | zero => rfl
  | succ n ih => simp [List.replicate_succ, undone, ih]; omega

variable {P : Program} {ops : Array Oper} {Q : Exit → Act → World → Prop} {md : Region.Mode}

/-- **The law.** -/
theorem wpAny_inv (hac : acyclic ops = true) (Inv : (Nat → Bool) → Act → World → Prop)
    (step : ∀ (i : Nat) (o : Oper) (L : Nat → Bool) (a : Act) (w : World), ops[i]? = some o → L i = false → (∀ e ∈ o.after, Region.binds md e = true → L e.on = true) → Inv L a w →
      wpOp P ops Q i (fun a' w' => Inv (fun j => j == i || L j) a' w') a w)
    (fin : ∀ (L : Nat → Bool) (a : Act) (w : World), (∀ i, i < ops.size → L i = true) → Inv L a w → Q .normal a w) :
    ∀ (fuel : Nat) (listed : Array Bool) (a : Act) (w : World), listed.size = ops.size → undone listed.toList = fuel → Inv (fun j => listed.getD j false) a w →
      wpAny P md ops Q fuel listed a w := by
  intro fuel
  induction fuel with
  | zero =>
    intro listed a w hs hu hI
    have hall : ∀ i, i < ops.size → listed.getD i false = true := fun i hi => by
      have := undone_zero _ hu i (by simpa [hs] using hi)
      simp at this; simp [this]
    refine ⟨?_, fin _ a w hall hI⟩
    rw [List.eq_nil_iff_forall_not_mem]
    intro i hm
    obtain ⟨h0, o, ho, _⟩ := mem_ready.1 hm
    have hi : i < ops.size := (Array.getElem?_eq_some_iff.1 ho).1
    have h1 := hall i hi
    have hil : i < listed.size := by omega
    simp [Array.getD, hil] at h0 h1
    rw [h0] at h1; cases h1
  | succ fuel ih =>
    intro listed a w hs hu hI
    refine ⟨fun hr => fin _ a w (ready_nil_all hac hs hr) hI, fun i hm => ?_⟩
    obtain ⟨h0, o, ho, hd⟩ := mem_ready.1 hm
    have hi : i < ops.size := (Array.getElem?_eq_some_iff.1 ho).1
    have hil : i < listed.size := by omega
    have h0' : listed.getD i false = false := by simp [Array.getD, hil] at h0 ⊢; exact h0
    refine wpOp_mono (fun a' w' hI' => ih (listed.setIfInBounds i true) a' w' (by simpa using hs) ?_ ?_) (step i o _ a w ho h0' hd hI)
    · have hg : listed.toList[i]? = some false := by
        simp [Array.getD, hil] at h0; simp [hil, h0]
      have := undone_set listed.toList i hg
      simp only [Array.toList_setIfInBounds]; omega
    · have e : (fun j => (listed.setIfInBounds i true).getD j false) = (fun j => j == i || listed.getD j false) := by
        funext j
        by_cases hj : j = i
        · subst hj; simp [hil]
        · have : (j == i) = false := by simpa using hj
          rw [this, Bool.false_or, getD_set_ne false (Ne.symm hj)]
      rw [e]; exact hI'

theorem wp_region_inv {id : Nat} {a : Act} {w : World} (hm : P.follows .mixedOrders = true) (hac : acyclic ops = true) (Inv : (Nat → Bool) → Act → World → Prop)
    (h0 : Inv (fun _ => false) a w.drew)
    (step : ∀ (i : Nat) (o : Oper) (L : Nat → Bool) (a : Act) (w : World), ops[i]? = some o → L i = false → (∀ e ∈ o.after, L e.on = true) → Inv L a w →
      wpOp P ops Q i (fun a' w' => Inv (fun j => j == i || L j) a' w') a w)
    (hb : ∀ o ∈ ops, ∀ e ∈ o.after, Region.binds .any e = true)
    (fin : ∀ (L : Nat → Bool) (a : Act) (w : World), (∀ i, i < ops.size → L i = true) → Inv L a w → Q .normal a w) : (Code.region id ops true).wp P Q a w := by
  refine wp_region_any hm (wpAny_inv hac Inv (fun i o L a w ho hl hd hI => step i o L a w ho hl (fun e he => hd e he (hb o (Array.mem_of_getElem? ho) e he)) hI) fin _ _ _ _ (by simp) (by simp [undone_replicate]) ?_)
  have e : (fun j => (Array.replicate ops.size false).getD j false) = fun _ => false := by
    funext j; simp [Array.getD]
  rw [e]; exact h0

/-- What holds of each operation of a list, with its number. -/
def AllFrom (p : Nat → Oper → Prop) : Nat → List Oper → Prop
  | _, [] => True
  | k, o :: l => p k o ∧ AllFrom p (k + 1) l
theorem AllFrom.get {p : Nat → Oper → Prop} : ∀ {l : List Oper} {k : Nat}, AllFrom p k l → ∀ {i : Nat} {o : Oper}, l[i]? = some o → p (k + i) o
  | [], _, _, i, o, h => by simp at h
  | x :: l, k, ha, 0, o, h => by simp at h; subst h; exact ha.1
  | x :: l, k, ha, i + 1, o, h => by have := ha.2.get (i := i) (o := o) (by simpa using h); rw [show k + (i + 1) = k + 1 + i from by omega]; exact this

/-- **The law, of a region without guards: each operation is shown once.** -/
theorem wp_region_each {id : Nat} {a : Act} {w : World} (hm : P.follows .mixedOrders = true) (hac : acyclic ops = true) (hg : (ops.all fun o => o.guard.isNone && o.after.all fun e => Region.binds .any e) = true)
    (Inv : (Nat → Bool) → Act → World → Prop) (h0 : Inv (fun _ => false) a w.drew)
    (fin : ∀ (a : Act) (w : World) (L : Nat → Bool), (∀ i, i < ops.size → L i = true) → Inv L a w → Q .normal a w)
    (step : AllFrom (fun k o => ∀ (L : Nat → Bool) (a : Act) (w : World), L k = false → (∀ e ∈ o.after, L e.on = true) → Inv L a w → o.wp P a w (fun a' w' => Inv (fun j => j == k || L j) a' w') Q) 0 ops.toList) :
    (Code.region id ops true).wp P Q a w := by
  have hg' := Array.all_eq_true_iff_forall_mem.1 hg
  refine wp_region_inv hm hac Inv h0 (fun i o L a w ho hl hd hI => ?_) (fun o ho e he => ?_) (fun L a w => fin a w L)
  · have h1 := step.get (i := i) (o := o) (by simpa using ho)
    rw [Nat.zero_add] at h1
    have h2 := hg' o (Array.mem_of_getElem? ho)
    simp only [Bool.and_eq_true, Option.isNone_iff_eq_none] at h2
    unfold wpOp
    simp only [ho]
    have hw : Region.wanted o (yielded ops a.tmps) = true := by simp [Region.wanted, h2.1]
    rw [if_pos hw]
    exact .inl (h1 L a w hl hd hI)
  · have h2 := hg' o ho
    simp only [Bool.and_eq_true] at h2
    exact Array.all_eq_true_iff_forall_mem.1 h2.2 e he

/-- The same, the invariant told of the world in which the region begins, under a name. -/
theorem wp_region_each_w {id : Nat} {a : Act} {w : World} (Inv : World → (Nat → Bool) → Act → World → Prop) (hm : P.follows .mixedOrders = true) (hac : acyclic ops = true) (hg : (ops.all fun o => o.guard.isNone && o.after.all fun e => Region.binds .any e) = true)
    (h0 : Inv w (fun _ => false) a w.drew)
    (rest : ∀ w1 : World, w1 = w → (∀ (a : Act) (w' : World) (L : Nat → Bool), (∀ i, i < ops.size → L i = true) → Inv w1 L a w' → Q .normal a w') ∧
      AllFrom (fun k o => ∀ (L : Nat → Bool) (a : Act) (w' : World), L k = false → (∀ e ∈ o.after, L e.on = true) → Inv w1 L a w' → o.wp P a w' (fun a' w' => Inv w1 (fun j => j == k || L j) a' w') Q) 0 ops.toList) :
    (Code.region id ops true).wp P Q a w := wp_region_each hm hac hg (Inv w) h0 (rest w rfl).1 (rest w rfl).2

end Go.Proofs.YtamilahkdinjkaaDoor
