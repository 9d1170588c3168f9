/-
  isa.forms: the map of the forms, whatever order its literal is laid in.
-/
import Derived.Test.YtamilahkdinjkaaDoorClos
import Derived.Test.YtamilahkdinjkaaDoorInv
import Derived.MapKept
import Derived.RangeFuncRecord
namespace Go.Proofs.YtamilahkdinjkaaDoor
set_option linter.unusedVariables false
set_option linter.unusedSimpArgs false
open Go.RowKit Go.Shelf

def keyF : Fm → ByteArray
  | .u => ⟨#[117]⟩
  | .j => ⟨#[106]⟩
  | .i => ⟨#[105]⟩
  | .load => ⟨#[108, 111, 97, 100]⟩
  | .shift => ⟨#[115, 104, 105, 102, 116]⟩
  | .b => ⟨#[98]⟩
  | .s => ⟨#[115]⟩
  | .r => ⟨#[114]⟩
  | .fence => ⟨#[102, 101, 110, 99, 101]⟩
  | .all => ⟨#[97, 108, 108]⟩
  | .lr => ⟨#[108, 114]⟩
  | .a => ⟨#[97]⟩
  | .csr => ⟨#[99, 115, 114]⟩
theorem keyF_inj {f g : Fm} (h : keyF f = keyF g) : f = g := by
  cases f <;> cases g <;> first | rfl | (exfalso; revert h; simp [keyF])

def formC (f : Fm) (mv : Value) : Array Value := #[.int .u32 (maskZ f), .bool (rdZ f), .bool (rs1Z f), .bool (rs2Z f), .bool (aZ f), mv,
  .func (.func (putN f)) #[] #[], .func (.func (takeN f)) #[] #[], .func (.func (toldN f)) #[] #[]]
def formV (f : Fm) (mv : Value) : Value := .agg (formC f mv)
def FormOK (b0 : Nat) (f : Fm) (v : Value) (w : World) : Prop := ∃ mv, v = formV f mv ∧ MayOK b0 f mv w
theorem FormOK.keep {b0 : Nat} {f : Fm} {v : Value} {w w' : World} (h : FormOK b0 f v w) (hb : HeldFrom b0 w w') : FormOK b0 f v w' := by
  obtain ⟨mv, h1, h2⟩ := h
  exact ⟨mv, h1, h2.keep hb⟩

/-- The number of the operation that lays a form into the map. -/
def insI : Fm → Nat
  | .u => 2
  | .j => 5
  | .i => 7
  | .load => 9
  | .shift => 14
  | .b => 17
  | .s => 20
  | .r => 22
  | .fence => 25
  | .all => 29
  | .lr => 31
  | .a => 33
  | .csr => 37

/-- The map as far as it is laid. -/
def MapSo (b0 : Nat) (L : Nat → Bool) (m : Nat) (w : World) : Prop := ∃ es clock, w.heap[m]? = some (.map es clock) ∧
  (∀ e ∈ es.toList, ∃ f, L (insI f) = true ∧ e.key = .string (keyF f) ∧ FormOK b0 f e.val w) ∧ (∀ f, L (insI f) = true → ∃ e ∈ es.toList, e.key = .string (keyF f))

def slotI : Nat → Nat
  | 0 => 24 | 1 => 25 | 3 => 26 | 4 => 27 | 6 => 28 | 8 => 29 | 10 => 30 | 11 => 31 | 12 => 32 | 13 => 33 | 15 => 34 | 16 => 35 | 18 => 36 | 19 => 37 | 21 => 38 | 23 => 39 | 24 => 40
  | 26 => 41 | 27 => 42 | 28 => 43 | 30 => 44 | 32 => 45 | 34 => 46 | 35 => 47 | 36 => 48 | 38 => 49 | 39 => 0 | _ => 100

def zeroF : Value := .func (.func 45) #[] #[]
/-- What each operation's slot holds, once it is done (B: the block of the first form). -/
def SV (b0 B : Nat) : Nat → Value → World → Prop
  | 1, v, w => FormOK b0 .u v w
  | 3, v, w => MayOK b0 .j v w
  | 4, v, w => FormOK b0 .j v w
  | 6, v, w => FormOK b0 .i v w
  | 8, v, w => FormOK b0 .load v w
  | 10, v, w => MayOK b0 .shift v w
  | 11, v, _ => v = .pointer (some ⟨B, 8, none⟩)
  | 12, v, _ => v = .func (.func 50) #[] #[]
  | 13, v, w => FormOK b0 .shift v w
  | 15, v, w => MayOK b0 .b v w
  | 16, v, w => FormOK b0 .b v w
  | 18, v, w => MayOK b0 .s v w
  | 19, v, w => FormOK b0 .s v w
  | 21, v, w => FormOK b0 .r v w
  | 23, v, w => MayOK b0 .fence v w
  | 24, v, w => FormOK b0 .fence v w
  | 26, v, _ | 27, v, _ | 34, v, _ | 35, v, _ => v = zeroF
  | 28, v, w => FormOK b0 .all v w
  | 30, v, w => FormOK b0 .lr v w
  | 32, v, w => FormOK b0 .a v w
  | 36, v, w => FormOK b0 .csr v w
  | _, _, _ => True

theorem SV.keep {b0 B i : Nat} {v : Value} {w w' : World} (h : SV b0 B i v w) (hb : HeldFrom b0 w w') : SV b0 B i v w' := by
  unfold SV at *
  split at h
  all_goals first | exact FormOK.keep h hb | exact MayOK.keep h hb | exact h

def noneV : Value := .func (.func 55) #[] #[]
/-- The five forms that are laid ahead of the map. -/
def Base (b0 : Nat) (w : World) (B : Nat) : Prop := ∃ mi, MayOK b0 .i mi w ∧ w.heap[B]? = some (.cells (formC .i mi) 49 (0, 0)) ∧ w.heap[B + 1]? = some (.cells (formC .load mi) 49 (0, 0)) ∧
  w.heap[B + 1 + 1]? = some (.cells (formC .r noneV) 49 (0, 0)) ∧ w.heap[B + 1 + 1 + 1]? = some (.cells (formC .a noneV) 49 (0, 0)) ∧ w.heap[B + 1 + 1 + 1 + 1]? = some (.cells (formC .lr noneV) 49 (0, 0)) ∧ B + 5 ≤ w.heap.size
theorem Base.keep {b0 : Nat} {w w' : World} {B : Nat} (h : Base b0 w B) (hb : ∀ k, k < B + 5 → w'.heap[k]? = w.heap[k]?) (hs : w.heap.size ≤ w'.heap.size) (hh : HeldFrom b0 w w') : Base b0 w' B := by
  obtain ⟨mi, h0, h1, h2, h3, h4, h5, h6⟩ := h
  exact ⟨mi, h0.keep hh, (hb _ (by omega)).trans h1, (hb _ (by omega)).trans h2, (hb _ (by omega)).trans h3, (hb _ (by omega)).trans h4, (hb _ (by omega)).trans h5, by omega⟩

structure FInv (b0 : Nat) (w1 : World) (B : Nat) (L : Nat → Bool) (a : Act) (w : World) : Prop where
  defers : a.defers = []
  size : a.tmps.size = 50
  s1 : a.tmps[1]? = some zeroF
  s3 : a.tmps[3]? = some (.pointer (some ⟨B, 0, none⟩))
  s4 : a.tmps[4]? = some (.pointer (some ⟨B + 1, 0, none⟩))
  s5 : a.tmps[5]? = some (.pointer (some ⟨B + 1 + 1, 0, none⟩))
  s6 : a.tmps[6]? = some (.pointer (some ⟨B + 1 + 1 + 1, 0, none⟩))
  s7 : a.tmps[7]? = some (.pointer (some ⟨B + 1 + 1 + 1 + 1, 0, none⟩))
  below : Below w1.heap.size w1 w
  vals : ∀ i, L i = true → slotI i < 50 → ∃ v, a.tmps[slotI i]? = some v ∧ SV b0 B i v w
  made : L 0 = true → ∃ m, a.tmps[24]? = some (.map (some m)) ∧ (L 38 = true → a.tmps[49]? = some (.map (some m))) ∧ (L 39 = true → a.tmps[0]? = some (.map (some m))) ∧ w1.heap.size ≤ m ∧ m < w.heap.size ∧ MapSo b0 L m w
  unmade : L 0 = false → (∀ f, L (insI f) = false) ∧ L 38 = false ∧ L 39 = false
  base : Base b0 w B

theorem wp_K {P : Program} {o : Oper} {a : Act} {w : World} {Q : Exit → Act → World → Prop} {I : Act → World → Prop} (h : ∀ K : Act → World → Prop, (∀ a' w', I a' w' → K a' w') → o.wp P a w K Q) : o.wp P a w I Q :=
  h I fun _ _ h => h

def okPut (i : Nat) : Bool := decide (slotI i < 49) && !([0, 1, 3, 4, 5, 6, 7, 24].contains (slotI i)) && !([0, 2, 5, 7, 9, 14, 17, 20, 22, 25, 29, 31, 33, 37, 38, 39].contains i)
theorem slotI_inj40 : ∀ i j : Fin 40, slotI j = slotI i → slotI i < 50 → j = i := by decide +kernel
theorem slotI_big {i : Nat} (h : 40 ≤ i) : slotI i = 100 := by
  obtain ⟨k, rfl⟩ : ∃ k, i = k + 40 := ⟨i - 40, by omega⟩
  rfl
theorem slotI_inj {i j : Nat} (h : slotI j = slotI i) (hi : slotI i < 50) : j = i := by
  rcases Nat.lt_or_ge i 40 with h1 | h1
  · rcases Nat.lt_or_ge j 40 with h2 | h2
    · have := slotI_inj40 ⟨i, h1⟩ ⟨j, h2⟩ h hi
      exact congrArg Fin.val this
    · rw [slotI_big h2] at h; omega
  · rw [slotI_big h1] at hi; omega

/-- An operation that writes its slot alone. -/
theorem FInv.put {b0 : Nat} {w1 : World} {B : Nat} {L : Nat → Bool} {a : Act} {w : World} (h : FInv b0 w1 B L a w) (i d : Nat) (v : Value) (hc : okPut i = true) (hd : slotI i = d) (hv : SV b0 B i v w) :
    FInv b0 w1 B (fun j => j == i || L j) { a with tmps := a.tmps.setIfInBounds d v } w := by
  simp only [okPut, hd, Bool.and_eq_true, decide_eq_true_eq, Bool.not_eq_true', List.contains_eq_mem, decide_eq_false_iff_not, List.mem_cons, List.not_mem_nil, or_false, not_or] at hc
  obtain ⟨⟨hd49, c0, c1, c3, c4, c5, c6, c7, c24⟩, i0, i2, i5, i7, i9, i14, i17, i20, i22, i25, i29, i31, i33, i37, i38, i39⟩ := hc
  have hg : ∀ k, k ≠ d → (a.tmps.setIfInBounds d v)[k]? = a.tmps[k]? := fun k hk => by simp [Array.getElem?_setIfInBounds, Ne.symm hk]
  have hf : ∀ f, insI f ≠ i := fun f => by cases f <;> simp only [insI] <;> omega
  refine ⟨h.defers, by simpa using h.size, (hg _ (Ne.symm c1)).trans h.s1, (hg _ (Ne.symm c3)).trans h.s3, (hg _ (Ne.symm c4)).trans h.s4, (hg _ (Ne.symm c5)).trans h.s5, (hg _ (Ne.symm c6)).trans h.s6, (hg _ (Ne.symm c7)).trans h.s7, h.below, ?_, ?_, ?_, ?_⟩
  · intro j hj hs
    by_cases hji : j = i
    · subst hji
      rw [hd]
      refine ⟨v, ?_, hv⟩
      have := h.size
      simp [Array.getElem?_setIfInBounds, this]; omega
    · have hj' : L j = true := by simpa [hji] using hj
      obtain ⟨u, hu1, hu2⟩ := h.vals j hj' hs
      exact ⟨u, (hg _ (fun e => hji (slotI_inj (e.trans hd.symm) (by omega)))).trans hu1, hu2⟩
  · intro h0
    have h0' : L 0 = true := by simpa [Ne.symm i0] using h0
    obtain ⟨m, hm1, h38, h39, hm2, hm3, es, clock, hh, he1, he2⟩ := h.made h0'
    refine ⟨m, (hg _ (Ne.symm c24)).trans hm1, fun h => (hg _ (by omega)).trans (h38 (by simpa [Ne.symm i38] using h)), fun h => (hg _ (Ne.symm c0)).trans (h39 (by simpa [Ne.symm i39] using h)), hm2, hm3, es, clock, hh, fun e he => ?_, fun f hL => ?_⟩
    · obtain ⟨f, hf1, hf2⟩ := he1 e he
      exact ⟨f, by simp [hf1], hf2⟩
    · refine he2 f ?_
      have := hf f
      simpa [this] using hL
  · intro h0
    have h0' : L 0 = false := by simpa [Ne.symm i0] using h0
    obtain ⟨u1, u2, u3⟩ := h.unmade h0'
    exact ⟨fun f => by have := hf f; simp [this, u1 f], by simp [Ne.symm i38, u2], by simp [Ne.symm i39, u3]⟩
  · exact h.base

/-- The world has grown. -/
theorem FInv.world {b0 : Nat} {w1 : World} {B : Nat} {L : Nat → Bool} {a : Act} {w w' : World} (h : FInv b0 w1 B L a w) (hb : Below w.heap.size w w') : FInv b0 w1 B L a w' := by
  refine ⟨h.defers, h.size, h.s1, h.s3, h.s4, h.s5, h.s6, h.s7, h.below.trans (hb.mono h.below.size), fun i hi hs => ?_, fun h0 => ?_, h.unmade, ?_⟩
  · obtain ⟨v, h1, h2⟩ := h.vals i hi hs
    exact ⟨v, h1, h2.keep ((held_below hb).from b0)⟩
  · obtain ⟨m, hm1, h38, h39, hm2, hm3, es, clock, hh, he1, he2⟩ := h.made h0
    refine ⟨m, hm1, h38, h39, hm2, Nat.lt_of_lt_of_le hm3 hb.size, es, clock, (hb.block m hm3).trans hh, fun e he => ?_, he2⟩
    obtain ⟨f, hf1, hf2, hf3⟩ := he1 e he
    exact ⟨f, hf1, hf2, hf3.keep ((held_below hb).from b0)⟩
  · obtain ⟨_, _, _, _, _, _, _, hs5⟩ := h.base
    exact h.base.keep (fun k hk => hb.block k (by omega)) hb.size ((held_below hb).from b0)

theorem slotI_24 {j : Nat} (h : slotI j = 24) : j = 0 := by
  unfold slotI at h
  split at h <;> first | rfl | (exfalso; revert h; decide)

/-- The map is made. -/
theorem FInv.make {b0 : Nat} {w1 : World} {B : Nat} {L : Nat → Bool} {a : Act} {w : World} (h : FInv b0 w1 B L a w) (hl : L 0 = false) :
    FInv b0 w1 B (fun j => j == 0 || L j) { a with tmps := a.tmps.setIfInBounds 24 (.map (some w.heap.size)) } (w.alloc (.map #[] 0)) := by
  have hb : Below w.heap.size w (w.alloc (.map #[] 0)) := (Below.refl _ w).alloc (Nat.le_refl _) _
  have hsz := h.below.size
  have h := h.world hb
  have hg : ∀ k, k ≠ 24 → (a.tmps.setIfInBounds 24 (.map (some w.heap.size)))[k]? = a.tmps[k]? := fun k hk => by simp [Array.getElem?_setIfInBounds, Ne.symm hk]
  have h24 : (a.tmps.setIfInBounds 24 (Value.map (some w.heap.size)))[24]? = some (.map (some w.heap.size)) := by simp [Array.getElem?_setIfInBounds, h.size]
  have hlt : w.heap.size < (w.alloc (.map #[] 0)).heap.size := by simp
  refine ⟨h.defers, by simpa using h.size, (hg _ (by decide)).trans h.s1, (hg _ (by decide)).trans h.s3, (hg _ (by decide)).trans h.s4, (hg _ (by decide)).trans h.s5, (hg _ (by decide)).trans h.s6, (hg _ (by decide)).trans h.s7, h.below, ?_, ?_, ?_, h.base⟩
  · intro j hj hs
    by_cases hj0 : j = 0
    · subst hj0
      exact ⟨_, h24, trivial⟩
    · have hj' : L j = true := by simpa [hj0] using hj
      obtain ⟨u, hu1, hu2⟩ := h.vals j hj' hs
      exact ⟨u, (hg _ (fun e => hj0 (slotI_24 e))).trans hu1, hu2⟩
  · intro _
    obtain ⟨u1, u2, u3⟩ := h.unmade hl
    refine ⟨_, h24, (fun h => by simp [u2] at h), (fun h => by simp [u3] at h), hsz, hlt, #[], 0, World.alloc_heap_new w _, by simp, fun f hf => ?_⟩
    have h1 := u1 f
    cases f <;> simp [insI] at hf h1 <;> simp [h1] at hf
  · intro h0; simp at h0

/-- A form is laid into the map. -/
theorem FInv.ins {b0 : Nat} {w1 : World} {B : Nat} {L : Nat → Bool} {a : Act} {w : World} (h : FInv b0 w1 B L a w) (hB5 : B + 5 ≤ w1.heap.size) (f : Fm) (hL : L (insI f) = false) (h0 : L 0 = true) {s : Nat} {v : Value} (hs : a.tmps[s]? = some v) (hv : FormOK b0 f v w)
    {o : Oper} (ho : o.op = .insert 71 (.tmp 24) (.const (.string (keyF f))) (.tmp s)) (hd : o.dst = none) {Q : Exit → Act → World → Prop} :
    o.wp Tryd.prog a w (fun a' w' => FInv b0 w1 B (fun j => j == insI f || L j) a' w') Q := by
  obtain ⟨m, hm1, h38, h39, hm2, hm3, es, clock, hh, he1, he2⟩ := h.made h0
  have hks : ∀ x ∈ es.toList, MapKept.IsKey .string x.key := fun x hx => by
    obtain ⟨g, _, hk, _⟩ := he1 x hx; rw [hk]; trivial
  have hkey : MapKept.IsKey .string (.string (keyF f)) := trivial
  have hne : Instr.findNow .string (.string (keyF f)) es.toList 0 = some none := by
    rcases MapKept.findNow_spec hkey es.toList 0 hks with ⟨h1, _⟩ | ⟨j, e, _, h2, h3⟩
    · exact h1
    · exfalso
      obtain ⟨g, hg1, hg2, _⟩ := he1 e (List.mem_of_getElem? h2)
      rw [hg2] at h3
      have := keyF_inj (by simpa using h3 : keyF g = keyF f)
      subst this; rw [hL] at hg1; cases hg1
  have hrun : (Instr.mapUpdate 71 (.map (some m)) (.string (keyF f)) v).run Tryd.prog w = .ok () (w.putObj m (.map (es.push { key := .string (keyF f), val := v, born := clock }) (clock + 1))) := by
    simp [Instr.mapUpdate, run_underlying Tryd.underlying71, MapKept.run_getObj_map hh, MapKept.run_checkKey Tryd.underlying9 hkey, MapKept.run_findKey Tryd.underlying9 hne, MapKept.run_setObj_map _ hh, Result.andThen, World.putObj]
  have e1 : a.eval (.tmp 24) = .map (some m) := by simp [Act.eval, hm1]
  have e2 : a.eval (.tmp s) = v := by simp [Act.eval, hs]
  have e3 : a.eval (.const (.string (keyF f))) = .string (keyF f) := rfl
  unfold Oper.wp
  have hx : (execOp a.eval o).run Tryd.prog w = .ok .skip (w.putObj m (.map (es.push { key := .string (keyF f), val := v, born := clock }) (clock + 1))) := by
    unfold execOp
    rw [ho]
    simp only [e1, e2, e3, Sem.run_bind, hrun, Result.andThen, Sem.run_pure]
  rw [hx]
  simp only [Oper.upon, hd, Act.put]
  generalize hw2 : w.putObj m (.map (es.push { key := .string (keyF f), val := v, born := clock }) (clock + 1)) = w2
  have hm : w2.heap[m]? = some (.map (es.push { key := .string (keyF f), val := v, born := clock }) (clock + 1)) := by rw [← hw2]; exact World.putObj_heap_same hm3
  have ho2 : ∀ k, k ≠ m → w2.heap[k]? = w.heap[k]? := fun k hk => by rw [← hw2]; exact World.putObj_heap_other hk
  have hsz : w2.heap.size = w.heap.size := by rw [← hw2]; exact World.putObj_size
  have hheld : Held w w2 := fun p u hp => by
    have hpm : p.block ≠ m := fun e => by
      unfold World.cell? at hp
      rw [e, hh] at hp; cases hp
    have h1 : w2.cell? p = w.cell? p := World.cell?_of_block (ho2 _ hpm)
    exact h1.trans hp
  have hbw : Below w1.heap.size w w2 := ⟨by rw [← hw2]; rfl, by rw [← hw2]; rfl, by rw [← hw2]; rfl, Nat.le_of_eq hsz.symm, fun k hk => ho2 k (by omega)⟩
  refine ⟨h.defers, h.size, h.s1, h.s3, h.s4, h.s5, h.s6, h.s7, h.below.trans hbw, fun j hj hs => ?_, fun _ => ?_, fun h0' => ?_, h.base.keep (fun k hk => ho2 k (by omega)) (by omega) (hheld.from b0)⟩
  · by_cases hji : j = insI f
    · exfalso; subst hji; revert hs; cases f <;> decide
    · obtain ⟨u, hu1, hu2⟩ := h.vals j (by simpa [hji] using hj) hs
      exact ⟨u, hu1, hu2.keep (hheld.from b0)⟩
  · have hi38 : (38 == insI f) = false := by cases f <;> rfl
    have hi39 : (39 == insI f) = false := by cases f <;> rfl
    refine ⟨m, hm1, (fun h => h38 (by simpa [hi38] using h)), (fun h => h39 (by simpa [hi39] using h)), hm2, by omega, _, _, hm, fun e he => ?_, fun g hg => ?_⟩
    · simp only [Array.toList_push, List.mem_append, List.mem_singleton] at he
      rcases he with he | rfl
      · obtain ⟨g, hg1, hg2, hg3⟩ := he1 e he
        exact ⟨g, by simp [hg1], hg2, hg3.keep (hheld.from b0)⟩
      · exact ⟨f, by simp, rfl, hv.keep (hheld.from b0)⟩
    · by_cases hgf : insI g = insI f
      · have hgf' : g = f := by revert hgf; cases g <;> cases f <;> simp [insI]
        subst hgf'
        exact ⟨{ key := .string (keyF g), val := v, born := clock }, by simp, rfl⟩
      · obtain ⟨e, he, hk⟩ := he2 g (by simpa [hgf] using hg)
        exact ⟨e, by simp [he], hk⟩
  · simp [h0] at h0'

/-- The map is handed on. -/
theorem FInv.mv {b0 : Nat} {w1 : World} {B : Nat} {L : Nat → Bool} {a : Act} {w : World} (h : FInv b0 w1 B L a w) {i d m : Nat} (hid : (i = 38 ∧ d = 49) ∨ (i = 39 ∧ d = 0)) (h0 : L 0 = true) (hm : a.tmps[24]? = some (.map (some m))) :
    FInv b0 w1 B (fun j => j == i || L j) { a with tmps := a.tmps.setIfInBounds d (.map (some m)) } w := by
  have hg : ∀ k, k ≠ d → (a.tmps.setIfInBounds d (Value.map (some m)))[k]? = a.tmps[k]? := fun k hk => by simp [Array.getElem?_setIfInBounds, Ne.symm hk]
  have hself : (a.tmps.setIfInBounds d (Value.map (some m)))[d]? = some (.map (some m)) := by
    have := h.size
    simp [Array.getElem?_setIfInBounds, this]; omega
  have hf : ∀ f, insI f ≠ i := fun f => by cases f <;> simp only [insI] <;> omega
  have hd : slotI i = d := by rcases hid with ⟨rfl, rfl⟩ | ⟨rfl, rfl⟩ <;> rfl
  refine ⟨h.defers, by simpa using h.size, (hg _ (by omega)).trans h.s1, (hg _ (by omega)).trans h.s3, (hg _ (by omega)).trans h.s4, (hg _ (by omega)).trans h.s5, (hg _ (by omega)).trans h.s6, (hg _ (by omega)).trans h.s7, h.below, ?_, ?_, ?_, h.base⟩
  · intro j hj hs
    by_cases hji : j = i
    · subst hji
      refine ⟨_, by rw [hd]; exact hself, ?_⟩
      rcases hid with ⟨rfl, rfl⟩ | ⟨rfl, rfl⟩ <;> exact trivial
    · have hj' : L j = true := by simpa [hji] using hj
      obtain ⟨u, hu1, hu2⟩ := h.vals j hj' hs
      exact ⟨u, (hg _ (fun e => hji (slotI_inj (e.trans hd.symm) (by omega)))).trans hu1, hu2⟩
  · intro _
    obtain ⟨m', hm1, h38, h39, hm2, hm3, es, clock, hh, he1, he2⟩ := h.made h0
    obtain rfl : m = m' := by rw [hm] at hm1; simpa using hm1
    refine ⟨m, (hg _ (by omega)).trans hm1, fun hl => ?_, fun hl => ?_, hm2, hm3, es, clock, hh, fun e he => ?_, fun f hL => ?_⟩
    · rcases hid with ⟨rfl, rfl⟩ | ⟨rfl, rfl⟩
      · exact hself
      · exact (hg _ (by omega)).trans (h38 (by simpa using hl))
    · rcases hid with ⟨rfl, rfl⟩ | ⟨rfl, rfl⟩
      · exact (hg _ (by omega)).trans (h39 (by simpa using hl))
      · exact hself
    · obtain ⟨f, hf1, hf2⟩ := he1 e he
      exact ⟨f, by simp [hf1], hf2⟩
    · refine he2 f ?_
      have := hf f
      simpa [this] using hL
  · intro h0'
    have h0'' : (0 == i || L 0) = false := h0'
    simp [h0] at h0''

theorem heap_five (w : World) (o0 o1 o2 o3 o4 : Obj) : let W := (((((w.alloc o0).alloc o1).alloc o2).alloc o3).alloc o4).drew
    W.heap[w.heap.size]? = some o0 ∧ W.heap[w.heap.size + 1]? = some o1 ∧ W.heap[w.heap.size + 1 + 1]? = some o2 ∧ W.heap[w.heap.size + 1 + 1 + 1]? = some o3 ∧ W.heap[w.heap.size + 1 + 1 + 1 + 1]? = some o4 ∧ w.heap.size + 5 ≤ W.heap.size := by
  simp only [World.alloc, World.drew, Array.getElem?_push, Array.size_push]
  refine ⟨?_, ?_, ?_, ?_, ?_, by omega⟩ 
  · rw [if_neg (by omega), if_neg (by omega), if_neg (by omega), if_neg (by omega), if_pos trivial]
  · rw [if_neg (by omega), if_neg (by omega), if_neg (by omega), if_pos trivial]
  · rw [if_neg (by omega), if_neg (by omega), if_pos trivial]
  · rw [if_neg (by omega), if_pos trivial]
  · rw [if_pos trivial]

def FormsMap (b0 m : Nat) (w : World) : Prop := ∃ es clock, w.heap[m]? = some (.map es clock) ∧
  (∀ e ∈ es.toList, ∃ f, e.key = .string (keyF f) ∧ FormOK b0 f e.val w) ∧ (∀ f, ∃ e ∈ es.toList, e.key = .string (keyF f))

theorem cells_of_form {w : World} {B : Nat} {f : Fm} {mv : Value} {t : TypeId} (h : w.heap[B]? = some (.cells (formC f mv) t (0, 0))) :
    w.cell? ⟨B, 0, none⟩ = some (.int .u32 (maskZ f)) ∧ w.cell? ⟨B, 1, none⟩ = some (.bool (rdZ f)) ∧ w.cell? ⟨B, 2, none⟩ = some (.bool (rs1Z f)) ∧ w.cell? ⟨B, 3, none⟩ = some (.bool (rs2Z f)) ∧
      w.cell? ⟨B, 4, none⟩ = some (.bool (aZ f)) ∧ w.cell? ⟨B, 5, none⟩ = some mv ∧ w.cell? ⟨B, 6, none⟩ = some (.func (.func (putN f)) #[] #[]) ∧ w.cell? ⟨B, 7, none⟩ = some (.func (.func (takeN f)) #[] #[]) ∧
      w.cell? ⟨B, 8, none⟩ = some (.func (.func (toldN f)) #[] #[]) := by
  simp [World.cell?, h, formC]

set_option maxRecDepth 100000 in
set_option maxHeartbeats 4000000 in
theorem forms_any (w : World) :
    Calls Tryd.prog 36 #[] w fun e w' => ∃ m, e = .returned (.map (some m)) ∧ w.heap.size ≤ m ∧ FormsMap w.heap.size m w' ∧ Below w.heap.size w w' := by
  have hmf : ∀ (fn : Fn) (first cap : Array Value) (w : World), (Instr.makeFunc fn first cap).run Tryd.prog w = .ok (.func fn first cap) w := fun _ _ _ _ => rfl
  have hmm := @run_makeMap Tryd.prog
  go_enter Tryd.func36, Tryd.ntmps36
  go_wp2_with (go_at_call 48; refine (within_any _ _ _).mono ?_; rintro e w' ⟨p, q, rfl, hp, hq, hb⟩)
  refine wp_region_each_w (fun w1 => FInv w.heap.size w1 w'.heap.size) (by kernel_rfl) (by kernel_rfl) (by kernel_rfl) ?_ ?_
  · refine ⟨rfl, rfl, rfl, rfl, rfl, rfl, rfl, rfl, (Below.refl _ _).drew, (fun i h => by cases h), (fun h => by cases h), (fun _ => ⟨fun _ => rfl, rfl, rfl⟩), ?_⟩
    refine ⟨.func (.func 87) #[] #[.pointer (some p), .pointer (some q)], ⟨p, q, rfl, ?_, ?_⟩, ?_⟩
    · exact ⟨hp.1, cell_alloc (cell_alloc (cell_alloc (cell_alloc (cell_alloc hp.2))))⟩
    · exact ⟨hq.1, cell_alloc (cell_alloc (cell_alloc (cell_alloc (cell_alloc hq.2))))⟩
    · exact heap_five w' _ _ _ _ _
  · intro w1 hw1
    have hsz : w'.heap.size + 5 ≤ w1.heap.size := by rw [hw1]; simp
    have hbw : Below w.heap.size w w1 := by
      rw [hw1]
      exact (((((hb.alloc hb.size _).alloc (by have := hb.size; simp; omega) _).alloc (by have := hb.size; simp; omega) _).alloc (by have := hb.size; simp; omega) _).alloc (by have := hb.size; simp; omega) _)
    clear hw1 hp hq
    refine ⟨?_, ?_, ?_, ?_, ?_, ?_, ?_, ?_, ?_, ?_, ?_, ?_, ?_, ?_, ?_, ?_, ?_, ?_, ?_, ?_, ?_, ?_, ?_, ?_, ?_, ?_, ?_, ?_, ?_, ?_, ?_, ?_, ?_, ?_, ?_, ?_, ?_, ?_, ?_, ?_, ?_, trivial⟩
    · intro a w2 L hall hI
      obtain ⟨m, hm1, h38, h39, hm2, hm3, es, clock, hh, he1, he2⟩ := hI.made (hall 0 (by decide))
      have hres := h39 (hall 39 (by decide))
      have hd0 := hI.defers
      have hbw2 := hbw.trans (hI.below.mono hbw.size)
      have hfin : FormsMap w.heap.size m w2 := ⟨es, clock, hh, fun e he => (he1 e he).imp fun f hf => hf.2, fun f => he2 f (hall _ (by cases f <;> decide))⟩
      have hwm : w.heap.size ≤ m := Nat.le_trans hbw.size hm2
      clear hI hall hm1 h38 h39 hm2 hm3 hh he1 he2 hbw hsz
      go_wp2
      refine bodyPost_ret (results_tmp rfl _ _ _) hd0 ⟨m, ?_, hwm, hfin, hbw2⟩
      simp [hres]
    · intro L a w hl hd hI
      have hmk := FInv.make hI hl
      refine wp_K fun K hK => ?_
      go_simp
      exact hK _ _ hmk
    · intro L a w hl hd hI
      refine wp_K fun K hK => ?_
      go_simp
      exact hK _ _ (hI.put 1 25 _ rfl rfl ⟨_, rfl, rfl⟩)
    · intro L a w hl hd hI
      obtain ⟨v1, hv1, hs1⟩ := hI.vals 1 (hd ⟨1, .data⟩ (by simp)) (by decide)
      have hv1 : a.tmps[25]? = some v1 := hv1
      exact hI.ins hsz .u hl (hd ⟨0, .data⟩ (by simp)) hv1 hs1 rfl rfl
    · intro L a w hl hd hI
      refine wp_K fun K hK => ?_
      go_simp
      refine (even_any _ _ _).mono ?_
      rintro e w3 ⟨p1, q1, r1, rfl, hr1, hp1, hq1, hb1⟩
      have hle := Nat.le_trans hbw.size hI.below.size
      exact hK _ _ ((hI.world hb1).put 3 26 _ rfl rfl ⟨p1, q1, r1, rfl, hr1.mono hle, hp1.mono hle, hq1.mono hle⟩)
    · intro L a w hl hd hI
      obtain ⟨v3, hv3, hs3⟩ := hI.vals 3 (hd ⟨3, .data⟩ (by simp)) (by decide)
      have hv3 : a.tmps[26]? = some v3 := hv3
      obtain ⟨p1, q1, r1, rfl, hr1, hp1, hq1⟩ := hs3
      refine wp_K fun K hK => ?_
      go_simp
      exact hK _ _ (hI.put 4 27 _ rfl rfl ⟨_, rfl, ⟨p1, q1, r1, rfl, hr1, hp1, hq1⟩⟩)
    · intro L a w hl hd hI
      obtain ⟨v4, hv4, hs4⟩ := hI.vals 4 (hd ⟨4, .data⟩ (by simp)) (by decide)
      have hv4 : a.tmps[27]? = some v4 := hv4
      exact hI.ins hsz .j hl (hd ⟨0, .data⟩ (by simp)) hv4 hs4 rfl rfl
    · intro L a w hl hd hI
      have hs := hI.s3
      obtain ⟨mi, hmi, b0, b1, b2, b3, b4, b5⟩ := hI.base
      have hcs := cells_of_form b0
      clear b0 b1 b2 b3 b4
      obtain ⟨c0, c1, c2, c3, c4, c5, c6, c7, c8⟩ := hcs
      refine wp_K fun K hK => ?_
      go_simp
      exact hK _ _ (hI.put 6 28 _ rfl rfl ⟨mi, rfl, hmi⟩)
    · intro L a w hl hd hI
      obtain ⟨v6, hv6, hs6⟩ := hI.vals 6 (hd ⟨6, .data⟩ (by simp)) (by decide)
      have hv6 : a.tmps[28]? = some v6 := hv6
      exact hI.ins hsz .i hl (hd ⟨0, .data⟩ (by simp)) hv6 hs6 rfl rfl
    · intro L a w hl hd hI
      have hs := hI.s4
      obtain ⟨mi, hmi, b0, b1, b2, b3, b4, b5⟩ := hI.base
      have hcs := cells_of_form b1
      clear b0 b1 b2 b3 b4
      obtain ⟨c0, c1, c2, c3, c4, c5, c6, c7, c8⟩ := hcs
      refine wp_K fun K hK => ?_
      go_simp
      exact hK _ _ (hI.put 8 29 _ rfl rfl ⟨mi, rfl, hmi⟩)
    · intro L a w hl hd hI
      obtain ⟨v8, hv8, hs8⟩ := hI.vals 8 (hd ⟨8, .data⟩ (by simp)) (by decide)
      have hv8 : a.tmps[29]? = some v8 := hv8
      exact hI.ins hsz .load hl (hd ⟨0, .data⟩ (by simp)) hv8 hs8 rfl rfl
    · intro L a w hl hd hI
      refine wp_K fun K hK => ?_
      go_simp
      refine (within_any _ _ _).mono ?_
      rintro e w3 ⟨p1, q1, rfl, hp1, hq1, hb1⟩
      have hle := Nat.le_trans hbw.size hI.below.size
      exact hK _ _ ((hI.world hb1).put 10 30 _ rfl rfl ⟨p1, q1, rfl, hp1.mono hle, hq1.mono hle⟩)
    · intro L a w hl hd hI
      have hs := hI.s3
      refine wp_K fun K hK => ?_
      go_simp
      exact hK _ _ (hI.put 11 31 _ rfl rfl rfl)
    · intro L a w hl hd hI
      obtain ⟨v11, hv11, hs11⟩ := hI.vals 11 (hd ⟨11, .data⟩ (by simp)) (by decide)
      have hv11 : a.tmps[31]? = some v11 := hv11
      obtain rfl : v11 = _ := hs11
      obtain ⟨mi, hmi, b0, b1, b2, b3, b4, b5⟩ := hI.base
      have hcs := cells_of_form b0
      clear b0 b1 b2 b3 b4
      obtain ⟨c0, c1, c2, c3, c4, c5, c6, c7, c8⟩ := hcs
      refine wp_K fun K hK => ?_
      go_simp
      exact hK _ _ (hI.put 12 32 _ rfl rfl rfl)
    · intro L a w hl hd hI
      obtain ⟨v10, hv10, hs10⟩ := hI.vals 10 (hd ⟨10, .data⟩ (by simp)) (by decide)
      have hv10 : a.tmps[30]? = some v10 := hv10
      obtain ⟨p1, q1, rfl, hp1, hq1⟩ := hs10
      obtain ⟨v12, hv12, hs12⟩ := hI.vals 12 (hd ⟨12, .data⟩ (by simp)) (by decide)
      have hv12 : a.tmps[32]? = some v12 := hv12
      obtain rfl : v12 = .func (.func 50) #[] #[] := hs12
      refine wp_K fun K hK => ?_
      go_simp
      exact hK _ _ (hI.put 13 33 _ rfl rfl ⟨_, rfl, ⟨p1, q1, rfl, hp1, hq1⟩⟩)
    · intro L a w hl hd hI
      obtain ⟨v13, hv13, hs13⟩ := hI.vals 13 (hd ⟨13, .data⟩ (by simp)) (by decide)
      have hv13 : a.tmps[33]? = some v13 := hv13
      exact hI.ins hsz .shift hl (hd ⟨0, .data⟩ (by simp)) hv13 hs13 rfl rfl
    · intro L a w hl hd hI
      refine wp_K fun K hK => ?_
      go_simp
      refine (even_any _ _ _).mono ?_
      rintro e w3 ⟨p1, q1, r1, rfl, hr1, hp1, hq1, hb1⟩
      have hle := Nat.le_trans hbw.size hI.below.size
      exact hK _ _ ((hI.world hb1).put 15 34 _ rfl rfl ⟨p1, q1, r1, rfl, hr1.mono hle, hp1.mono hle, hq1.mono hle⟩)
    · intro L a w hl hd hI
      obtain ⟨v15, hv15, hs15⟩ := hI.vals 15 (hd ⟨15, .data⟩ (by simp)) (by decide)
      have hv15 : a.tmps[34]? = some v15 := hv15
      obtain ⟨p1, q1, r1, rfl, hr1, hp1, hq1⟩ := hs15
      refine wp_K fun K hK => ?_
      go_simp
      exact hK _ _ (hI.put 16 35 _ rfl rfl ⟨_, rfl, ⟨p1, q1, r1, rfl, hr1, hp1, hq1⟩⟩)
    · intro L a w hl hd hI
      obtain ⟨v16, hv16, hs16⟩ := hI.vals 16 (hd ⟨16, .data⟩ (by simp)) (by decide)
      have hv16 : a.tmps[35]? = some v16 := hv16
      exact hI.ins hsz .b hl (hd ⟨0, .data⟩ (by simp)) hv16 hs16 rfl rfl
    · intro L a w hl hd hI
      refine wp_K fun K hK => ?_
      go_simp
      refine (within_any _ _ _).mono ?_
      rintro e w3 ⟨p1, q1, rfl, hp1, hq1, hb1⟩
      have hle := Nat.le_trans hbw.size hI.below.size
      exact hK _ _ ((hI.world hb1).put 18 36 _ rfl rfl ⟨p1, q1, rfl, hp1.mono hle, hq1.mono hle⟩)
    · intro L a w hl hd hI
      obtain ⟨v18, hv18, hs18⟩ := hI.vals 18 (hd ⟨18, .data⟩ (by simp)) (by decide)
      have hv18 : a.tmps[36]? = some v18 := hv18
      obtain ⟨p1, q1, rfl, hp1, hq1⟩ := hs18
      refine wp_K fun K hK => ?_
      go_simp
      exact hK _ _ (hI.put 19 37 _ rfl rfl ⟨_, rfl, ⟨p1, q1, rfl, hp1, hq1⟩⟩)
    · intro L a w hl hd hI
      obtain ⟨v19, hv19, hs19⟩ := hI.vals 19 (hd ⟨19, .data⟩ (by simp)) (by decide)
      have hv19 : a.tmps[37]? = some v19 := hv19
      exact hI.ins hsz .s hl (hd ⟨0, .data⟩ (by simp)) hv19 hs19 rfl rfl
    · intro L a w hl hd hI
      have hs := hI.s5
      obtain ⟨mi, hmi, b0, b1, b2, b3, b4, b5⟩ := hI.base
      have hcs := cells_of_form b2
      clear b0 b1 b2 b3 b4
      obtain ⟨c0, c1, c2, c3, c4, c5, c6, c7, c8⟩ := hcs
      refine wp_K fun K hK => ?_
      go_simp
      exact hK _ _ (hI.put 21 38 _ rfl rfl ⟨noneV, rfl, rfl⟩)
    · intro L a w hl hd hI
      obtain ⟨v21, hv21, hs21⟩ := hI.vals 21 (hd ⟨21, .data⟩ (by simp)) (by decide)
      have hv21 : a.tmps[38]? = some v21 := hv21
      exact hI.ins hsz .r hl (hd ⟨0, .data⟩ (by simp)) hv21 hs21 rfl rfl
    · intro L a w hl hd hI
      refine wp_K fun K hK => ?_
      go_simp
      refine (within_any _ _ _).mono ?_
      rintro e w3 ⟨p1, q1, rfl, hp1, hq1, hb1⟩
      have hle := Nat.le_trans hbw.size hI.below.size
      exact hK _ _ ((hI.world hb1).put 23 39 _ rfl rfl ⟨p1, q1, rfl, hp1.mono hle, hq1.mono hle⟩)
    · intro L a w hl hd hI
      obtain ⟨v23, hv23, hs23⟩ := hI.vals 23 (hd ⟨23, .data⟩ (by simp)) (by decide)
      have hv23 : a.tmps[39]? = some v23 := hv23
      obtain ⟨p1, q1, rfl, hp1, hq1⟩ := hs23
      refine wp_K fun K hK => ?_
      go_simp
      exact hK _ _ (hI.put 24 40 _ rfl rfl ⟨_, rfl, ⟨p1, q1, rfl, hp1, hq1⟩⟩)
    · intro L a w hl hd hI
      obtain ⟨v24, hv24, hs24⟩ := hI.vals 24 (hd ⟨24, .data⟩ (by simp)) (by decide)
      have hv24 : a.tmps[40]? = some v24 := hv24
      exact hI.ins hsz .fence hl (hd ⟨0, .data⟩ (by simp)) hv24 hs24 rfl rfl
    · intro L a w hl hd hI
      have hs := hI.s1
      refine wp_K fun K hK => ?_
      go_simp
      exact hK _ _ (hI.put 26 41 _ rfl rfl rfl)
    · intro L a w hl hd hI
      have hs := hI.s1
      refine wp_K fun K hK => ?_
      go_simp
      exact hK _ _ (hI.put 27 42 _ rfl rfl rfl)
    · intro L a w hl hd hI
      obtain ⟨v26, hv26, hs26⟩ := hI.vals 26 (hd ⟨26, .data⟩ (by simp)) (by decide)
      have hv26 : a.tmps[41]? = some v26 := hv26
      obtain ⟨v27, hv27, hs27⟩ := hI.vals 27 (hd ⟨27, .data⟩ (by simp)) (by decide)
      have hv27 : a.tmps[42]? = some v27 := hv27
      obtain rfl : v26 = zeroF := hs26
      obtain rfl : v27 = zeroF := hs27
      refine wp_K fun K hK => ?_
      go_simp
      exact hK _ _ (hI.put 28 43 _ rfl rfl ⟨_, rfl, rfl⟩)
    · intro L a w hl hd hI
      obtain ⟨v28, hv28, hs28⟩ := hI.vals 28 (hd ⟨28, .data⟩ (by simp)) (by decide)
      have hv28 : a.tmps[43]? = some v28 := hv28
      exact hI.ins hsz .all hl (hd ⟨0, .data⟩ (by simp)) hv28 hs28 rfl rfl
    · intro L a w hl hd hI
      have hs := hI.s7
      obtain ⟨mi, hmi, b0, b1, b2, b3, b4, b5⟩ := hI.base
      have hcs := cells_of_form b4
      clear b0 b1 b2 b3 b4
      obtain ⟨c0, c1, c2, c3, c4, c5, c6, c7, c8⟩ := hcs
      refine wp_K fun K hK => ?_
      go_simp
      exact hK _ _ (hI.put 30 44 _ rfl rfl ⟨noneV, rfl, rfl⟩)
    · intro L a w hl hd hI
      obtain ⟨v30, hv30, hs30⟩ := hI.vals 30 (hd ⟨30, .data⟩ (by simp)) (by decide)
      have hv30 : a.tmps[44]? = some v30 := hv30
      exact hI.ins hsz .lr hl (hd ⟨0, .data⟩ (by simp)) hv30 hs30 rfl rfl
    · intro L a w hl hd hI
      have hs := hI.s6
      obtain ⟨mi, hmi, b0, b1, b2, b3, b4, b5⟩ := hI.base
      have hcs := cells_of_form b3
      clear b0 b1 b2 b3 b4
      obtain ⟨c0, c1, c2, c3, c4, c5, c6, c7, c8⟩ := hcs
      refine wp_K fun K hK => ?_
      go_simp
      exact hK _ _ (hI.put 32 45 _ rfl rfl ⟨noneV, rfl, rfl⟩)
    · intro L a w hl hd hI
      obtain ⟨v32, hv32, hs32⟩ := hI.vals 32 (hd ⟨32, .data⟩ (by simp)) (by decide)
      have hv32 : a.tmps[45]? = some v32 := hv32
      exact hI.ins hsz .a hl (hd ⟨0, .data⟩ (by simp)) hv32 hs32 rfl rfl
    · intro L a w hl hd hI
      have hs := hI.s1
      refine wp_K fun K hK => ?_
      go_simp
      exact hK _ _ (hI.put 34 46 _ rfl rfl rfl)
    · intro L a w hl hd hI
      have hs := hI.s1
      refine wp_K fun K hK => ?_
      go_simp
      exact hK _ _ (hI.put 35 47 _ rfl rfl rfl)
    · intro L a w hl hd hI
      obtain ⟨v34, hv34, hs34⟩ := hI.vals 34 (hd ⟨34, .data⟩ (by simp)) (by decide)
      have hv34 : a.tmps[46]? = some v34 := hv34
      obtain ⟨v35, hv35, hs35⟩ := hI.vals 35 (hd ⟨35, .data⟩ (by simp)) (by decide)
      have hv35 : a.tmps[47]? = some v35 := hv35
      obtain rfl : v34 = zeroF := hs34
      obtain rfl : v35 = zeroF := hs35
      refine wp_K fun K hK => ?_
      go_simp
      exact hK _ _ (hI.put 36 48 _ rfl rfl ⟨_, rfl, rfl⟩)
    · intro L a w hl hd hI
      obtain ⟨v36, hv36, hs36⟩ := hI.vals 36 (hd ⟨36, .data⟩ (by simp)) (by decide)
      have hv36 : a.tmps[48]? = some v36 := hv36
      exact hI.ins hsz .csr hl (hd ⟨0, .data⟩ (by simp)) hv36 hs36 rfl rfl
    · intro L a w hl hd hI
      obtain ⟨m, hm, _⟩ := hI.made (hd ⟨0, .data⟩ (by simp))
      have hmk := hI.mv (i := 38) (d := 49) (.inl ⟨rfl, rfl⟩) (hd ⟨0, .data⟩ (by simp)) hm
      refine wp_K fun K hK => ?_
      go_simp
      exact hK _ _ hmk
    · intro L a w hl hd hI
      obtain ⟨m, hm, h38, _⟩ := hI.made (hd ⟨0, .phase⟩ (by simp))
      have h49 := h38 (hd ⟨38, .data⟩ (by simp))
      have hmk := hI.mv (i := 39) (d := 0) (.inr ⟨rfl, rfl⟩) (hd ⟨0, .phase⟩ (by simp)) hm
      refine wp_K fun K hK => ?_
      go_simp
      exact hK _ _ hmk

end Go.Proofs.YtamilahkdinjkaaDoor
