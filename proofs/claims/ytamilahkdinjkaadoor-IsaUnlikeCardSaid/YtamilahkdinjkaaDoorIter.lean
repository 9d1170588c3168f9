/-
  isa.rows: the iterator over the Ops: what it hands to a round, whatever the round.
-/
import Derived.Test.YtamilahkdinjkaaDoorForms
import Derived.Test.YtamilahkdinjkaaDoorTab
import Derived.Test.YtamilahkdinjkaaDoorShelf
import Derived.RangeFuncNested
import Derived.RangeFuncBound
import Derived.RangeFuncCalls
import Derived.RangeFuncLeaves
import Derived.Shelf.RegionOpen
import Derived.OwnWalkIn
import Derived.TacticsInMore
import Derived.LoopNIn
import Derived.LoopIn
import Derived.Outline
import Derived.Lib.Hide
namespace Go.Proofs.YtamilahkdinjkaaDoor
set_option linter.unusedVariables false
set_option linter.unusedSimpArgs false
open Go.RowKit Go.Shelf

def rowC (k : Nat) (mv : Value) : Array Value := #[.int .i64 (k + 1), .string (nameK k), .int .u32 (maskZ (formK k)), .bool (rdZ (formK k)), .bool (rs1Z (formK k)), .bool (rs2Z (formK k)), .bool (aZ (formK k)), mv,
  .func (.func (putN (formK k))) #[] #[], .func (.func (takeN (formK k))) #[] #[], .func (.func (toldN (formK k))) #[] #[], .int .u32 (bitsK k)]
def RowOK (b0 k : Nat) (v : Value) (w : World) : Prop := ∃ mv, v = .agg (rowC k mv) ∧ MayOK b0 (formK k) mv w
theorem RowOK.keep {b0 k : Nat} {v : Value} {w w' : World} (h : RowOK b0 k v w) (hb : HeldFrom b0 w w') : RowOK b0 k v w' := by
  obtain ⟨mv, h1, h2⟩ := h
  exact ⟨mv, h1, h2.keep hb⟩

theorem FormsMap.keep {b0 m : Nat} {w w' : World} (h : FormsMap b0 m w) (hb : HeldFrom b0 w w') (hm : w'.heap[m]? = w.heap[m]?) : FormsMap b0 m w' := by
  obtain ⟨es, clock, h1, h2, h3⟩ := h
  exact ⟨es, clock, hm.trans h1, fun e he => (h2 e he).imp fun f hf => ⟨hf.1, hf.2.keep hb⟩, h3⟩

theorem FormsMap.lookup {b0 m : Nat} {w : World} (h : FormsMap b0 m w) (f : Fm) : ∃ mv, MayOK b0 f mv w ∧
    (Instr.lookup 71 (.map (some m)) (.string (keyF f)) false).run Tryd.prog w = .ok (.agg (formC f mv)) w := by
  obtain ⟨es, clock, hh, he1, he2⟩ := h
  have hks : ∀ x ∈ es.toList, MapKept.IsKey .string x.key := fun x hx => by
    obtain ⟨g, hk, _⟩ := he1 x hx; rw [hk]; trivial
  have hkey : MapKept.IsKey .string (.string (keyF f)) := trivial
  rcases MapKept.findNow_spec hkey es.toList 0 hks with ⟨_, h2⟩ | ⟨j, e, h1, h2, h3⟩
  · exfalso
    obtain ⟨e, he, hk⟩ := he2 f
    exact h2 e he hk
  · obtain ⟨g, hk, mv, hv, hmv⟩ := he1 e (List.mem_of_getElem? h2)
    obtain rfl : g = f := by rw [hk] at h3; exact keyF_inj (by simpa using h3)
    refine ⟨mv, hmv, ?_⟩
    have hv' : e.val = .agg (formC g mv) := hv
    simp [Instr.lookup, run_underlying Tryd.underlying71, MapKept.run_getObj_map hh, MapKept.run_checkKey Tryd.underlying9 hkey, MapKept.run_findKey Tryd.underlying9 h1, Result.andThen, hv']

theorem MayOK.mono {B B' : Nat} {f : Fm} {v : Value} {w : World} (h : MayOK B f v w) (hb : B' ≤ B) : MayOK B' f v w := by
  cases f
  case u | r | all | lr | a | csr => exact h
  case j | b =>
    obtain ⟨p, q, r, h1, h2, h3, h4⟩ := h
    exact ⟨p, q, r, h1, h2.mono hb, h3.mono hb, h4.mono hb⟩
  all_goals
    obtain ⟨p, q, h1, h2, h3⟩ := h
    exact ⟨p, q, h1, h2.mono hb, h3.mono hb⟩
theorem FormsMap.mono {b0 b1 m : Nat} {w : World} (h : FormsMap b0 m w) (hb : b1 ≤ b0) : FormsMap b1 m w := by
  obtain ⟨es, clock, h1, h2, h3⟩ := h
  exact ⟨es, clock, h1, fun e he => (h2 e he).imp fun f hf => ⟨hf.1, hf.2.imp fun mv hm => ⟨hm.1, hm.2.mono hb⟩⟩, h3⟩

/-- What a round keeps of the iterator's. -/
structure KA (b0 : Nat) (w w' : World) : Prop where
  size : w.heap.size ≤ w'.heap.size
  block : ∀ r, b0 ≤ r → r < w.heap.size → w'.heap[r]? = w.heap[r]?
/-- What a step of the iterator keeps: all but its own count. -/
structure KB (b0 nB : Nat) (w w' : World) : Prop where
  size : w.heap.size ≤ w'.heap.size
  block : ∀ r, b0 ≤ r → r < w.heap.size → r ≠ nB → w'.heap[r]? = w.heap[r]?
theorem KA.kb {b0 : Nat} {w w' : World} (h : KA b0 w w') (nB : Nat) : KB b0 nB w w' := ⟨h.size, fun r h1 h2 _ => h.block r h1 h2⟩
theorem KB.trans {b0 nB : Nat} {a b c : World} (h : KB b0 nB a b) (k : KB b0 nB b c) : KB b0 nB a c :=
  ⟨Nat.le_trans h.size k.size, fun r h1 h2 h3 => (k.block r h1 (Nat.lt_of_lt_of_le h2 h.size) h3).trans (h.block r h1 h2 h3)⟩
theorem KB.refl (b0 nB : Nat) (w : World) : KB b0 nB w w := ⟨Nat.le_refl _, fun _ _ _ _ => rfl⟩
theorem KB.of_below {b0 nB : Nat} {w w' : World} (h : Below w.heap.size w w') : KB b0 nB w w' := ⟨h.size, fun r _ h2 _ => h.block r h2⟩

/-- Where the iterator stands: k rows have come. -/
structure ISt (b0 : Nat) (Wf : World) (m nB yB fB l k : Nat) (W : World) : Prop where
  forms : FormsMap b0 m Wf
  hm : b0 ≤ m
  same : ∀ r, b0 ≤ r → r < Wf.heap.size → W.heap[r]? = Wf.heap[r]?
  sz : Wf.heap.size ≤ W.heap.size
  nb : Wf.heap.size ≤ nB
  bf : b0 ≤ Wf.heap.size
  yb : b0 ≤ yB
  fb : b0 ≤ fB
  ny : nB ≠ yB
  nf : nB ≠ fB
  n : W.heap[nB]? = some (.cells #[.int .i64 k] 23 (0, 0))
  y : W.heap[yB]? = some (.cells #[.func (.yield l) #[] #[]] 70 (0, 0))
  f : W.heap[fB]? = some (.cells #[.map (some m)] 71 (0, 0))

theorem ISt.held {b0 : Nat} {Wf : World} {m nB yB fB l k : Nat} {W : World} (h : ISt b0 Wf m nB yB fB l k W) : HeldFrom b0 Wf W := fun p v hB hp => by
  have hlt := cell_lt hp
  exact (World.cell?_of_block (h.same p.block hB hlt)).trans hp
theorem FormsMap.lt {b0 m : Nat} {w : World} (h : FormsMap b0 m w) : m < w.heap.size := by
  obtain ⟨es, clock, h1, _⟩ := h
  exact (Array.getElem?_eq_some_iff.1 h1).1
theorem ISt.fm {b0 : Nat} {Wf : World} {m nB yB fB l k : Nat} {W : World} (h : ISt b0 Wf m nB yB fB l k W) : FormsMap b0 m W :=
  h.forms.keep h.held (h.same m h.hm h.forms.lt)
theorem ISt.kb {b0 : Nat} {Wf : World} {m nB yB fB l k j : Nat} {W W' : World} (h : ISt b0 Wf m nB yB fB l k W) (hk : KB b0 nB W W') (hn : W'.heap[nB]? = some (.cells #[.int .i64 j] 23 (0, 0))) : ISt b0 Wf m nB yB fB l j W' := by
  have hlt : ∀ {r : Nat} {o : Obj}, W.heap[r]? = some o → r < W.heap.size := fun h => (Array.getElem?_eq_some_iff.1 h).1
  exact ⟨h.forms, h.hm, fun r h1 h2 => (hk.block r h1 (Nat.lt_of_lt_of_le h2 h.sz) (by have := h.nb; omega)).trans (h.same r h1 h2), Nat.le_trans h.sz hk.size, h.nb, h.bf, h.yb, h.fb, h.ny, h.nf, hn,
    (hk.block _ h.yb (hlt h.y) (Ne.symm h.ny)).trans h.y, (hk.block _ h.fb (hlt h.f) (Ne.symm h.nf)).trans h.f⟩

attribute [local go_sem] Oper.semAt_some

/-- What the iterator asks of a round. -/
def Rounds (l b0 : Nat) (J : Nat → World → Prop) (Jx : World → Prop) : Prop := ∀ (k : Nat) (v : Value) (W : World), k < 59 → J k W → b0 ≤ W.heap.size → RowOK b0 k v W →
  ∀ n, YieldAt Fence.wide n Tryd.prog l #[v] W fun e W' => (e = .returned (.bool true) ∧ J (k + 1) W' ∧ KA b0 W W') ∨ (e = .returned (.bool false) ∧ Jx W')
def AbideB (b0 : Nat) (J : Nat → World → Prop) : Prop := ∀ k W W', J k W → Below b0 W W' → J k W'
def AbideX (Jx : World → Prop) : Prop := ∀ W W', Jx W → Below W.heap.size W W' → Jx W'

theorem cells_one {w : World} {b : Nat} {v : Value} {t : TypeId} (h : w.heap[b]? = some (.cells #[v] t (0, 0))) : w.cell? ⟨b, 0, none⟩ = some v ∧ w.frozen? ⟨b, 0, none⟩ = false := by
  simp [World.cell?, World.frozen?, h]

set_option maxRecDepth 100000 in
set_option maxHeartbeats 2000000 in
theorem add_in {b0 : Nat} {Wf : World} {m nB yB fB l k : Nat} {W : World} {J : Nat → World → Prop} {Jx : World → Prop} (hR : Rounds l b0 J Jx) (hJ : AbideB b0 J) (hJx : AbideX Jx) (hk : k < 59)
    (hS : ISt b0 Wf m nB yB fB l k W) (hJk : J k W) (sB : Nat) (hs : W.heap[sB]? = some (.cells #[.string (nameK k)] 9 (0, 0))) (n : Nat) :
    CallsIn Fence.wide n Tryd.prog 37 #[.string (keyF (formK k)), .int .u32 (bitsK k), .slice (some ⟨sB, 0, none⟩) 1 1, .pointer (some ⟨nB, 0, none⟩), .pointer (some ⟨yB, 0, none⟩), .pointer (some ⟨fB, 0, none⟩)] W fun e W' =>
      (e = .returned (.bool true) ∧ ISt b0 Wf m nB yB fB l (k + 1) W' ∧ J (k + 1) W' ∧ KB b0 nB W W') ∨ (e = .returned (.bool false) ∧ Jx W') := by
  have hsn : sB ≠ nB := fun e => by rw [e, hS.n] at hs; simp at hs
  have hc1 := (cells_one hs).1
  have hc2 := (cells_one hS.n).1
  have hc3 := (cells_one hS.n).2
  have hc4 := (cells_one hS.y).1
  have hc5 := (cells_one hS.f).1
  have hnlt : nB < W.heap.size := (Array.getElem?_eq_some_iff.1 hS.n).1
  have hbn : b0 ≤ nB := Nat.le_trans hS.bf hS.nb
  obtain ⟨W1, hW1⟩ : ∃ W1, W1 = W.setCell ⟨nB, 0, none⟩ (.int .i64 (k + 1)) := ⟨_, rfl⟩
  have hn1 : W1.heap[nB]? = some (.cells #[.int .i64 ((k + 1 : Nat) : Int)] 23 (0, 0)) := by
    rw [hW1]
    simp only [World.setCell, Array.getElem?_modify, if_pos, hS.n]
    simp
  have hkb1 : KB b0 nB W W1 := ⟨by rw [hW1]; simp [World.setCell], fun r _ _ hr => by rw [hW1]; exact Below.heap_setCell _ _ _ _ hr⟩
  have hS1 := hS.kb hkb1 hn1
  have hJ1 : J k W1 := hJ _ _ _ hJk (by rw [hW1]; exact (Below.refl _ _).setCell hbn _)
  obtain ⟨mv, hmv, hlk⟩ := hS1.fm.lookup (formK k)
  obtain ⟨fn, tmps, assign, body, hy, hRd⟩ := hR k (.agg (rowC k mv)) W1 hk hJ1 (Nat.le_trans hS1.bf hS1.sz) ⟨mv, rfl, hmv⟩ (n - 1)
  unfold rowC at hy
  unfold formC at hlk
  have hsz1 := hkb1.size
  rw [hW1] at hy hlk
  have ny := hS.ny
  have nf := hS.nf
  have ny' := hS.ny.symm
  have nf' := hS.nf.symm
  clear hS hR hJ hn1 hmv hJk hs hJ1
  refine callsIn_of_wp Tryd.func37 rfl trivial ?_ rfl
  simp only [Tryd.ntmps37, List.size_toArray, List.length_cons, List.length_nil, Nat.reduceAdd, Nat.reduceSub, Array.replicate_succ, Array.replicate_zero, List.push_toArray, List.append_toArray, List.nil_append, List.cons_append]
  gi_wp2
  refine wpIn_loop_rounds 2 ?_
  rw [roundsIn_succ]
  gi_wp2
  refine ⟨by simp [Fence.wide], ?_⟩
  rw [hW1] at hRd
  refine hRd.mono ?_
  rintro e W2 (⟨rfl, hJ2, hka⟩ | ⟨rfl, hx⟩)
  · rw [← hW1] at hka
    have hkb2 := hkb1.trans (hka.kb nB)
    have hS2 := hS1.kb (hka.kb nB) ((hka.block nB hbn (by have := hkb1.size; omega)).trans hS1.n)
    clear hRd hy hlk hka hkb1
    gi_wp2
    rw [roundsIn_succ]
    gi_wp2
    go_ret
    exact .inl ⟨rfl, hS2, hJ2, hkb2⟩
  · clear hRd hy hlk
    gi_wp2
    go_ret
    exact .inr ⟨rfl, hx⟩

theorem add_at {b0 : Nat} {Wf : World} {m nB yB fB l k : Nat} {W : World} {J : Nat → World → Prop} {Jx : World → Prop} (hR : Rounds l b0 J Jx) (hJ : AbideB b0 J) (hJx : AbideX Jx) (hk : k < 59)
    (hS : ISt b0 Wf m nB yB fB l k W) (hJk : J k W) {f : Fm} (hf : formK k = f) {bb : Int} (hb : bitsK k = bb) {nm : ByteArray} (hn : nameK k = nm) (sB : Nat) (hs : W.heap[sB]? = some (.cells #[.string nm] 9 (0, 0))) (n : Nat) :
    CallsIn Fence.wide n Tryd.prog 37 #[.string (keyF f), .int .u32 bb, .slice (some ⟨sB, 0, none⟩) 1 1, .pointer (some ⟨nB, 0, none⟩), .pointer (some ⟨yB, 0, none⟩), .pointer (some ⟨fB, 0, none⟩)] W fun e W' =>
      (e = .returned (.bool true) ∧ ISt b0 Wf m nB yB fB l (k + 1) W' ∧ J (k + 1) W' ∧ KB b0 nB W W') ∨ (e = .returned (.bool false) ∧ Jx W') := by
  subst hf hb hn
  exact add_in hR hJ hJx hk hS hJk sB hs n

theorem lt_of_heap {w : World} {r : Nat} {o : Obj} (h : w.heap[r]? = some o) : r < w.heap.size := (Array.getElem?_eq_some_iff.1 h).1

/-- The table that strings.Fields reads. -/
def Tab (w : World) : Prop := Lib.TabIs Tryd.prog w "strings.asciiSpace" .u8 Lib.asciiSpaceTab

end Go.Proofs.YtamilahkdinjkaaDoor
