/-
  isa.Decode: which instruction a word is.
-/
import Derived.Test.YtamilahkdinjkaaDoorOf
import Derived.Test.YtamilahkdinjkaaDoorIns
import Derived.LoopN
import Derived.Deep.RegionHeld3
namespace Go.Proofs.YtamilahkdinjkaaDoor
set_option linter.unusedVariables false
set_option linter.unusedSimpArgs false
open Go.RowKit Go.Shelf
attribute [local go_sem] Oper.semAt_some

/-- The scope of a function with a label, in the wide fence. -/
theorem wpIn_scope_wide {P : Program} {Q : Exit → Act → World → Prop} {a : Act} {w : World} {n : Nat} {c : Code} (h : c.wpIn Fence.wide n P (Exit.noGoto Q) a w) : (Code.scope c).wpIn Fence.wide n P Q a w :=
  wpIn_wide.2 (wp_scope_straight (wpIn_wide.1 h))

theorem below_drewN {B : Nat} {w w' : World} (h : Below B w w') (q : Nat) : Below B w (w'.drewN q) := ⟨h.os, h.tape, h.output, h.size, h.block⟩

/-- Where all ways through a piece of code meet again. -/
def Meet (fr : Act) (Wf : Nat → World) : Exit → Act → World → Prop := fun e a w => e = .normal ∧ a = fr ∧ ∃ m, w = Wf m
theorem wp_meet {P : Program} {Q : Exit → Act → World → Prop} {c : Code} {a : Act} {w : World} {fr : Act} {Wf : Nat → World} (h : c.wp P (Meet fr Wf) a w) (k : ∀ m, Q .normal fr (Wf m)) : c.wp P Q a w :=
  Code.wp_mono (fun e a w ⟨h1, h2, m, h3⟩ => by subst h1 h2 h3; exact k m) h

theorem putAt_inst {w : World} {B : Nat} {t : TypeId} {c0 c1 c2 c3 c4 c5 c6 : Value} (h : w.heap[B]? = some (.cells #[c0, c1, c2, c3, c4, c5, c6] t (0, 0))) (v0 v1 v2 v3 v4 v5 v6 : Value) :
    PutAt B (.cells #[v0, v1, v2, v3, v4, v5, v6] t (0, 0)) w (((((((w.setCell ⟨B, 0, none⟩ v0).setCell ⟨B, 1, none⟩ v1).setCell ⟨B, 2, none⟩ v2).setCell ⟨B, 3, none⟩ v3).setCell ⟨B, 4, none⟩ v4).setCell ⟨B, 5, none⟩ v5).setCell ⟨B, 6, none⟩ v6) := by
  have := ((((((PutAt.refl h).set 0 v0).set 1 v1).set 2 v2).set 3 v3).set 4 v4).set 5 v5 |>.set 6 v6
  simpa using this
/-- The same, as far as the loop over the registers has come. -/
def instJ (k : Nat) (c : Int) (j : Nat) : Inst :=
  ⟨k + 1, if decide (0 < j) && rdZ (formK k) then c / 128 % 32 else 0, if decide (1 < j) && rs1Z (formK k) then c / 32768 % 32 else 0, if decide (2 < j) && rs2Z (formK k) then c / 1048576 % 32 else 0, takeZ (formK k) c, false, false⟩
/-- The three registers' slots. -/
def slotsV (k B : Nat) : Array Value := #[.bool (rdZ (formK k)), .pointer (some ⟨B, 1, none⟩), .int .i64 7, .bool (rs1Z (formK k)), .pointer (some ⟨B, 2, none⟩), .int .i64 15, .bool (rs2Z (formK k)), .pointer (some ⟨B, 3, none⟩), .int .i64 20]
/-- What holds between two rounds of that loop. -/
structure LSt (k : Nat) (c : Int) (mv : Value) (w : World) (B j : Nat) (wr : World) : Prop where
  hc : wr.heap[w.heap.size]? = some (.cells #[.int .u32 c] 22 (0, 0))
  hz : wr.heap[w.heap.size + 1]? = some (.cells zeroI.val 25 (0, 0))
  hr : wr.heap[w.heap.size + 1 + 1]? = some (.cells (rowC k mv) 51 (0, 0))
  hd : wr.heap[w.heap.size + 1 + 1 + 1]? = some (.deferred (some []))
  hb : Below w.heap.size w wr
  hi : wr.heap[B]? = some (.cells (instJ k c j).val 25 (0, 0))
  hs : wr.heap[B + 1]? = some (.cells (slotsV k B) 56 (0, 0))
  hB : w.heap.size + 1 + 1 + 1 + 1 < B
  hn : B + 1 < wr.heap.size
theorem LSt.grow {k : Nat} {c : Int} {mv : Value} {w : World} {B j : Nat} {wr wr' : World} (h : LSt k c mv w B j wr) (hb : Below wr.heap.size wr wr') : LSt k c mv w B j wr' := by
  have h1 := h.hB
  have h2 := h.hn
  have h3 := h.hb.size
  exact ⟨(hb.block _ (by omega)).trans h.hc, (hb.block _ (by omega)).trans h.hz, (hb.block _ (by omega)).trans h.hr, (hb.block _ (by omega)).trans h.hd, h.hb.trans (hb.mono h3), (hb.block _ (by omega)).trans h.hi, (hb.block _ (by omega)).trans h.hs, h1, Nat.lt_of_lt_of_le h2 hb.size⟩
theorem LSt.to {k : Nat} {c : Int} {mv : Value} {w : World} {B j j' : Nat} {wr : World} (h : LSt k c mv w B j wr) (he : instJ k c j' = instJ k c j) : LSt k c mv w B j' wr :=
  ⟨h.hc, h.hz, h.hr, h.hd, h.hb, he ▸ h.hi, h.hs, h.hB, h.hn⟩
theorem LSt.put {k : Nat} {c : Int} {mv : Value} {w : World} {B j j' : Nat} {wr : World} (h : LSt k c mv w B j wr) (i : Nat) (v : Value) (he : (instJ k c j').val = (instJ k c j).val.setIfInBounds i v) : LSt k c mv w B j' (wr.setCell ⟨B, i, none⟩ v) := by
  have p := (PutAt.refl h.hi).set i v
  have h1 := h.hB
  exact ⟨(p.block _ (by omega)).trans h.hc, (p.block _ (by omega)).trans h.hz, (p.block _ (by omega)).trans h.hr, (p.block _ (by omega)).trans h.hd, h.hb.trans (p.below (by omega)), he ▸ p.here, (p.block _ (by omega)).trans h.hs, h1, by rw [p.size]; exact h.hn⟩
theorem cells_slots {w : World} {B k b : Nat} {t : TypeId} (h : w.heap[B]? = some (.cells (slotsV k b) t (0, 0))) :
    w.cell? ⟨B, 0, none⟩ = some (.bool (rdZ (formK k))) ∧ w.cell? ⟨B, 1, none⟩ = some (.pointer (some ⟨b, 1, none⟩)) ∧ w.cell? ⟨B, 2, none⟩ = some (.int .i64 7) ∧
      w.cell? ⟨B, 3, none⟩ = some (.bool (rs1Z (formK k))) ∧ w.cell? ⟨B, 4, none⟩ = some (.pointer (some ⟨b, 2, none⟩)) ∧ w.cell? ⟨B, 5, none⟩ = some (.int .i64 15) ∧
      w.cell? ⟨B, 6, none⟩ = some (.bool (rs2Z (formK k))) ∧ w.cell? ⟨B, 7, none⟩ = some (.pointer (some ⟨b, 3, none⟩)) ∧ w.cell? ⟨B, 8, none⟩ = some (.int .i64 20) := by
  simp [World.cell?, h, slotsV]
theorem cell_new {w : World} {cs : Array Value} {t : TypeId} {B i : Nat} (h : B = w.heap.size) : (w.alloc (.cells cs t)).cell? ⟨B, i, none⟩ = cs[i]? := by
  subst h
  have := World.alloc_heap_new w (.cells cs t)
  unfold World.cell?
  rw [this]
  rfl
theorem wrap_small (n : Int) (h0 : 0 ≤ n) (h1 : n < 32) : IntKind.i64.wrap n = n := by
  simp [IntKind.wrap, IntKind.bits, IntKind.signed]; omega
theorem part_r (n hi lo q : Int) (w : World) (h0 : 0 ≤ n) (h1 : n < 4294967296) (hl : 0 ≤ lo) (hk : hi = lo + 4) (hh : hi < 32) (hq : 2 ^ lo.toNat = q) :
    Calls Tryd.prog 21 #[.int .u32 n, .int .i64 hi, .int .i64 lo] w fun e w' => e = .returned (.int .u32 (n / q % 32)) ∧ ∃ k, w' = w.drewN k := by
  have h := part_int n hi lo w h0 h1 hl (by omega) hh
  have e : hi.toNat - lo.toNat + 1 = 5 := by omega
  rw [hq, e] at h
  exact h
theorem part_b (n hi : Int) (w : World) (h0 : 0 ≤ n) (h1 : n < 4294967296) (hl : 0 ≤ hi) (hh : hi < 32) :
    Calls Tryd.prog 21 #[.int .u32 n, .int .i64 hi, .int .i64 hi] w fun e w' => e = .returned (.int .u32 (n / pw hi % 2)) ∧ ∃ k, w' = w.drewN k := by
  have h := part_int n hi hi w h0 h1 hl (by omega) hh
  have e : hi.toNat - hi.toNat + 1 = 1 := by omega
  rw [e] at h
  exact h

set_option maxRecDepth 100000 in
set_option maxHeartbeats 4000000 in
theorem decode_any (c : Int) (w : World) (hT : Tab w) (h0 : 0 ≤ c) (hlt : c < 4294967296) :
    Calls Tryd.prog 10 #[.int .u32 c] w fun e w' => Below w.heap.size w w' ∧
      ((∃ k : Nat, k < 59 ∧ hitK c k = true ∧ (∀ j : Nat, j < k → hitK c j = false) ∧ e = .returned (.tuple #[.agg (decI k c).val, .bool true])) ∨
      ((∀ j : Nat, j < 59 → hitK c j = false) ∧ e = .returned (.tuple #[.agg zeroI.val, .bool false]))) := by
  refine (callsIn_wide (n := 10)).1 ?_
  have hfn : ∀ f : FuncId, Fence.wide.fn f = True := fun _ => rfl
  have hwd : Fence.wide.depth = none := rfl
  refine callsIn_of_wp_marks Tryd.func10 rfl trivial ?_ rfl
  simp only [Tryd.ntmps10, List.size_toArray, List.length_cons, List.length_nil, Nat.reduceAdd, Nat.reduceSub, Array.replicate_succ, Array.replicate_zero, List.push_toArray, List.append_toArray, List.nil_append, List.cons_append]
  gi_wp2
  refine wpIn_scope_wide ?_
  gi_wp2
  refine wpIn_label ?_
  gi_wp2_with (gi_at_call 20; refine (callsIn_wide.2 (rows_any _)).mono ?_; rintro e w' ⟨rfl, rfl⟩)
  refine wpIn_range_rows rfl rfl
    (fun k W => (∀ j : Nat, j < k → hitK c j = false) ∧ Below w.heap.size w W ∧ W.heap[w.heap.size]? = some (.cells #[.int .u32 c] 22 (0, 0)) ∧ W.heap[w.heap.size + 1]? = some (.cells zeroI.val 25 (0, 0)) ∧ W.heap[w.heap.size + 1 + 1]? = some (.cells zeroRow 51 (0, 0)))
    (fun co W => co = .exit 0 ∧ ∃ (k : Nat) (mv : Value), k < 59 ∧ hitK c k = true ∧ (∀ j : Nat, j < k → hitK c j = false) ∧ Below w.heap.size w W ∧ W.heap[w.heap.size]? = some (.cells #[.int .u32 c] 22 (0, 0)) ∧ W.heap[w.heap.size + 1]? = some (.cells zeroI.val 25 (0, 0)) ∧
      W.heap[w.heap.size + 1 + 1]? = some (.cells (rowC k mv) 51 (0, 0)))
    ?_ ?_ ?_ ?_ ?_ ?_ ?_
  · rintro k W W' ⟨h1, h2, h3, h4, h5⟩ hb
    simp only [World.size_alloc] at hb
    exact ⟨h1, h2.trans (hb.mono (by omega)), (hb.block _ (by omega)).trans h3, (hb.block _ (by omega)).trans h4, (hb.block _ (by omega)).trans h5⟩
  · rintro co W W' ⟨rfl, k, mv, h1, h2, h3, h4, h5, h6, h7⟩ hs hk
    simp only [World.size_alloc] at hs hk
    exact ⟨rfl, k, mv, h1, h2, h3, h4.trans ((hk.below (by omega)).mono (by omega)), (hk.block _ (by omega) (by omega) (by omega)).trans h5, (hk.block _ (by omega) (by omega) (by omega)).trans h6, (hk.block _ (by omega) (by omega) (by omega)).trans h7⟩
  · rintro k W ⟨_, h2, _⟩
    exact hT.below h2
  · refine ⟨fun j hj => by omega, (((Below.refl _ w).alloc (Nat.le_refl _) _).alloc (by simp) _).alloc (by simp; omega) _, ?_, ?_, ?_⟩
    · exact ((Below.heap_alloc _ _ _ (by simp; omega)).trans (Below.heap_alloc _ _ _ (by simp))).trans (World.alloc_heap_new _ _)
    · refine (Below.heap_alloc _ _ _ (by simp)).trans ?_
      have := World.alloc_heap_new (w.alloc (.cells #[.int .u32 c] 22)) (.cells zeroI.val 25)
      rwa [World.size_alloc] at this
    · have := World.alloc_heap_new ((w.alloc (.cells #[.int .u32 c] 22)).alloc (.cells zeroI.val 25)) (.cells zeroRow 51)
      rwa [World.size_alloc, World.size_alloc] at this
  · intro l k v W n' hk hi hrow hsz
    obtain ⟨mv, rfl, hmv⟩ := hrow
    obtain ⟨mk, mcap, hmk⟩ := hmv.fn
    subst hmk
    unfold rowC
    obtain ⟨h1, h2, h3, h4, h5⟩ := hi
    simp only [World.size_alloc] at hmv hsz
    have hbw : Below W.heap.size W (W.alloc (.cells (rowC k (.func (.func mk) #[] mcap)) 51)) := (Below.refl _ _).alloc (Nat.le_refl _) _
    have hnew := World.alloc_heap_new W (.cells (rowC k (.func (.func mk) #[] mcap)) 51)
    gi_wp2
    refine ⟨hbw, ?_⟩
    intro w2 hs2 hsame hkp
    simp only [World.size_alloc] at hs2 hsame hkp
    have b0 : w2.heap[W.heap.size]? = some (.cells (rowC k (.func (.func mk) #[] mcap)) 51 (0, 0)) := (hsame _ (by omega)).trans hnew
    have b1 : w2.heap[w.heap.size]? = some (.cells #[.int .u32 c] 22 (0, 0)) := ((hsame _ (by omega)).trans (hbw.block _ (by omega))).trans h3
    have b2 : w2.heap[w.heap.size + 1]? = some (.cells zeroI.val 25 (0, 0)) := ((hsame _ (by omega)).trans (hbw.block _ (by omega))).trans h4
    have b3 : w2.heap[w.heap.size + 1 + 1]? = some (.cells zeroRow 51 (0, 0)) := ((hsame _ (by omega)).trans (hbw.block _ (by omega))).trans h5
    have hbelow : Below w.heap.size w w2 := h2.trans ((hbw.mono (by omega)).trans ((hkp.below (by simp; omega)).mono (by omega)))
    have c0 := cells_row b0
    have hsz2 : W.heap.size < w2.heap.size := by omega
    clear hnew hsame hkp hmv hbw h2 h3 h4 h5 hs2
    obtain ⟨d0, d1, d2, d3, d4, d5, d6, d7, d8, d9, d10, d11⟩ := c0
    have e1 := (cells_one b1).1
    have z := cells_zrow b3
    obtain ⟨z0, z1, z2, z3, z4, z5, z6, z7, z8, z9, z10, z11⟩ := z
    have f2 := free_of b3
    by_cases hop : (bits .and .u32 c (maskZ (formK k)) == bitsK k) = true
    · gi_wp2
      have p1 := putAt_row b3 (.int .i64 (k + 1)) (.string (nameK k)) (.int .u32 (maskZ (formK k))) (.bool (rdZ (formK k))) (.bool (rs1Z (formK k))) (.bool (rs2Z (formK k))) (.bool (aZ (formK k))) (.func (.func mk) #[] mcap)
        (.func (.func (putN (formK k))) #[] #[]) (.func (.func (takeN (formK k))) #[] #[]) (.func (.func (toldN (formK k))) #[] #[]) (.int .u32 (bitsK k))
      have hka := p1.ka (D := w.heap.size + 1 + 1 + 1) (by omega)
      exact ⟨(by simpa using hka), rfl, k, .func (.func mk) #[] mcap, hk, hop, h1, hbelow.trans (p1.below (by omega)), (p1.block _ (by omega)).trans b1, (p1.block _ (by omega)).trans b2, p1.here⟩
    · have hbeq : (bits .and .u32 c (maskZ (formK k)) == bitsK k) = false := by simpa using hop
      gi_wp2
      refine ⟨⟨Nat.le_refl _, fun _ _ _ => rfl⟩, fun j hj => ?_, hbelow, b1, b2, b3⟩
      rcases Nat.lt_succ_iff_lt_or_eq.1 hj with h | rfl
      · exact h1 j h
      · exact hbeq
  · rintro W ⟨h1, h2, h3, h4, h5⟩ hd
    have c2 := cells_zrow h5
    obtain ⟨d0, d1, d2, d3, d4, d5, d6, d7, d8, d9, d10, d11⟩ := c2
    have f2 := free_of h4
    have hd' : W.heap[w.heap.size + 1 + 1 + 1]? = some (.deferred (some [])) := by simpa using hd
    obtain ⟨g0, g1, g2, g3, g4, g5, g6⟩ := cells_inst h4
    simp only [zeroI] at g0 g1 g2 g3 g4 g5 g6
    gi_wp2
    have p1 := putAt_inst h4 (.int .i64 0) (.int .i64 0) (.int .i64 0) (.int .i64 0) (.int .u32 0) (.bool false) (.bool false)
    have hd2 := (p1.block (w.heap.size + 1 + 1 + 1) (by omega)).trans hd'
    have hb2 : Below w.heap.size w _ := h2.trans (p1.below (by omega))
    have hq2 := p1.here
    generalize World.setCell _ ⟨w.heap.size + 1, 6, none⟩ _ = W9 at *
    rw [Exit.noGoto_ret]
    change bodyPostM Fence.wide 10 Tryd.prog Tryd.f10 _ Exit.ret _ _
    refine ⟨by simp, .inl ⟨_, _, rfl, run_takeDeferred (by simpa using hd2), ?_⟩⟩
    simp only [World.size_alloc]
    obtain ⟨W10, hW10⟩ : ∃ W10, W9.putObj (w.heap.size + 1 + 1 + 1) (.deferred none) = W10 := ⟨_, rfl⟩
    rw [hW10]
    have hq2' := (World.putObj_heap_other (w := W9) (o := .deferred none) (show w.heap.size + 1 ≠ w.heap.size + 1 + 1 + 1 by omega)).trans hq2
    have hb10 := hb2.trans (Below.put W9 (w.heap.size + 1 + 1 + 1) (.deferred none) (by omega : w.heap.size ≤ w.heap.size + 1 + 1 + 1))
    rw [hW10] at hq2' hb10
    obtain ⟨z0, z1, z2, z3, z4, z5, z6⟩ := cells_inst (i := zeroI) hq2'
    refine ⟨.tuple #[.agg zeroI.val, .bool false], ?_, hb10, .inr ⟨h1, rfl⟩⟩
    simp [results, Tryd.f10, go_sem, z0, z1, z2, z3, z4, z5, z6, Inst.val]
  · rintro co W ⟨rfl, k, mv, h1, h2, h3, h4, h5, h6, h7⟩ hd hs
    have hd' : W.heap[w.heap.size + 1 + 1 + 1]? = some (.deferred (some [])) := by simpa using hd
    obtain ⟨d0, d1, d2, d3, d4, d5, d6, d7, d8, d9, d10, d11⟩ := cells_row h7
    have hc := (cells_one h5).1
    have hk0 : ((k : Int) + 1 == 0) = false := by simp; omega
    gi_wp2
    have hsz : w.heap.size + 1 + 1 + 1 + 1 < W.heap.size := by simp at hs; omega
    refine wpIn_wide.2 ?_
    apply wp_meet (Wf := fun m => (W.alloc (.cells (Inst.mk (k + 1) 0 0 0 (takeZ (formK k) c) false false).val 25)).drewN m)
    case h =>
      have hen := enTake (formK k)
      unfold Enters at hen
      have hq1 : ∀ (W : World) (q : Nat) (o : Obj), (W.drewN q).alloc o = (W.alloc o).drewN q := fun _ _ _ => rfl
      have hq2 : ∀ (W : World) (q : Nat) (p : Addr) (v : Value), (W.drewN q).setCell p v = (W.setCell p v).drewN q := fun _ _ _ _ => rfl
      go_region_held3 (fun w' => w'.cell? ⟨w.heap.size + 1 + 1, 0, none⟩ = some (.int .i64 (k + 1)) ∧ w'.cell? ⟨w.heap.size + 1 + 1, 7 + 2, none⟩ = some (.func (.func (takeN (formK k))) #[] #[]) ∧ w'.cell? ⟨w.heap.size, 0, none⟩ = some (.int .u32 c)) (go_keep)
        (first | (refine (take_any (formK k) c _ h0 hlt).mono ?_; rintro e w' ⟨rfl, _, rfl⟩))
      · exact ⟨rfl, rfl, _, rfl⟩
      · exact ⟨rfl, rfl, _, rfl⟩
    case k =>
      intro mm
      generalize hW3 : World.drewN (World.alloc W _) _ = W3
      have i1 : W3.heap[W.heap.size]? = some (.cells (Inst.mk (k + 1) 0 0 0 (takeZ (formK k) c) false false).val 25 (0, 0)) := by rw [← hW3]; exact World.alloc_heap_new W _
      have i2 : Below W.heap.size W W3 := by rw [← hW3]; exact below_drewN ((Below.refl _ W).alloc (Nat.le_refl _) _) _
      have i3 : W3.heap.size = W.heap.size + 1 := by rw [← hW3]; simp
      have i4 : W3.heap[w.heap.size]? = some (.cells #[.int .u32 c] 22 (0, 0)) := (i2.block _ (by omega)).trans h5
      have i5 : W3.heap[w.heap.size + 1]? = some (.cells zeroI.val 25 (0, 0)) := (i2.block _ (by omega)).trans h6
      have i6 : W3.heap[w.heap.size + 1 + 1]? = some (.cells (rowC k mv) 51 (0, 0)) := (i2.block _ (by omega)).trans h7
      have i7 : W3.heap[w.heap.size + 1 + 1 + 1]? = some (.deferred (some [])) := (i2.block _ (by omega)).trans hd'
      have i8 : Below w.heap.size w W3 := h4.trans (i2.mono (by omega))
      clear hW3 hd hs hd' hc d0 d1 d2 d3 d4 d5 d6 d7 d8 d9 d10 d11 h4 h5 h6 h7 i2
      obtain ⟨d0, d1, d2, d3, d4, d5, d6, d7, d8, d9, d10, d11⟩ := cells_row i6
      have hc := (cells_one i4).1
      gi_wp2
      have hl0 : LSt k c mv w W.heap.size 0 (W3.alloc (.cells (slotsV k W.heap.size) 56)) := by
        have hb := fun r (hr : r < W3.heap.size) => Below.heap_alloc W3 (.cells (slotsV k W.heap.size) 56) r hr
        refine ⟨(hb _ (by omega)).trans i4, (hb _ (by omega)).trans i5, (hb _ (by omega)).trans i6, (hb _ (by omega)).trans i7, i8.alloc (by omega) _, (hb _ (by omega)).trans i1, ?_, hsz, by simp; omega⟩
        rw [← i3]; exact World.alloc_heap_new W3 _
      clear i1 i3 i4 i5 i6 i7 i8 d0 d1 d2 d3 d4 d5 d6 d7 d8 d9 d10 d11 hc
      gi_loopw [50] (fun i wr => ∃ j : Nat, j ≤ 3 ∧ i = .int .i64 j ∧ LSt k c mv w W.heap.size j wr) (fun i _ => 3 - (intOf i).toNat)
      case atStart => exact ⟨0, by omega, rfl, hl0⟩
      case round =>
        obtain ⟨j, hj, rfl, hl⟩ := hrel
        have hc := (cells_one hl.hc).1
        obtain ⟨s0, s1, s2, s3, s4, s5, s6, s7, s8⟩ := cells_slots hl.hs
        obtain ⟨t0, t1, t2, t3, t4, t5, t6⟩ := cells_inst hl.hi
        have ft := free_of hl.hi
        have hWr : W.heap.size < wr.heap.size := Nat.lt_of_succ_lt hl.hn
        have hgrow : ∀ o, LSt k c mv w W.heap.size j (wr.alloc o) := fun o => hl.grow ((Below.refl _ _).alloc (Nat.le_refl _) _)
        have fta : ∀ o i, (wr.alloc o).frozen? ⟨W.heap.size, i, none⟩ = false := fun o i => free_of (hgrow o).hi i
        have hta : ∀ o i, (wr.alloc o).cell? ⟨W.heap.size, i, none⟩ = wr.cell? ⟨W.heap.size, i, none⟩ := fun o i => World.cell?_of_block (Below.heap_alloc _ _ _ hWr)
        have hq2 : ∀ (W : World) (q : Nat) (p : Addr) (v : Value), (W.drewN q).setCell p v = (W.setCell p v).drewN q := fun _ _ _ _ => rfl
        have hna : ∀ (p : Addr) (v : Value) (cs : Array Value) (t : TypeId) (i : Nat), ((wr.setCell p v).alloc (.cells cs t)).cell? ⟨wr.heap.size, i, none⟩ = cs[i]? := fun p v cs t i => cell_new (by simp)
        have n1 : wr.heap.size ≠ W.heap.size := by omega
        have n2 : W.heap.size ≠ wr.heap.size := by omega
        have n3 : w.heap.size ≠ W.heap.size := by omega
        have n4 : W.heap.size ≠ w.heap.size := by omega
        rcases (by omega : j = 0 ∨ j = 1 ∨ j = 2 ∨ j = 3) with rfl | rfl | rfl | rfl
        · have hw : IntKind.i64.wrap (c / 128 % 32) = c / 128 % 32 := wrap_small _ (by omega) (by omega)
          cases hh : rdZ (formK k)
          · rw [hh] at s0
            gi_wp2
            go_roundw
            case rel => exact ⟨1, by omega, rfl, (hgrow _).to (by simp [instJ, hh])⟩
            case measure => simp [intOf]
          · rw [hh] at s0
            gi_wp2
            refine wpIn_wide.2 ?_
            go_region_held3 (fun w' => w'.cell? ⟨wr.heap.size, 1, none⟩ = some (.pointer (some ⟨W.heap.size, 1, none⟩)) ∧ w'.cell? ⟨wr.heap.size, 2, none⟩ = some (.int .i64 7) ∧ w'.cell? ⟨w.heap.size, 0, none⟩ = some (.int .u32 c)) (go_keep)
              (first | (go_at_call 21; refine (part_r c _ _ 128 _ h0 hlt (by decide) (by decide) (by decide) (by decide)).mono ?_; rintro e w' ⟨rfl, _, rfl⟩))
            gi_wp2
            go_roundw
            case rel => exact ⟨1, by omega, rfl, ((hl.put 1 (.int .i64 (c / 128 % 32)) (by simp [instJ, Inst.val, hh])).grow (below_drewN ((Below.refl _ _).alloc (Nat.le_refl _) _) _))⟩
            case measure => simp [intOf]
        · have hw : IntKind.i64.wrap (c / 32768 % 32) = c / 32768 % 32 := wrap_small _ (by omega) (by omega)
          cases hh : rs1Z (formK k)
          · rw [hh] at s3
            gi_wp2
            go_roundw
            case rel => exact ⟨2, by omega, rfl, (hgrow _).to (by simp [instJ, hh])⟩
            case measure => simp [intOf]
          · rw [hh] at s3
            gi_wp2
            refine wpIn_wide.2 ?_
            go_region_held3 (fun w' => w'.cell? ⟨wr.heap.size, 1, none⟩ = some (.pointer (some ⟨W.heap.size, 2, none⟩)) ∧ w'.cell? ⟨wr.heap.size, 2, none⟩ = some (.int .i64 15) ∧ w'.cell? ⟨w.heap.size, 0, none⟩ = some (.int .u32 c)) (go_keep)
              (first | (go_at_call 21; refine (part_r c _ _ 32768 _ h0 hlt (by decide) (by decide) (by decide) (by decide)).mono ?_; rintro e w' ⟨rfl, _, rfl⟩))
            gi_wp2
            go_roundw
            case rel => exact ⟨2, by omega, rfl, ((hl.put 2 (.int .i64 (c / 32768 % 32)) (by simp [instJ, Inst.val, hh])).grow (below_drewN ((Below.refl _ _).alloc (Nat.le_refl _) _) _))⟩
            case measure => simp [intOf]
        · have hw : IntKind.i64.wrap (c / 1048576 % 32) = c / 1048576 % 32 := wrap_small _ (by omega) (by omega)
          cases hh : rs2Z (formK k)
          · rw [hh] at s6
            gi_wp2
            go_roundw
            case rel => exact ⟨3, by omega, rfl, (hgrow _).to (by simp [instJ, hh])⟩
            case measure => simp [intOf]
          · rw [hh] at s6
            gi_wp2
            refine wpIn_wide.2 ?_
            go_region_held3 (fun w' => w'.cell? ⟨wr.heap.size, 1, none⟩ = some (.pointer (some ⟨W.heap.size, 3, none⟩)) ∧ w'.cell? ⟨wr.heap.size, 2, none⟩ = some (.int .i64 20) ∧ w'.cell? ⟨w.heap.size, 0, none⟩ = some (.int .u32 c)) (go_keep)
              (first | (go_at_call 21; refine (part_r c _ _ 1048576 _ h0 hlt (by decide) (by decide) (by decide) (by decide)).mono ?_; rintro e w' ⟨rfl, _, rfl⟩))
            gi_wp2
            go_roundw
            case rel => exact ⟨3, by omega, rfl, ((hl.put 3 (.int .i64 (c / 1048576 % 32)) (by simp [instJ, Inst.val, hh])).grow (below_drewN ((Below.refl _ _).alloc (Nat.le_refl _) _) _))⟩
            case measure => simp [intOf]
        · obtain ⟨q0, q1, q2, q3, q4, q5, q6, q7, q8, q9, q10, q11⟩ := cells_row hl.hr
          obtain ⟨g0, g1, g2, g3, g4, g5, g6⟩ := cells_inst hl.hz
          have fz := free_of hl.hz
          simp only [zeroI] at g0 g1 g2 g3 g4 g5 g6
          cases hh : aZ (formK k)
          · rw [hh] at q6
            gi_wp2
            have p1 := putAt_inst hl.hz (.int .i64 (instJ k c 3).op) (.int .i64 (instJ k c 3).rd) (.int .i64 (instJ k c 3).rs1) (.int .i64 (instJ k c 3).rs2) (.int .u32 (instJ k c 3).imm) (.bool (instJ k c 3).aq) (.bool (instJ k c 3).rl)
            have hde : decI k c = instJ k c 3 := by simp [decI, instJ, hh]
            rw [Exit.noGoto_ret]
            change bodyPostM Fence.wide 10 Tryd.prog Tryd.f10 _ Exit.ret _ _
            have hd2 := (p1.block (w.heap.size + 1 + 1 + 1) (by omega)).trans hl.hd
            have hb2 : Below w.heap.size w _ := Below.trans hl.hb (p1.below (by omega))
            have hq2 := p1.here
            generalize World.setCell _ ⟨w.heap.size + 1, 6, none⟩ _ = W9 at *
            refine ⟨by simp, .inl ⟨_, _, rfl, run_takeDeferred (by simpa using hd2), ?_⟩⟩
            obtain ⟨W10, hW10⟩ : ∃ W10, W9.putObj (w.heap.size + 1 + 1 + 1) (.deferred none) = W10 := ⟨_, rfl⟩
            rw [hW10]
            have hq2' := (World.putObj_heap_other (w := W9) (o := .deferred none) (show w.heap.size + 1 ≠ w.heap.size + 1 + 1 + 1 by omega)).trans hq2
            have hb10 := hb2.trans (Below.put W9 (w.heap.size + 1 + 1 + 1) (.deferred none) (by omega : w.heap.size ≤ w.heap.size + 1 + 1 + 1))
            rw [hW10] at hq2' hb10
            obtain ⟨z0, z1, z2, z3, z4, z5, z6⟩ := cells_inst (i := decI k c) (hde ▸ hq2')
            refine ⟨.tuple #[.agg (decI k c).val, .bool true], ?_, hb10, .inl ⟨k, h1, h2, h3, rfl⟩⟩
            simp [results, Tryd.f10, go_sem, z0, z1, z2, z3, z4, z5, z6, Inst.val]
          · rw [hh] at q6
            gi_wp2
            have h26 : pw 26 = 67108864 := by decide
            have h25 : pw 25 = 33554432 := by decide
            refine wpIn_wide.2 ?_
            go_region_held3 (fun w' => w'.cell? ⟨w.heap.size, 0, none⟩ = some (.int .u32 c)) (go_keep)
              (first | (go_at_call 21; refine (part_b c _ _ h0 hlt (by decide) (by decide)).mono ?_; rintro e w' ⟨rfl, _, rfl⟩))
            have pi := ((PutAt.refl hl.hi).set 5 (.bool (c / 67108864 % 2 == 1))).set 6 (.bool (c / 33554432 % 2 == 1))
            generalize hW5 : World.drewN _ _ = W5
            have k0 : Below w.heap.size w W5 := by rw [← hW5]; exact below_drewN (hl.hb.trans (pi.below (by omega))) _
            have k1 : ∀ r, r ≠ W.heap.size → W5.heap[r]? = wr.heap[r]? := fun r hr => by rw [← hW5]; exact pi.block r hr
            have hde : (decI k c).val = ((instJ k c 3).val.setIfInBounds 5 (.bool (c / 67108864 % 2 == 1))).setIfInBounds 6 (.bool (c / 33554432 % 2 == 1)) := by simp [decI, instJ, hh, Inst.val]
            have k2 : W5.heap[W.heap.size]? = some (.cells (decI k c).val 25 (0, 0)) := by rw [hde, ← hW5]; exact pi.here
            have k3 : W5.heap[w.heap.size + 1]? = some (.cells zeroI.val 25 (0, 0)) := (k1 _ (by omega)).trans hl.hz
            have k4 := (k1 _ (by omega)).trans hl.hd
            clear hW5 pi k1 hde t0 t1 t2 t3 t4 t5 t6 ft q0 q1 q2 q3 q4 q5 q6 q7 q8 q9 q10 q11 g0 g1 g2 g3 g4 g5 g6 fz hc s0 s1 s2 s3 s4 s5 s6 s7 s8 hna hta fta hgrow
            obtain ⟨t0, t1, t2, t3, t4, t5, t6⟩ := cells_inst k2
            obtain ⟨g0, g1, g2, g3, g4, g5, g6⟩ := cells_inst k3
            have fz := free_of k3
            simp only [zeroI] at g0 g1 g2 g3 g4 g5 g6
            gi_wp2
            have p1 := putAt_inst k3 (.int .i64 (decI k c).op) (.int .i64 (decI k c).rd) (.int .i64 (decI k c).rs1) (.int .i64 (decI k c).rs2) (.int .u32 (decI k c).imm) (.bool (decI k c).aq) (.bool (decI k c).rl)
            rw [Exit.noGoto_ret]
            change bodyPostM Fence.wide 10 Tryd.prog Tryd.f10 _ Exit.ret _ _
            have hd2 := (p1.block (w.heap.size + 1 + 1 + 1) (by omega)).trans k4
            have hb2 : Below w.heap.size w _ := Below.trans k0 (p1.below (by omega))
            have hq2 := p1.here
            generalize World.setCell _ ⟨w.heap.size + 1, 6, none⟩ _ = W9 at *
            refine ⟨by simp, .inl ⟨_, _, rfl, run_takeDeferred (by simpa using hd2), ?_⟩⟩
            obtain ⟨W10, hW10⟩ : ∃ W10, W9.putObj (w.heap.size + 1 + 1 + 1) (.deferred none) = W10 := ⟨_, rfl⟩
            rw [hW10]
            have hq2' := (World.putObj_heap_other (w := W9) (o := .deferred none) (show w.heap.size + 1 ≠ w.heap.size + 1 + 1 + 1 by omega)).trans hq2
            have hb10 := hb2.trans (Below.put W9 (w.heap.size + 1 + 1 + 1) (.deferred none) (by omega : w.heap.size ≤ w.heap.size + 1 + 1 + 1))
            rw [hW10] at hq2' hb10
            obtain ⟨z0, z1, z2, z3, z4, z5, z6⟩ := cells_inst (i := decI k c) (hq2')
            refine ⟨.tuple #[.agg (decI k c).val, .bool true], ?_, hb10, .inl ⟨k, h1, h2, h3, rfl⟩⟩
            simp [results, Tryd.f10, go_sem, z0, z1, z2, z3, z4, z5, z6, Inst.val]
end Go.Proofs.YtamilahkdinjkaaDoor
