/-
  isa.may, isa.Name, isa.Encode.
-/
import Derived.Test.YtamilahkdinjkaaDoorDecode
import Derived.Test.YtamilahkdinjkaaDoorLexH
namespace Go.Proofs.YtamilahkdinjkaaDoor
set_option linter.unusedVariables false
set_option linter.unusedSimpArgs false
open Go.RowKit Go.Shelf

set_option maxRecDepth 100000 in
set_option maxHeartbeats 4000000 in
theorem name_any (op : Int) (w : World) (hT : Tab w) :
    Calls Tryd.prog 16 #[.int .i64 op] w fun e w' => Below w.heap.size w w' ∧ ((∃ k : Nat, k < 59 ∧ op = k + 1 ∧ e = .returned (.tuple #[.string (nameK k), .bool true])) ∨ ((op < 1 ∨ 59 < op) ∧ e = .returned (.tuple #[.string ⟨#[]⟩, .bool false]))) := by
  go_enter Tryd.func16, Tryd.ntmps16
  go_wp2_with (go_at_call 32; refine (of_any op _ ?_).mono ?_; exact hT; rintro e w' (⟨k, v, hk, rfl, rfl, ⟨mv, rfl, hmv⟩, hb⟩ | ⟨ho, rfl, hb⟩) <;> (first | (obtain ⟨mk, mcap, rfl⟩ := hmv.fn; unfold rowC) | unfold zeroRow))
  · exact bodyPost_ret (v := .tuple #[.string (nameK k), .bool true]) (by simp [results, Tryd.f16, go_sem]) rfl ⟨hb.alloc hb.size _, .inl ⟨k, hk, rfl, rfl⟩⟩
  · exact bodyPost_ret (v := .tuple #[.string ⟨#[]⟩, .bool false]) (by simp [results, Tryd.f16, go_sem]) rfl ⟨hb.alloc hb.size _, .inr ⟨ho, rfl⟩⟩

set_option maxRecDepth 100000 in
set_option maxHeartbeats 4000000 in
theorem mayR_any (i : Inst) (w : World) (hT : Tab w) (h0 : 0 ≤ i.imm) (hlt : i.imm < 4294967296) :
    Calls Tryd.prog 26 #[.agg i.val] w fun e w' => Below w.heap.size w w' ∧
      ((∃ (k : Nat) (v : Value), k < 59 ∧ i.op = k + 1 ∧ e = .returned (.tuple #[v, .bool (okI k i)]) ∧ RowOK w.heap.size k v w') ∨
      ((i.op < 1 ∨ 59 < i.op) ∧ e = .returned (.tuple #[.agg zeroRow, .bool false]))) := by
  obtain ⟨op, rd, rs1, rs2, imm, aq, rl⟩ := i
  simp only at h0 hlt
  unfold Inst.val
  go_enter Tryd.func26, Tryd.ntmps26
  go_wp2_with (go_at_call 32; refine (of_any _ _ ?_).mono ?_; exact hT.below (((Below.refl _ _).alloc (Nat.le_refl _) _).alloc (by simp) _); rintro e w' (⟨k, v, hk, hop, rfl, ⟨mv, rfl, hmv⟩, hb⟩ | ⟨ho, rfl, hb⟩) <;> (first | (obtain ⟨mk, mcap, rfl⟩ := hmv.fn; unfold rowC) | unfold zeroRow))
  · have hb0 := hb.size
    simp only [World.size_alloc] at hb0
    have j2 : w'.heap[w.heap.size]? = some (.cells (Inst.mk op rd rs1 rs2 imm aq rl).val 25 (0, 0)) := by
      rw [hb.block _ (by simp; omega), Below.heap_alloc _ _ _ (by simp)]; exact World.alloc_heap_new w _
    have j3 : w'.heap[w.heap.size + 1]? = some (.cells zeroRow 51 (0, 0)) := by
      rw [hb.block _ (by simp)]
      have := World.alloc_heap_new (w.alloc (.cells (Inst.mk op rd rs1 rs2 imm aq rl).val 25)) (.cells zeroRow 51)
      rwa [World.size_alloc] at this
    have hbw : Below w.heap.size w w' := (((Below.refl _ w).alloc (Nat.le_refl _) _).alloc (by simp) _).trans (hb.mono (by simp; omega))
    generalize hW1 : World.alloc w' _ = W1
    have i0 : Below w'.heap.size w' W1 := by rw [← hW1]; exact (Below.refl _ _).alloc (Nat.le_refl _) _
    have i1 : W1.heap[w'.heap.size]? = some (.cells (rowC k (.func (.func mk) #[] mcap)) 51 (0, 0)) := by rw [← hW1]; exact World.alloc_heap_new w' _
    have i2 := (i0.block _ (by omega)).trans j2
    have i3 := (i0.block _ (by omega)).trans j3
    have i4 : Below w.heap.size w W1 := hbw.trans (i0.mono (by omega))
    have hmv1 : MayOK (w.heap.size + 1 + 1) (formK k) (.func (.func mk) #[] mcap) W1 := (hmv.mono (by simp)).keep ((held_below i0).from _)
    clear j2 j3 hW1 i0 hb hbw hmv
    have hen : ∀ (args : Array Value) (w : World), (callFunc mk args).run Tryd.prog w = .ok (.enter mk args) w := by
      obtain ⟨_, _, he, hen, _⟩ := may_any hmv1
      cases he; exact hen
    have hmay : ∀ x : World, x.heap = W1.heap → Calls Tryd.prog mk (#[.int .u32 imm] ++ mcap) x fun e x' => e = .returned (.bool (mayZ (formK k) imm)) ∧ Quiet x x' := by
      intro x hx
      have hx2 : MayOK (w.heap.size + 1 + 1) (formK k) (.func (.func mk) #[] mcap) x := hmv1.keep (fun p v _ hc => (World.cell?_of_block (by rw [hx])).trans hc)
      obtain ⟨_, _, he, _, hcall⟩ := may_any hx2
      cases he
      exact hcall _ h0 hlt
    obtain ⟨d0, d1, d2, d3, d4, d5, d6, d7, d8, d9, d10, d11⟩ := cells_row i1
    obtain ⟨t0, t1, t2, t3, t4, t5, t6⟩ := cells_inst i2
    obtain ⟨z0, z1, z2, z3, z4, z5, z6, z7, z8, z9, z10, z11⟩ := cells_zrow i3
    have fz := free_of i3
    have hr1 : ∀ x, Calls Tryd.prog 42 #[.int .i64 rd, .bool (rdZ (formK k))] x fun e x' => e = .returned (.bool (regB rd (rdZ (formK k)))) ∧ x = x' := fun x => register_any _ _ x
    have hr2 : ∀ x, Calls Tryd.prog 42 #[.int .i64 rs1, .bool (rs1Z (formK k))] x fun e x' => e = .returned (.bool (regB rs1 (rs1Z (formK k)))) ∧ x = x' := fun x => register_any _ _ x
    have hr3 : ∀ x, Calls Tryd.prog 42 #[.int .i64 rs2, .bool (rs2Z (formK k))] x fun e x' => e = .returned (.bool (regB rs2 (rs2Z (formK k)))) ∧ x = x' := fun x => register_any _ _ x
    have hq2 : ∀ (W : World) (q : Nat) (p : Addr) (v : Value), (W.drewN q).setCell p v = (W.setCell p v).drewN q := fun _ _ _ _ => rfl
    generalize r1 : regB rd (rdZ (formK k)) = b1 at hr1
    generalize r2 : regB rs1 (rs1Z (formK k)) = b2 at hr2
    generalize r3 : regB rs2 (rs2Z (formK k)) = b3 at hr3
    generalize r4 : mayZ (formK k) imm = b4 at hmay
    refine wp_region_lexH (fun x => x.cell? ⟨w'.heap.size, 0, none⟩ = some (.int .i64 (k + 1)) ∧ x.cell? ⟨w'.heap.size, 1, none⟩ = some (.string (nameK k)) ∧ x.cell? ⟨w'.heap.size, 2, none⟩ = some (.int .u32 (maskZ (formK k))) ∧ x.cell? ⟨w'.heap.size, 3, none⟩ = some (.bool (rdZ (formK k))) ∧ x.cell? ⟨w'.heap.size, 4, none⟩ = some (.bool (rs1Z (formK k))) ∧ x.cell? ⟨w'.heap.size, 5, none⟩ = some (.bool (rs2Z (formK k))) ∧ x.cell? ⟨w'.heap.size, 6, none⟩ = some (.bool (aZ (formK k))) ∧ x.cell? ⟨w'.heap.size, 7, none⟩ = some (.func (.func mk) #[] mcap) ∧ x.cell? ⟨w'.heap.size, 8, none⟩ = some (.func (.func (putN (formK k))) #[] #[]) ∧ x.cell? ⟨w'.heap.size, 9, none⟩ = some (.func (.func (takeN (formK k))) #[] #[]) ∧ x.cell? ⟨w'.heap.size, 10, none⟩ = some (.func (.func (toldN (formK k))) #[] #[]) ∧ x.cell? ⟨w'.heap.size, 11, none⟩ = some (.int .u32 (bitsK k)) ∧ x.cell? ⟨w.heap.size, 1, none⟩ = some (.int .i64 rd) ∧ x.cell? ⟨w.heap.size, 2, none⟩ = some (.int .i64 rs1) ∧ x.cell? ⟨w.heap.size, 3, none⟩ = some (.int .i64 rs2) ∧ x.cell? ⟨w.heap.size, 4, none⟩ = some (.int .u32 imm) ∧ x.cell? ⟨w.heap.size, 5, none⟩ = some (.bool aq) ∧ x.cell? ⟨w.heap.size, 6, none⟩ = some (.bool rl)) (fun k => k == 8 || k == 16 || k == 24 || k == 32 || k == 49) rfl (by kernel_rfl) (fun _ _ d _ _ h => by cases d <;> exact h) (by go_keep) ?_
    apply wpLexH_val (hw := by kernel_rfl) (hb := by kernel_rfl)
    case hv =>
      intro x hx
      obtain ⟨x0, x1, x2, x3, x4, x5, x6, x7, x8, x9, x10, x11, x12, x13, x14, x15, x16, x17⟩ := hx
      go_simp
      with_reducible rfl
    intro K hK
    go_simp
    refine hK _ _ ?_
    clear hK K
    apply wpLexH_val (hw := by kernel_rfl) (hb := by kernel_rfl)
    case hv =>
      intro x hx
      obtain ⟨x0, x1, x2, x3, x4, x5, x6, x7, x8, x9, x10, x11, x12, x13, x14, x15, x16, x17⟩ := hx
      go_simp
      with_reducible rfl
    intro K hK
    go_simp
    refine hK _ _ ?_
    clear hK K
    apply wpLexH_val (hw := by kernel_rfl) (hb := by kernel_rfl)
    case hv =>
      intro x hx
      obtain ⟨x0, x1, x2, x3, x4, x5, x6, x7, x8, x9, x10, x11, x12, x13, x14, x15, x16, x17⟩ := hx
      go_simp
      with_reducible rfl
    intro K hK
    go_simp
    refine hK _ _ ?_
    clear hK K
    apply wpLexH_val (hw := by kernel_rfl) (hb := by kernel_rfl)
    case hv =>
      intro x hx
      obtain ⟨x0, x1, x2, x3, x4, x5, x6, x7, x8, x9, x10, x11, x12, x13, x14, x15, x16, x17⟩ := hx
      go_simp
      with_reducible rfl
    intro K hK
    go_simp
    refine hK _ _ ?_
    clear hK K
    apply wpLexH_val (hw := by kernel_rfl) (hb := by kernel_rfl)
    case hv =>
      intro x hx
      obtain ⟨x0, x1, x2, x3, x4, x5, x6, x7, x8, x9, x10, x11, x12, x13, x14, x15, x16, x17⟩ := hx
      go_simp
      with_reducible rfl
    intro K hK
    go_simp
    refine hK _ _ ?_
    clear hK K
    apply wpLexH_val (hw := by kernel_rfl) (hb := by kernel_rfl)
    case hv =>
      intro x hx
      obtain ⟨x0, x1, x2, x3, x4, x5, x6, x7, x8, x9, x10, x11, x12, x13, x14, x15, x16, x17⟩ := hx
      go_simp
      with_reducible rfl
    intro K hK
    go_simp
    refine hK _ _ ?_
    clear hK K
    apply wpLexH_val (hw := by kernel_rfl) (hb := by kernel_rfl)
    case hv =>
      intro x hx
      obtain ⟨x0, x1, x2, x3, x4, x5, x6, x7, x8, x9, x10, x11, x12, x13, x14, x15, x16, x17⟩ := hx
      go_simp
      with_reducible rfl
    intro K hK
    go_simp
    refine hK _ _ ?_
    clear hK K
    apply wpLexH_val (hw := by kernel_rfl) (hb := by kernel_rfl)
    case hv =>
      intro x hx
      obtain ⟨x0, x1, x2, x3, x4, x5, x6, x7, x8, x9, x10, x11, x12, x13, x14, x15, x16, x17⟩ := hx
      go_simp
      with_reducible rfl
    intro K hK
    go_simp
    refine hK _ _ ?_
    clear hK K
    refine wpLexH_solo (by kernel_rfl) (by kernel_rfl) (fun K hK => ?_)
    go_simp
    refine (hr1 _).mono ?_; rintro e x ⟨rfl, rfl⟩
    refine hK _ _ (by go_keep) ?_
    clear hK K
    apply wpLexH_val (hw := by kernel_rfl) (hb := by kernel_rfl)
    case hv =>
      intro x hx
      obtain ⟨x0, x1, x2, x3, x4, x5, x6, x7, x8, x9, x10, x11, x12, x13, x14, x15, x16, x17⟩ := hx
      go_simp
      with_reducible rfl
    intro K hK
    go_simp
    refine hK _ _ ?_
    clear hK K
    apply wpLexH_val (hw := by kernel_rfl) (hb := by kernel_rfl)
    case hv =>
      intro x hx
      obtain ⟨x0, x1, x2, x3, x4, x5, x6, x7, x8, x9, x10, x11, x12, x13, x14, x15, x16, x17⟩ := hx
      go_simp
      with_reducible rfl
    intro K hK
    go_simp
    refine hK _ _ ?_
    clear hK K
    cases b1
    · apply wpLexH_skip6 (hb := by kernel_rfl)
      apply wpLexH_val (hw := by kernel_rfl) (hb := by kernel_rfl)
      case hv =>
        intro x hx
        obtain ⟨x0, x1, x2, x3, x4, x5, x6, x7, x8, x9, x10, x11, x12, x13, x14, x15, x16, x17⟩ := hx
        go_simp
        with_reducible rfl
      intro K hK
      go_simp
      refine hK _ _ ?_
      clear hK K
      apply wpLexH_val (hw := by kernel_rfl) (hb := by kernel_rfl)
      case hv =>
        intro x hx
        obtain ⟨x0, x1, x2, x3, x4, x5, x6, x7, x8, x9, x10, x11, x12, x13, x14, x15, x16, x17⟩ := hx
        go_simp
        with_reducible rfl
      intro K hK
      go_simp
      refine hK _ _ ?_
      clear hK K
      apply wpLexH_skip6 (hb := by kernel_rfl)
      apply wpLexH_val (hw := by kernel_rfl) (hb := by kernel_rfl)
      case hv =>
        intro x hx
        obtain ⟨x0, x1, x2, x3, x4, x5, x6, x7, x8, x9, x10, x11, x12, x13, x14, x15, x16, x17⟩ := hx
        go_simp
        with_reducible rfl
      intro K hK
      go_simp
      refine hK _ _ ?_
      clear hK K
      apply wpLexH_val (hw := by kernel_rfl) (hb := by kernel_rfl)
      case hv =>
        intro x hx
        obtain ⟨x0, x1, x2, x3, x4, x5, x6, x7, x8, x9, x10, x11, x12, x13, x14, x15, x16, x17⟩ := hx
        go_simp
        with_reducible rfl
      intro K hK
      go_simp
      refine hK _ _ ?_
      clear hK K
      apply wpLexH_skip6 (hb := by kernel_rfl)
      apply wpLexH_val (hw := by kernel_rfl) (hb := by kernel_rfl)
      case hv =>
        intro x hx
        obtain ⟨x0, x1, x2, x3, x4, x5, x6, x7, x8, x9, x10, x11, x12, x13, x14, x15, x16, x17⟩ := hx
        go_simp
        with_reducible rfl
      intro K hK
      go_simp
      refine hK _ _ ?_
      clear hK K
      apply wpLexH_val (hw := by kernel_rfl) (hb := by kernel_rfl)
      case hv =>
        intro x hx
        obtain ⟨x0, x1, x2, x3, x4, x5, x6, x7, x8, x9, x10, x11, x12, x13, x14, x15, x16, x17⟩ := hx
        go_simp
        with_reducible rfl
      intro K hK
      go_simp
      refine hK _ _ ?_
      clear hK K
      apply wpLexH_skip13 (hb := by kernel_rfl)
      apply wpLexH_val (hw := by kernel_rfl) (hb := by kernel_rfl)
      case hv =>
        intro x hx
        obtain ⟨x0, x1, x2, x3, x4, x5, x6, x7, x8, x9, x10, x11, x12, x13, x14, x15, x16, x17⟩ := hx
        go_simp
        with_reducible rfl
      intro K hK
      go_simp
      refine hK _ _ ?_
      clear hK K
      refine wpLexH_solo (by kernel_rfl) (by kernel_rfl) (fun K hK => ?_)
      go_simp
      have p1 := putAt_row i3 (.int .i64 (k + 1)) (.string (nameK k)) (.int .u32 (maskZ (formK k))) (.bool (rdZ (formK k))) (.bool (rs1Z (formK k))) (.bool (rs2Z (formK k))) (.bool (aZ (formK k))) (.func (.func mk) #[] mcap) (.func (.func (putN (formK k))) #[] #[]) (.func (.func (takeN (formK k))) #[] #[]) (.func (.func (toldN (formK k))) #[] #[]) (.int .u32 (bitsK k))
      generalize hW9 : World.setCell _ ⟨w.heap.size + 1, 11, none⟩ _ = W9 at p1 ⊢
      have hk1 : ∀ o, W9.cell? ⟨w'.heap.size, o, none⟩ = W1.cell? ⟨w'.heap.size, o, none⟩ := fun o => World.cell?_of_block (a := ⟨w'.heap.size, o, none⟩) (p1.block w'.heap.size (by omega))
      have hk2 : ∀ o, W9.cell? ⟨w.heap.size, o, none⟩ = W1.cell? ⟨w.heap.size, o, none⟩ := fun o => World.cell?_of_block (a := ⟨w.heap.size, o, none⟩) (p1.block w.heap.size (by omega))
      refine hK _ _ ⟨(hk1 _).trans d0, (hk1 _).trans d1, (hk1 _).trans d2, (hk1 _).trans d3, (hk1 _).trans d4, (hk1 _).trans d5, (hk1 _).trans d6, (hk1 _).trans d7, (hk1 _).trans d8, (hk1 _).trans d9, (hk1 _).trans d10, (hk1 _).trans d11, (hk2 _).trans t1, (hk2 _).trans t2, (hk2 _).trans t3, (hk2 _).trans t4, (hk2 _).trans t5, (hk2 _).trans t6⟩ ?_
      clear hK K hk1 hk2
      apply wpLexH_val (hw := by kernel_rfl) (hb := by kernel_rfl)
      case hv =>
        intro x hx
        obtain ⟨x0, x1, x2, x3, x4, x5, x6, x7, x8, x9, x10, x11, x12, x13, x14, x15, x16, x17⟩ := hx
        go_simp
        with_reducible rfl
      intro K hK
      go_simp
      refine hK _ _ ?_
      clear hK K
      refine wpLexH_nil ?_
      clear d0 d1 d2 d3 d4 d5 d6 d7 d8 d9 d10 d11 t0 t1 t2 t3 t4 t5 t6 z0 z1 z2 z3 z4 z5 z6 z7 z8 z9 z10 z11 fz
      have p2 : W9.heap[w.heap.size + 1]? = some (.cells (rowC k (.func (.func mk) #[] mcap)) 51 (0, 0)) := by rw [p1.here]; simp only [rowC]
      obtain ⟨y0, y1, y2, y3, y4, y5, y6, y7, y8, y9, y10, y11⟩ := cells_row p2
      go_wp2
      refine bodyPost_ret (v := .tuple #[.agg (rowC k (.func (.func mk) #[] mcap)), .bool false]) (by simp [results, Tryd.f26, go_sem, y0, y1, y2, y3, y4, y5, y6, y7, y8, y9, y10, y11, rowC]) rfl ?_
      have e1 : Below w.heap.size w W9 := i4.trans (p1.below (by omega))
      have e2 : MayOK w.heap.size (formK k) (.func (.func mk) #[] mcap) W9 := (hmv1.keep (fun p v hp hc => (World.cell?_of_block (a := p) (p1.block p.block (by omega))).trans hc)).mono (by omega)
      exact ⟨⟨e1.os, e1.tape, e1.output, e1.size, e1.block⟩, .inl ⟨k, .agg (rowC k (.func (.func mk) #[] mcap)), hk, hop, by simp [okI, *], _, rfl, e2.keep (fun _ _ _ h => h)⟩⟩
    · apply wpLexH_val (hw := by kernel_rfl) (hb := by kernel_rfl)
      case hv =>
        intro x hx
        obtain ⟨x0, x1, x2, x3, x4, x5, x6, x7, x8, x9, x10, x11, x12, x13, x14, x15, x16, x17⟩ := hx
        go_simp
        with_reducible rfl
      intro K hK
      go_simp
      refine hK _ _ ?_
      clear hK K
      apply wpLexH_val (hw := by kernel_rfl) (hb := by kernel_rfl)
      case hv =>
        intro x hx
        obtain ⟨x0, x1, x2, x3, x4, x5, x6, x7, x8, x9, x10, x11, x12, x13, x14, x15, x16, x17⟩ := hx
        go_simp
        with_reducible rfl
      intro K hK
      go_simp
      refine hK _ _ ?_
      clear hK K
      apply wpLexH_val (hw := by kernel_rfl) (hb := by kernel_rfl)
      case hv =>
        intro x hx
        obtain ⟨x0, x1, x2, x3, x4, x5, x6, x7, x8, x9, x10, x11, x12, x13, x14, x15, x16, x17⟩ := hx
        go_simp
        with_reducible rfl
      intro K hK
      go_simp
      refine hK _ _ ?_
      clear hK K
      apply wpLexH_val (hw := by kernel_rfl) (hb := by kernel_rfl)
      case hv =>
        intro x hx
        obtain ⟨x0, x1, x2, x3, x4, x5, x6, x7, x8, x9, x10, x11, x12, x13, x14, x15, x16, x17⟩ := hx
        go_simp
        with_reducible rfl
      intro K hK
      go_simp
      refine hK _ _ ?_
      clear hK K
      apply wpLexH_val (hw := by kernel_rfl) (hb := by kernel_rfl)
      case hv =>
        intro x hx
        obtain ⟨x0, x1, x2, x3, x4, x5, x6, x7, x8, x9, x10, x11, x12, x13, x14, x15, x16, x17⟩ := hx
        go_simp
        with_reducible rfl
      intro K hK
      go_simp
      refine hK _ _ ?_
      clear hK K
      refine wpLexH_solo (by kernel_rfl) (by kernel_rfl) (fun K hK => ?_)
      go_simp
      refine (hr2 _).mono ?_; rintro e x ⟨rfl, rfl⟩
      refine hK _ _ (by go_keep) ?_
      clear hK K
      apply wpLexH_val (hw := by kernel_rfl) (hb := by kernel_rfl)
      case hv =>
        intro x hx
        obtain ⟨x0, x1, x2, x3, x4, x5, x6, x7, x8, x9, x10, x11, x12, x13, x14, x15, x16, x17⟩ := hx
        go_simp
        with_reducible rfl
      intro K hK
      go_simp
      refine hK _ _ ?_
      clear hK K
      apply wpLexH_val (hw := by kernel_rfl) (hb := by kernel_rfl)
      case hv =>
        intro x hx
        obtain ⟨x0, x1, x2, x3, x4, x5, x6, x7, x8, x9, x10, x11, x12, x13, x14, x15, x16, x17⟩ := hx
        go_simp
        with_reducible rfl
      intro K hK
      go_simp
      refine hK _ _ ?_
      clear hK K
      cases b2
      · apply wpLexH_skip6 (hb := by kernel_rfl)
        apply wpLexH_val (hw := by kernel_rfl) (hb := by kernel_rfl)
        case hv =>
          intro x hx
          obtain ⟨x0, x1, x2, x3, x4, x5, x6, x7, x8, x9, x10, x11, x12, x13, x14, x15, x16, x17⟩ := hx
          go_simp
          with_reducible rfl
        intro K hK
        go_simp
        refine hK _ _ ?_
        clear hK K
        apply wpLexH_val (hw := by kernel_rfl) (hb := by kernel_rfl)
        case hv =>
          intro x hx
          obtain ⟨x0, x1, x2, x3, x4, x5, x6, x7, x8, x9, x10, x11, x12, x13, x14, x15, x16, x17⟩ := hx
          go_simp
          with_reducible rfl
        intro K hK
        go_simp
        refine hK _ _ ?_
        clear hK K
        apply wpLexH_skip6 (hb := by kernel_rfl)
        apply wpLexH_val (hw := by kernel_rfl) (hb := by kernel_rfl)
        case hv =>
          intro x hx
          obtain ⟨x0, x1, x2, x3, x4, x5, x6, x7, x8, x9, x10, x11, x12, x13, x14, x15, x16, x17⟩ := hx
          go_simp
          with_reducible rfl
        intro K hK
        go_simp
        refine hK _ _ ?_
        clear hK K
        apply wpLexH_val (hw := by kernel_rfl) (hb := by kernel_rfl)
        case hv =>
          intro x hx
          obtain ⟨x0, x1, x2, x3, x4, x5, x6, x7, x8, x9, x10, x11, x12, x13, x14, x15, x16, x17⟩ := hx
          go_simp
          with_reducible rfl
        intro K hK
        go_simp
        refine hK _ _ ?_
        clear hK K
        apply wpLexH_skip13 (hb := by kernel_rfl)
        apply wpLexH_val (hw := by kernel_rfl) (hb := by kernel_rfl)
        case hv =>
          intro x hx
          obtain ⟨x0, x1, x2, x3, x4, x5, x6, x7, x8, x9, x10, x11, x12, x13, x14, x15, x16, x17⟩ := hx
          go_simp
          with_reducible rfl
        intro K hK
        go_simp
        refine hK _ _ ?_
        clear hK K
        refine wpLexH_solo (by kernel_rfl) (by kernel_rfl) (fun K hK => ?_)
        go_simp
        have p1 := putAt_row i3 (.int .i64 (k + 1)) (.string (nameK k)) (.int .u32 (maskZ (formK k))) (.bool (rdZ (formK k))) (.bool (rs1Z (formK k))) (.bool (rs2Z (formK k))) (.bool (aZ (formK k))) (.func (.func mk) #[] mcap) (.func (.func (putN (formK k))) #[] #[]) (.func (.func (takeN (formK k))) #[] #[]) (.func (.func (toldN (formK k))) #[] #[]) (.int .u32 (bitsK k))
        generalize hW9 : World.setCell _ ⟨w.heap.size + 1, 11, none⟩ _ = W9 at p1 ⊢
        have hk1 : ∀ o, W9.cell? ⟨w'.heap.size, o, none⟩ = W1.cell? ⟨w'.heap.size, o, none⟩ := fun o => World.cell?_of_block (a := ⟨w'.heap.size, o, none⟩) (p1.block w'.heap.size (by omega))
        have hk2 : ∀ o, W9.cell? ⟨w.heap.size, o, none⟩ = W1.cell? ⟨w.heap.size, o, none⟩ := fun o => World.cell?_of_block (a := ⟨w.heap.size, o, none⟩) (p1.block w.heap.size (by omega))
        refine hK _ _ ⟨(hk1 _).trans d0, (hk1 _).trans d1, (hk1 _).trans d2, (hk1 _).trans d3, (hk1 _).trans d4, (hk1 _).trans d5, (hk1 _).trans d6, (hk1 _).trans d7, (hk1 _).trans d8, (hk1 _).trans d9, (hk1 _).trans d10, (hk1 _).trans d11, (hk2 _).trans t1, (hk2 _).trans t2, (hk2 _).trans t3, (hk2 _).trans t4, (hk2 _).trans t5, (hk2 _).trans t6⟩ ?_
        clear hK K hk1 hk2
        apply wpLexH_val (hw := by kernel_rfl) (hb := by kernel_rfl)
        case hv =>
          intro x hx
          obtain ⟨x0, x1, x2, x3, x4, x5, x6, x7, x8, x9, x10, x11, x12, x13, x14, x15, x16, x17⟩ := hx
          go_simp
          with_reducible rfl
        intro K hK
        go_simp
        refine hK _ _ ?_
        clear hK K
        refine wpLexH_nil ?_
        clear d0 d1 d2 d3 d4 d5 d6 d7 d8 d9 d10 d11 t0 t1 t2 t3 t4 t5 t6 z0 z1 z2 z3 z4 z5 z6 z7 z8 z9 z10 z11 fz
        have p2 : W9.heap[w.heap.size + 1]? = some (.cells (rowC k (.func (.func mk) #[] mcap)) 51 (0, 0)) := by rw [p1.here]; simp only [rowC]
        obtain ⟨y0, y1, y2, y3, y4, y5, y6, y7, y8, y9, y10, y11⟩ := cells_row p2
        go_wp2
        refine bodyPost_ret (v := .tuple #[.agg (rowC k (.func (.func mk) #[] mcap)), .bool false]) (by simp [results, Tryd.f26, go_sem, y0, y1, y2, y3, y4, y5, y6, y7, y8, y9, y10, y11, rowC]) rfl ?_
        have e1 : Below w.heap.size w W9 := i4.trans (p1.below (by omega))
        have e2 : MayOK w.heap.size (formK k) (.func (.func mk) #[] mcap) W9 := (hmv1.keep (fun p v hp hc => (World.cell?_of_block (a := p) (p1.block p.block (by omega))).trans hc)).mono (by omega)
        exact ⟨⟨e1.os, e1.tape, e1.output, e1.size, e1.block⟩, .inl ⟨k, .agg (rowC k (.func (.func mk) #[] mcap)), hk, hop, by simp [okI, *], _, rfl, e2.keep (fun _ _ _ h => h)⟩⟩
      · apply wpLexH_val (hw := by kernel_rfl) (hb := by kernel_rfl)
        case hv =>
          intro x hx
          obtain ⟨x0, x1, x2, x3, x4, x5, x6, x7, x8, x9, x10, x11, x12, x13, x14, x15, x16, x17⟩ := hx
          go_simp
          with_reducible rfl
        intro K hK
        go_simp
        refine hK _ _ ?_
        clear hK K
        apply wpLexH_val (hw := by kernel_rfl) (hb := by kernel_rfl)
        case hv =>
          intro x hx
          obtain ⟨x0, x1, x2, x3, x4, x5, x6, x7, x8, x9, x10, x11, x12, x13, x14, x15, x16, x17⟩ := hx
          go_simp
          with_reducible rfl
        intro K hK
        go_simp
        refine hK _ _ ?_
        clear hK K
        apply wpLexH_val (hw := by kernel_rfl) (hb := by kernel_rfl)
        case hv =>
          intro x hx
          obtain ⟨x0, x1, x2, x3, x4, x5, x6, x7, x8, x9, x10, x11, x12, x13, x14, x15, x16, x17⟩ := hx
          go_simp
          with_reducible rfl
        intro K hK
        go_simp
        refine hK _ _ ?_
        clear hK K
        apply wpLexH_val (hw := by kernel_rfl) (hb := by kernel_rfl)
        case hv =>
          intro x hx
          obtain ⟨x0, x1, x2, x3, x4, x5, x6, x7, x8, x9, x10, x11, x12, x13, x14, x15, x16, x17⟩ := hx
          go_simp
          with_reducible rfl
        intro K hK
        go_simp
        refine hK _ _ ?_
        clear hK K
        apply wpLexH_val (hw := by kernel_rfl) (hb := by kernel_rfl)
        case hv =>
          intro x hx
          obtain ⟨x0, x1, x2, x3, x4, x5, x6, x7, x8, x9, x10, x11, x12, x13, x14, x15, x16, x17⟩ := hx
          go_simp
          with_reducible rfl
        intro K hK
        go_simp
        refine hK _ _ ?_
        clear hK K
        refine wpLexH_solo (by kernel_rfl) (by kernel_rfl) (fun K hK => ?_)
        go_simp
        refine (hr3 _).mono ?_; rintro e x ⟨rfl, rfl⟩
        refine hK _ _ (by go_keep) ?_
        clear hK K
        apply wpLexH_val (hw := by kernel_rfl) (hb := by kernel_rfl)
        case hv =>
          intro x hx
          obtain ⟨x0, x1, x2, x3, x4, x5, x6, x7, x8, x9, x10, x11, x12, x13, x14, x15, x16, x17⟩ := hx
          go_simp
          with_reducible rfl
        intro K hK
        go_simp
        refine hK _ _ ?_
        clear hK K
        apply wpLexH_val (hw := by kernel_rfl) (hb := by kernel_rfl)
        case hv =>
          intro x hx
          obtain ⟨x0, x1, x2, x3, x4, x5, x6, x7, x8, x9, x10, x11, x12, x13, x14, x15, x16, x17⟩ := hx
          go_simp
          with_reducible rfl
        intro K hK
        go_simp
        refine hK _ _ ?_
        clear hK K
        cases b3
        · apply wpLexH_skip6 (hb := by kernel_rfl)
          apply wpLexH_val (hw := by kernel_rfl) (hb := by kernel_rfl)
          case hv =>
            intro x hx
            obtain ⟨x0, x1, x2, x3, x4, x5, x6, x7, x8, x9, x10, x11, x12, x13, x14, x15, x16, x17⟩ := hx
            go_simp
            with_reducible rfl
          intro K hK
          go_simp
          refine hK _ _ ?_
          clear hK K
          apply wpLexH_val (hw := by kernel_rfl) (hb := by kernel_rfl)
          case hv =>
            intro x hx
            obtain ⟨x0, x1, x2, x3, x4, x5, x6, x7, x8, x9, x10, x11, x12, x13, x14, x15, x16, x17⟩ := hx
            go_simp
            with_reducible rfl
          intro K hK
          go_simp
          refine hK _ _ ?_
          clear hK K
          apply wpLexH_skip13 (hb := by kernel_rfl)
          apply wpLexH_val (hw := by kernel_rfl) (hb := by kernel_rfl)
          case hv =>
            intro x hx
            obtain ⟨x0, x1, x2, x3, x4, x5, x6, x7, x8, x9, x10, x11, x12, x13, x14, x15, x16, x17⟩ := hx
            go_simp
            with_reducible rfl
          intro K hK
          go_simp
          refine hK _ _ ?_
          clear hK K
          refine wpLexH_solo (by kernel_rfl) (by kernel_rfl) (fun K hK => ?_)
          go_simp
          have p1 := putAt_row i3 (.int .i64 (k + 1)) (.string (nameK k)) (.int .u32 (maskZ (formK k))) (.bool (rdZ (formK k))) (.bool (rs1Z (formK k))) (.bool (rs2Z (formK k))) (.bool (aZ (formK k))) (.func (.func mk) #[] mcap) (.func (.func (putN (formK k))) #[] #[]) (.func (.func (takeN (formK k))) #[] #[]) (.func (.func (toldN (formK k))) #[] #[]) (.int .u32 (bitsK k))
          generalize hW9 : World.setCell _ ⟨w.heap.size + 1, 11, none⟩ _ = W9 at p1 ⊢
          have hk1 : ∀ o, W9.cell? ⟨w'.heap.size, o, none⟩ = W1.cell? ⟨w'.heap.size, o, none⟩ := fun o => World.cell?_of_block (a := ⟨w'.heap.size, o, none⟩) (p1.block w'.heap.size (by omega))
          have hk2 : ∀ o, W9.cell? ⟨w.heap.size, o, none⟩ = W1.cell? ⟨w.heap.size, o, none⟩ := fun o => World.cell?_of_block (a := ⟨w.heap.size, o, none⟩) (p1.block w.heap.size (by omega))
          refine hK _ _ ⟨(hk1 _).trans d0, (hk1 _).trans d1, (hk1 _).trans d2, (hk1 _).trans d3, (hk1 _).trans d4, (hk1 _).trans d5, (hk1 _).trans d6, (hk1 _).trans d7, (hk1 _).trans d8, (hk1 _).trans d9, (hk1 _).trans d10, (hk1 _).trans d11, (hk2 _).trans t1, (hk2 _).trans t2, (hk2 _).trans t3, (hk2 _).trans t4, (hk2 _).trans t5, (hk2 _).trans t6⟩ ?_
          clear hK K hk1 hk2
          apply wpLexH_val (hw := by kernel_rfl) (hb := by kernel_rfl)
          case hv =>
            intro x hx
            obtain ⟨x0, x1, x2, x3, x4, x5, x6, x7, x8, x9, x10, x11, x12, x13, x14, x15, x16, x17⟩ := hx
            go_simp
            with_reducible rfl
          intro K hK
          go_simp
          refine hK _ _ ?_
          clear hK K
          refine wpLexH_nil ?_
          clear d0 d1 d2 d3 d4 d5 d6 d7 d8 d9 d10 d11 t0 t1 t2 t3 t4 t5 t6 z0 z1 z2 z3 z4 z5 z6 z7 z8 z9 z10 z11 fz
          have p2 : W9.heap[w.heap.size + 1]? = some (.cells (rowC k (.func (.func mk) #[] mcap)) 51 (0, 0)) := by rw [p1.here]; simp only [rowC]
          obtain ⟨y0, y1, y2, y3, y4, y5, y6, y7, y8, y9, y10, y11⟩ := cells_row p2
          go_wp2
          refine bodyPost_ret (v := .tuple #[.agg (rowC k (.func (.func mk) #[] mcap)), .bool false]) (by simp [results, Tryd.f26, go_sem, y0, y1, y2, y3, y4, y5, y6, y7, y8, y9, y10, y11, rowC]) rfl ?_
          have e1 : Below w.heap.size w W9 := i4.trans (p1.below (by omega))
          have e2 : MayOK w.heap.size (formK k) (.func (.func mk) #[] mcap) W9 := (hmv1.keep (fun p v hp hc => (World.cell?_of_block (a := p) (p1.block p.block (by omega))).trans hc)).mono (by omega)
          exact ⟨⟨e1.os, e1.tape, e1.output, e1.size, e1.block⟩, .inl ⟨k, .agg (rowC k (.func (.func mk) #[] mcap)), hk, hop, by simp [okI, *], _, rfl, e2.keep (fun _ _ _ h => h)⟩⟩
        · apply wpLexH_val (hw := by kernel_rfl) (hb := by kernel_rfl)
          case hv =>
            intro x hx
            obtain ⟨x0, x1, x2, x3, x4, x5, x6, x7, x8, x9, x10, x11, x12, x13, x14, x15, x16, x17⟩ := hx
            go_simp
            with_reducible rfl
          intro K hK
          go_simp
          refine hK _ _ ?_
          clear hK K
          apply wpLexH_val (hw := by kernel_rfl) (hb := by kernel_rfl)
          case hv =>
            intro x hx
            obtain ⟨x0, x1, x2, x3, x4, x5, x6, x7, x8, x9, x10, x11, x12, x13, x14, x15, x16, x17⟩ := hx
            go_simp
            with_reducible rfl
          intro K hK
          go_simp
          refine hK _ _ ?_
          clear hK K
          apply wpLexH_val (hw := by kernel_rfl) (hb := by kernel_rfl)
          case hv =>
            intro x hx
            obtain ⟨x0, x1, x2, x3, x4, x5, x6, x7, x8, x9, x10, x11, x12, x13, x14, x15, x16, x17⟩ := hx
            go_simp
            with_reducible rfl
          intro K hK
          go_simp
          refine hK _ _ ?_
          clear hK K
          apply wpLexH_val (hw := by kernel_rfl) (hb := by kernel_rfl)
          case hv =>
            intro x hx
            obtain ⟨x0, x1, x2, x3, x4, x5, x6, x7, x8, x9, x10, x11, x12, x13, x14, x15, x16, x17⟩ := hx
            go_simp
            with_reducible rfl
          intro K hK
          go_simp
          refine hK _ _ ?_
          clear hK K
          apply wpLexH_val (hw := by kernel_rfl) (hb := by kernel_rfl)
          case hv =>
            intro x hx
            obtain ⟨x0, x1, x2, x3, x4, x5, x6, x7, x8, x9, x10, x11, x12, x13, x14, x15, x16, x17⟩ := hx
            go_simp
            with_reducible rfl
          intro K hK
          go_simp
          refine hK _ _ ?_
          clear hK K
          refine wpLexH_solo (by kernel_rfl) (by kernel_rfl) (fun K hK => ?_)
          go_simp
          refine (hmay _ (by rfl)).mono ?_; rintro e x ⟨rfl, _, rfl⟩
          refine hK _ _ (by go_keep) ?_
          clear hK K
          apply wpLexH_val (hw := by kernel_rfl) (hb := by kernel_rfl)
          case hv =>
            intro x hx
            obtain ⟨x0, x1, x2, x3, x4, x5, x6, x7, x8, x9, x10, x11, x12, x13, x14, x15, x16, x17⟩ := hx
            go_simp
            with_reducible rfl
          intro K hK
          go_simp
          refine hK _ _ ?_
          clear hK K
          apply wpLexH_val (hw := by kernel_rfl) (hb := by kernel_rfl)
          case hv =>
            intro x hx
            obtain ⟨x0, x1, x2, x3, x4, x5, x6, x7, x8, x9, x10, x11, x12, x13, x14, x15, x16, x17⟩ := hx
            go_simp
            with_reducible rfl
          intro K hK
          go_simp
          refine hK _ _ ?_
          clear hK K
          cases b4
          · apply wpLexH_skip13 (hb := by kernel_rfl)
            apply wpLexH_val (hw := by kernel_rfl) (hb := by kernel_rfl)
            case hv =>
              intro x hx
              obtain ⟨x0, x1, x2, x3, x4, x5, x6, x7, x8, x9, x10, x11, x12, x13, x14, x15, x16, x17⟩ := hx
              go_simp
              with_reducible rfl
            intro K hK
            go_simp
            refine hK _ _ ?_
            clear hK K
            refine wpLexH_solo (by kernel_rfl) (by kernel_rfl) (fun K hK => ?_)
            go_simp
            have p1 := putAt_row i3 (.int .i64 (k + 1)) (.string (nameK k)) (.int .u32 (maskZ (formK k))) (.bool (rdZ (formK k))) (.bool (rs1Z (formK k))) (.bool (rs2Z (formK k))) (.bool (aZ (formK k))) (.func (.func mk) #[] mcap) (.func (.func (putN (formK k))) #[] #[]) (.func (.func (takeN (formK k))) #[] #[]) (.func (.func (toldN (formK k))) #[] #[]) (.int .u32 (bitsK k))
            generalize hW9 : World.setCell _ ⟨w.heap.size + 1, 11, none⟩ _ = W9 at p1 ⊢
            have hk1 : ∀ o, W9.cell? ⟨w'.heap.size, o, none⟩ = W1.cell? ⟨w'.heap.size, o, none⟩ := fun o => World.cell?_of_block (a := ⟨w'.heap.size, o, none⟩) (p1.block w'.heap.size (by omega))
            have hk2 : ∀ o, W9.cell? ⟨w.heap.size, o, none⟩ = W1.cell? ⟨w.heap.size, o, none⟩ := fun o => World.cell?_of_block (a := ⟨w.heap.size, o, none⟩) (p1.block w.heap.size (by omega))
            refine hK _ _ ⟨(hk1 _).trans d0, (hk1 _).trans d1, (hk1 _).trans d2, (hk1 _).trans d3, (hk1 _).trans d4, (hk1 _).trans d5, (hk1 _).trans d6, (hk1 _).trans d7, (hk1 _).trans d8, (hk1 _).trans d9, (hk1 _).trans d10, (hk1 _).trans d11, (hk2 _).trans t1, (hk2 _).trans t2, (hk2 _).trans t3, (hk2 _).trans t4, (hk2 _).trans t5, (hk2 _).trans t6⟩ ?_
            clear hK K hk1 hk2
            apply wpLexH_val (hw := by kernel_rfl) (hb := by kernel_rfl)
            case hv =>
              intro x hx
              obtain ⟨x0, x1, x2, x3, x4, x5, x6, x7, x8, x9, x10, x11, x12, x13, x14, x15, x16, x17⟩ := hx
              go_simp
              with_reducible rfl
            intro K hK
            go_simp
            refine hK _ _ ?_
            clear hK K
            refine wpLexH_nil ?_
            clear d0 d1 d2 d3 d4 d5 d6 d7 d8 d9 d10 d11 t0 t1 t2 t3 t4 t5 t6 z0 z1 z2 z3 z4 z5 z6 z7 z8 z9 z10 z11 fz
            have p2 : W9.heap[w.heap.size + 1]? = some (.cells (rowC k (.func (.func mk) #[] mcap)) 51 (0, 0)) := by rw [p1.here]; simp only [rowC]
            obtain ⟨y0, y1, y2, y3, y4, y5, y6, y7, y8, y9, y10, y11⟩ := cells_row p2
            go_wp2
            refine bodyPost_ret (v := .tuple #[.agg (rowC k (.func (.func mk) #[] mcap)), .bool false]) (by simp [results, Tryd.f26, go_sem, y0, y1, y2, y3, y4, y5, y6, y7, y8, y9, y10, y11, rowC]) rfl ?_
            have e1 : Below w.heap.size w W9 := i4.trans (p1.below (by omega))
            have e2 : MayOK w.heap.size (formK k) (.func (.func mk) #[] mcap) W9 := (hmv1.keep (fun p v hp hc => (World.cell?_of_block (a := p) (p1.block p.block (by omega))).trans hc)).mono (by omega)
            exact ⟨⟨e1.os, e1.tape, e1.output, e1.size, e1.block⟩, .inl ⟨k, .agg (rowC k (.func (.func mk) #[] mcap)), hk, hop, by simp [okI, *], _, rfl, e2.keep (fun _ _ _ h => h)⟩⟩
          · apply wpLexH_val (hw := by kernel_rfl) (hb := by kernel_rfl)
            case hv =>
              intro x hx
              obtain ⟨x0, x1, x2, x3, x4, x5, x6, x7, x8, x9, x10, x11, x12, x13, x14, x15, x16, x17⟩ := hx
              go_simp
              with_reducible rfl
            intro K hK
            go_simp
            refine hK _ _ ?_
            clear hK K
            apply wpLexH_val (hw := by kernel_rfl) (hb := by kernel_rfl)
            case hv =>
              intro x hx
              obtain ⟨x0, x1, x2, x3, x4, x5, x6, x7, x8, x9, x10, x11, x12, x13, x14, x15, x16, x17⟩ := hx
              go_simp
              with_reducible rfl
            intro K hK
            go_simp
            refine hK _ _ ?_
            clear hK K
            apply wpLexH_val (hw := by kernel_rfl) (hb := by kernel_rfl)
            case hv =>
              intro x hx
              obtain ⟨x0, x1, x2, x3, x4, x5, x6, x7, x8, x9, x10, x11, x12, x13, x14, x15, x16, x17⟩ := hx
              go_simp
              with_reducible rfl
            intro K hK
            go_simp
            refine hK _ _ ?_
            clear hK K
            apply wpLexH_val (hw := by kernel_rfl) (hb := by kernel_rfl)
            case hv =>
              intro x hx
              obtain ⟨x0, x1, x2, x3, x4, x5, x6, x7, x8, x9, x10, x11, x12, x13, x14, x15, x16, x17⟩ := hx
              go_simp
              with_reducible rfl
            intro K hK
            go_simp
            refine hK _ _ ?_
            clear hK K
            cases ha : aZ (formK k)
            · rw [ha] at d6
              apply wpLexH_val (hw := by kernel_rfl) (hb := by kernel_rfl)
              case hv =>
                intro x hx
                obtain ⟨x0, x1, x2, x3, x4, x5, x6, x7, x8, x9, x10, x11, x12, x13, x14, x15, x16, x17⟩ := hx
                go_simp
                with_reducible rfl
              intro K hK
              go_simp
              refine hK _ _ ?_
              clear hK K
              apply wpLexH_val (hw := by kernel_rfl) (hb := by kernel_rfl)
              case hv =>
                intro x hx
                obtain ⟨x0, x1, x2, x3, x4, x5, x6, x7, x8, x9, x10, x11, x12, x13, x14, x15, x16, x17⟩ := hx
                go_simp
                with_reducible rfl
              intro K hK
              go_simp
              refine hK _ _ ?_
              clear hK K
              apply wpLexH_val (hw := by kernel_rfl) (hb := by kernel_rfl)
              case hv =>
                intro x hx
                obtain ⟨x0, x1, x2, x3, x4, x5, x6, x7, x8, x9, x10, x11, x12, x13, x14, x15, x16, x17⟩ := hx
                go_simp
                with_reducible rfl
              intro K hK
              go_simp
              refine hK _ _ ?_
              clear hK K
              apply wpLexH_val (hw := by kernel_rfl) (hb := by kernel_rfl)
              case hv =>
                intro x hx
                obtain ⟨x0, x1, x2, x3, x4, x5, x6, x7, x8, x9, x10, x11, x12, x13, x14, x15, x16, x17⟩ := hx
                go_simp
                with_reducible rfl
              intro K hK
              go_simp
              refine hK _ _ ?_
              clear hK K
              cases aq
              · apply wpLexH_val (hw := by kernel_rfl) (hb := by kernel_rfl)
                case hv =>
                  intro x hx
                  obtain ⟨x0, x1, x2, x3, x4, x5, x6, x7, x8, x9, x10, x11, x12, x13, x14, x15, x16, x17⟩ := hx
                  go_simp
                  with_reducible rfl
                intro K hK
                go_simp
                refine hK _ _ ?_
                clear hK K
                apply wpLexH_val (hw := by kernel_rfl) (hb := by kernel_rfl)
                case hv =>
                  intro x hx
                  obtain ⟨x0, x1, x2, x3, x4, x5, x6, x7, x8, x9, x10, x11, x12, x13, x14, x15, x16, x17⟩ := hx
                  go_simp
                  with_reducible rfl
                intro K hK
                go_simp
                refine hK _ _ ?_
                clear hK K
                apply wpLexH_val (hw := by kernel_rfl) (hb := by kernel_rfl)
                case hv =>
                  intro x hx
                  obtain ⟨x0, x1, x2, x3, x4, x5, x6, x7, x8, x9, x10, x11, x12, x13, x14, x15, x16, x17⟩ := hx
                  go_simp
                  with_reducible rfl
                intro K hK
                go_simp
                refine hK _ _ ?_
                clear hK K
                apply wpLexH_val (hw := by kernel_rfl) (hb := by kernel_rfl)
                case hv =>
                  intro x hx
                  obtain ⟨x0, x1, x2, x3, x4, x5, x6, x7, x8, x9, x10, x11, x12, x13, x14, x15, x16, x17⟩ := hx
                  go_simp
                  with_reducible rfl
                intro K hK
                go_simp
                refine hK _ _ ?_
                clear hK K
                apply wpLexH_val (hw := by kernel_rfl) (hb := by kernel_rfl)
                case hv =>
                  intro x hx
                  obtain ⟨x0, x1, x2, x3, x4, x5, x6, x7, x8, x9, x10, x11, x12, x13, x14, x15, x16, x17⟩ := hx
                  go_simp
                  with_reducible rfl
                intro K hK
                go_simp
                refine hK _ _ ?_
                clear hK K
                apply wpLexH_val (hw := by kernel_rfl) (hb := by kernel_rfl)
                case hv =>
                  intro x hx
                  obtain ⟨x0, x1, x2, x3, x4, x5, x6, x7, x8, x9, x10, x11, x12, x13, x14, x15, x16, x17⟩ := hx
                  go_simp
                  with_reducible rfl
                intro K hK
                go_simp
                refine hK _ _ ?_
                clear hK K
                refine wpLexH_solo (by kernel_rfl) (by kernel_rfl) (fun K hK => ?_)
                go_simp
                have p1 := putAt_row i3 (.int .i64 (k + 1)) (.string (nameK k)) (.int .u32 (maskZ (formK k))) (.bool (rdZ (formK k))) (.bool (rs1Z (formK k))) (.bool (rs2Z (formK k))) (.bool false) (.func (.func mk) #[] mcap) (.func (.func (putN (formK k))) #[] #[]) (.func (.func (takeN (formK k))) #[] #[]) (.func (.func (toldN (formK k))) #[] #[]) (.int .u32 (bitsK k))
                generalize hW9 : World.setCell _ ⟨w.heap.size + 1, 11, none⟩ _ = W9 at p1 ⊢
                have hk1 : ∀ o, W9.cell? ⟨w'.heap.size, o, none⟩ = W1.cell? ⟨w'.heap.size, o, none⟩ := fun o => World.cell?_of_block (a := ⟨w'.heap.size, o, none⟩) (p1.block w'.heap.size (by omega))
                have hk2 : ∀ o, W9.cell? ⟨w.heap.size, o, none⟩ = W1.cell? ⟨w.heap.size, o, none⟩ := fun o => World.cell?_of_block (a := ⟨w.heap.size, o, none⟩) (p1.block w.heap.size (by omega))
                refine hK _ _ ⟨(hk1 _).trans d0, (hk1 _).trans d1, (hk1 _).trans d2, (hk1 _).trans d3, (hk1 _).trans d4, (hk1 _).trans d5, (hk1 _).trans d6, (hk1 _).trans d7, (hk1 _).trans d8, (hk1 _).trans d9, (hk1 _).trans d10, (hk1 _).trans d11, (hk2 _).trans t1, (hk2 _).trans t2, (hk2 _).trans t3, (hk2 _).trans t4, (hk2 _).trans t5, (hk2 _).trans t6⟩ ?_
                clear hK K hk1 hk2
                apply wpLexH_val (hw := by kernel_rfl) (hb := by kernel_rfl)
                case hv =>
                  intro x hx
                  obtain ⟨x0, x1, x2, x3, x4, x5, x6, x7, x8, x9, x10, x11, x12, x13, x14, x15, x16, x17⟩ := hx
                  go_simp
                  with_reducible rfl
                intro K hK
                go_simp
                refine hK _ _ ?_
                clear hK K
                refine wpLexH_nil ?_
                clear d0 d1 d2 d3 d4 d5 d6 d7 d8 d9 d10 d11 t0 t1 t2 t3 t4 t5 t6 z0 z1 z2 z3 z4 z5 z6 z7 z8 z9 z10 z11 fz
                have p2 : W9.heap[w.heap.size + 1]? = some (.cells (rowC k (.func (.func mk) #[] mcap)) 51 (0, 0)) := by rw [p1.here]; simp only [rowC, ha]
                obtain ⟨y0, y1, y2, y3, y4, y5, y6, y7, y8, y9, y10, y11⟩ := cells_row p2
                go_wp2
                refine bodyPost_ret (v := .tuple #[.agg (rowC k (.func (.func mk) #[] mcap)), .bool (!rl)]) (by simp [results, Tryd.f26, go_sem, y0, y1, y2, y3, y4, y5, y6, y7, y8, y9, y10, y11, rowC]) rfl ?_
                have e1 : Below w.heap.size w W9 := i4.trans (p1.below (by omega))
                have e2 : MayOK w.heap.size (formK k) (.func (.func mk) #[] mcap) W9 := (hmv1.keep (fun p v hp hc => (World.cell?_of_block (a := p) (p1.block p.block (by omega))).trans hc)).mono (by omega)
                exact ⟨⟨e1.os, e1.tape, e1.output, e1.size, e1.block⟩, .inl ⟨k, .agg (rowC k (.func (.func mk) #[] mcap)), hk, hop, by simp [okI, *], _, rfl, e2.keep (fun _ _ _ h => h)⟩⟩
              · apply wpLexH_skip3 (hb := by kernel_rfl)
                apply wpLexH_val (hw := by kernel_rfl) (hb := by kernel_rfl)
                case hv =>
                  intro x hx
                  obtain ⟨x0, x1, x2, x3, x4, x5, x6, x7, x8, x9, x10, x11, x12, x13, x14, x15, x16, x17⟩ := hx
                  go_simp
                  with_reducible rfl
                intro K hK
                go_simp
                refine hK _ _ ?_
                clear hK K
                apply wpLexH_val (hw := by kernel_rfl) (hb := by kernel_rfl)
                case hv =>
                  intro x hx
                  obtain ⟨x0, x1, x2, x3, x4, x5, x6, x7, x8, x9, x10, x11, x12, x13, x14, x15, x16, x17⟩ := hx
                  go_simp
                  with_reducible rfl
                intro K hK
                go_simp
                refine hK _ _ ?_
                clear hK K
                apply wpLexH_val (hw := by kernel_rfl) (hb := by kernel_rfl)
                case hv =>
                  intro x hx
                  obtain ⟨x0, x1, x2, x3, x4, x5, x6, x7, x8, x9, x10, x11, x12, x13, x14, x15, x16, x17⟩ := hx
                  go_simp
                  with_reducible rfl
                intro K hK
                go_simp
                refine hK _ _ ?_
                clear hK K
                refine wpLexH_solo (by kernel_rfl) (by kernel_rfl) (fun K hK => ?_)
                go_simp
                have p1 := putAt_row i3 (.int .i64 (k + 1)) (.string (nameK k)) (.int .u32 (maskZ (formK k))) (.bool (rdZ (formK k))) (.bool (rs1Z (formK k))) (.bool (rs2Z (formK k))) (.bool false) (.func (.func mk) #[] mcap) (.func (.func (putN (formK k))) #[] #[]) (.func (.func (takeN (formK k))) #[] #[]) (.func (.func (toldN (formK k))) #[] #[]) (.int .u32 (bitsK k))
                generalize hW9 : World.setCell _ ⟨w.heap.size + 1, 11, none⟩ _ = W9 at p1 ⊢
                have hk1 : ∀ o, W9.cell? ⟨w'.heap.size, o, none⟩ = W1.cell? ⟨w'.heap.size, o, none⟩ := fun o => World.cell?_of_block (a := ⟨w'.heap.size, o, none⟩) (p1.block w'.heap.size (by omega))
                have hk2 : ∀ o, W9.cell? ⟨w.heap.size, o, none⟩ = W1.cell? ⟨w.heap.size, o, none⟩ := fun o => World.cell?_of_block (a := ⟨w.heap.size, o, none⟩) (p1.block w.heap.size (by omega))
                refine hK _ _ ⟨(hk1 _).trans d0, (hk1 _).trans d1, (hk1 _).trans d2, (hk1 _).trans d3, (hk1 _).trans d4, (hk1 _).trans d5, (hk1 _).trans d6, (hk1 _).trans d7, (hk1 _).trans d8, (hk1 _).trans d9, (hk1 _).trans d10, (hk1 _).trans d11, (hk2 _).trans t1, (hk2 _).trans t2, (hk2 _).trans t3, (hk2 _).trans t4, (hk2 _).trans t5, (hk2 _).trans t6⟩ ?_
                clear hK K hk1 hk2
                apply wpLexH_val (hw := by kernel_rfl) (hb := by kernel_rfl)
                case hv =>
                  intro x hx
                  obtain ⟨x0, x1, x2, x3, x4, x5, x6, x7, x8, x9, x10, x11, x12, x13, x14, x15, x16, x17⟩ := hx
                  go_simp
                  with_reducible rfl
                intro K hK
                go_simp
                refine hK _ _ ?_
                clear hK K
                refine wpLexH_nil ?_
                clear d0 d1 d2 d3 d4 d5 d6 d7 d8 d9 d10 d11 t0 t1 t2 t3 t4 t5 t6 z0 z1 z2 z3 z4 z5 z6 z7 z8 z9 z10 z11 fz
                have p2 : W9.heap[w.heap.size + 1]? = some (.cells (rowC k (.func (.func mk) #[] mcap)) 51 (0, 0)) := by rw [p1.here]; simp only [rowC, ha]
                obtain ⟨y0, y1, y2, y3, y4, y5, y6, y7, y8, y9, y10, y11⟩ := cells_row p2
                go_wp2
                refine bodyPost_ret (v := .tuple #[.agg (rowC k (.func (.func mk) #[] mcap)), .bool false]) (by simp [results, Tryd.f26, go_sem, y0, y1, y2, y3, y4, y5, y6, y7, y8, y9, y10, y11, rowC]) rfl ?_
                have e1 : Below w.heap.size w W9 := i4.trans (p1.below (by omega))
                have e2 : MayOK w.heap.size (formK k) (.func (.func mk) #[] mcap) W9 := (hmv1.keep (fun p v hp hc => (World.cell?_of_block (a := p) (p1.block p.block (by omega))).trans hc)).mono (by omega)
                exact ⟨⟨e1.os, e1.tape, e1.output, e1.size, e1.block⟩, .inl ⟨k, .agg (rowC k (.func (.func mk) #[] mcap)), hk, hop, by simp [okI, *], _, rfl, e2.keep (fun _ _ _ h => h)⟩⟩
            · rw [ha] at d6
              apply wpLexH_skip8 (hb := by kernel_rfl)
              apply wpLexH_val (hw := by kernel_rfl) (hb := by kernel_rfl)
              case hv =>
                intro x hx
                obtain ⟨x0, x1, x2, x3, x4, x5, x6, x7, x8, x9, x10, x11, x12, x13, x14, x15, x16, x17⟩ := hx
                go_simp
                with_reducible rfl
              intro K hK
              go_simp
              refine hK _ _ ?_
              clear hK K
              apply wpLexH_val (hw := by kernel_rfl) (hb := by kernel_rfl)
              case hv =>
                intro x hx
                obtain ⟨x0, x1, x2, x3, x4, x5, x6, x7, x8, x9, x10, x11, x12, x13, x14, x15, x16, x17⟩ := hx
                go_simp
                with_reducible rfl
              intro K hK
              go_simp
              refine hK _ _ ?_
              clear hK K
              refine wpLexH_solo (by kernel_rfl) (by kernel_rfl) (fun K hK => ?_)
              go_simp
              have p1 := putAt_row i3 (.int .i64 (k + 1)) (.string (nameK k)) (.int .u32 (maskZ (formK k))) (.bool (rdZ (formK k))) (.bool (rs1Z (formK k))) (.bool (rs2Z (formK k))) (.bool true) (.func (.func mk) #[] mcap) (.func (.func (putN (formK k))) #[] #[]) (.func (.func (takeN (formK k))) #[] #[]) (.func (.func (toldN (formK k))) #[] #[]) (.int .u32 (bitsK k))
              generalize hW9 : World.setCell _ ⟨w.heap.size + 1, 11, none⟩ _ = W9 at p1 ⊢
              have hk1 : ∀ o, W9.cell? ⟨w'.heap.size, o, none⟩ = W1.cell? ⟨w'.heap.size, o, none⟩ := fun o => World.cell?_of_block (a := ⟨w'.heap.size, o, none⟩) (p1.block w'.heap.size (by omega))
              have hk2 : ∀ o, W9.cell? ⟨w.heap.size, o, none⟩ = W1.cell? ⟨w.heap.size, o, none⟩ := fun o => World.cell?_of_block (a := ⟨w.heap.size, o, none⟩) (p1.block w.heap.size (by omega))
              refine hK _ _ ⟨(hk1 _).trans d0, (hk1 _).trans d1, (hk1 _).trans d2, (hk1 _).trans d3, (hk1 _).trans d4, (hk1 _).trans d5, (hk1 _).trans d6, (hk1 _).trans d7, (hk1 _).trans d8, (hk1 _).trans d9, (hk1 _).trans d10, (hk1 _).trans d11, (hk2 _).trans t1, (hk2 _).trans t2, (hk2 _).trans t3, (hk2 _).trans t4, (hk2 _).trans t5, (hk2 _).trans t6⟩ ?_
              clear hK K hk1 hk2
              apply wpLexH_val (hw := by kernel_rfl) (hb := by kernel_rfl)
              case hv =>
                intro x hx
                obtain ⟨x0, x1, x2, x3, x4, x5, x6, x7, x8, x9, x10, x11, x12, x13, x14, x15, x16, x17⟩ := hx
                go_simp
                with_reducible rfl
              intro K hK
              go_simp
              refine hK _ _ ?_
              clear hK K
              refine wpLexH_nil ?_
              clear d0 d1 d2 d3 d4 d5 d6 d7 d8 d9 d10 d11 t0 t1 t2 t3 t4 t5 t6 z0 z1 z2 z3 z4 z5 z6 z7 z8 z9 z10 z11 fz
              have p2 : W9.heap[w.heap.size + 1]? = some (.cells (rowC k (.func (.func mk) #[] mcap)) 51 (0, 0)) := by rw [p1.here]; simp only [rowC, ha]
              obtain ⟨y0, y1, y2, y3, y4, y5, y6, y7, y8, y9, y10, y11⟩ := cells_row p2
              go_wp2
              refine bodyPost_ret (v := .tuple #[.agg (rowC k (.func (.func mk) #[] mcap)), .bool true]) (by simp [results, Tryd.f26, go_sem, y0, y1, y2, y3, y4, y5, y6, y7, y8, y9, y10, y11, rowC]) rfl ?_
              have e1 : Below w.heap.size w W9 := i4.trans (p1.below (by omega))
              have e2 : MayOK w.heap.size (formK k) (.func (.func mk) #[] mcap) W9 := (hmv1.keep (fun p v hp hc => (World.cell?_of_block (a := p) (p1.block p.block (by omega))).trans hc)).mono (by omega)
              exact ⟨⟨e1.os, e1.tape, e1.output, e1.size, e1.block⟩, .inl ⟨k, .agg (rowC k (.func (.func mk) #[] mcap)), hk, hop, by simp [okI, *], _, rfl, e2.keep (fun _ _ _ h => h)⟩⟩
  · have hb0 := hb.size
    simp only [World.size_alloc] at hb0
    have j2 : w'.heap[w.heap.size]? = some (.cells (Inst.mk op rd rs1 rs2 imm aq rl).val 25 (0, 0)) := by
      rw [hb.block _ (by simp; omega), Below.heap_alloc _ _ _ (by simp)]; exact World.alloc_heap_new w _
    have j3 : w'.heap[w.heap.size + 1]? = some (.cells zeroRow 51 (0, 0)) := by
      rw [hb.block _ (by simp)]
      have := World.alloc_heap_new (w.alloc (.cells (Inst.mk op rd rs1 rs2 imm aq rl).val 25)) (.cells zeroRow 51)
      rwa [World.size_alloc] at this
    have hbw : Below w.heap.size w w' := (((Below.refl _ w).alloc (Nat.le_refl _) _).alloc (by simp) _).trans (hb.mono (by simp; omega))
    generalize hW1 : World.alloc w' _ = W1
    have i0 : Below w'.heap.size w' W1 := by rw [← hW1]; exact (Below.refl _ _).alloc (Nat.le_refl _) _
    have i1 : W1.heap[w'.heap.size]? = some (.cells zeroRow 51 (0, 0)) := by rw [← hW1]; exact World.alloc_heap_new w' _
    have i2 := (i0.block _ (by omega)).trans j2
    have i3 := (i0.block _ (by omega)).trans j3
    have i4 : Below w.heap.size w W1 := hbw.trans (i0.mono (by omega))
    clear j2 j3 hW1 i0 hb hbw
    obtain ⟨d0, d1, d2, d3, d4, d5, d6, d7, d8, d9, d10, d11⟩ := cells_zrow i1
    obtain ⟨t0, t1, t2, t3, t4, t5, t6⟩ := cells_inst i2
    obtain ⟨z0, z1, z2, z3, z4, z5, z6, z7, z8, z9, z10, z11⟩ := cells_zrow i3
    have fz := free_of i3
    have hq2 : ∀ (W : World) (q : Nat) (p : Addr) (v : Value), (W.drewN q).setCell p v = (W.setCell p v).drewN q := fun _ _ _ _ => rfl
    refine wp_region_lexH (fun x => x.cell? ⟨w'.heap.size, 0, none⟩ = some (.int .i64 0) ∧ x.cell? ⟨w'.heap.size, 1, none⟩ = some (.string ⟨#[]⟩) ∧ x.cell? ⟨w'.heap.size, 2, none⟩ = some (.int .u32 0) ∧ x.cell? ⟨w'.heap.size, 3, none⟩ = some (.bool false) ∧ x.cell? ⟨w'.heap.size, 4, none⟩ = some (.bool false) ∧ x.cell? ⟨w'.heap.size, 5, none⟩ = some (.bool false) ∧ x.cell? ⟨w'.heap.size, 6, none⟩ = some (.bool false) ∧ x.cell? ⟨w'.heap.size, 7, none⟩ = some .nilFunc ∧ x.cell? ⟨w'.heap.size, 8, none⟩ = some .nilFunc ∧ x.cell? ⟨w'.heap.size, 9, none⟩ = some .nilFunc ∧ x.cell? ⟨w'.heap.size, 10, none⟩ = some .nilFunc ∧ x.cell? ⟨w'.heap.size, 11, none⟩ = some (.int .u32 0) ∧ x.cell? ⟨w.heap.size, 1, none⟩ = some (.int .i64 rd) ∧ x.cell? ⟨w.heap.size, 2, none⟩ = some (.int .i64 rs1) ∧ x.cell? ⟨w.heap.size, 3, none⟩ = some (.int .i64 rs2) ∧ x.cell? ⟨w.heap.size, 4, none⟩ = some (.int .u32 imm) ∧ x.cell? ⟨w.heap.size, 5, none⟩ = some (.bool aq) ∧ x.cell? ⟨w.heap.size, 6, none⟩ = some (.bool rl)) (fun k => k == 8 || k == 16 || k == 24 || k == 32 || k == 49) rfl (by kernel_rfl) (fun _ _ d _ _ h => by cases d <;> exact h) (by go_keep) ?_
    apply wpLexH_val (hw := by kernel_rfl) (hb := by kernel_rfl)
    case hv =>
      intro x hx
      obtain ⟨x0, x1, x2, x3, x4, x5, x6, x7, x8, x9, x10, x11, x12, x13, x14, x15, x16, x17⟩ := hx
      go_simp
      with_reducible rfl
    intro K hK
    go_simp
    refine hK _ _ ?_
    clear hK K
    apply wpLexH_val (hw := by kernel_rfl) (hb := by kernel_rfl)
    case hv =>
      intro x hx
      obtain ⟨x0, x1, x2, x3, x4, x5, x6, x7, x8, x9, x10, x11, x12, x13, x14, x15, x16, x17⟩ := hx
      go_simp
      with_reducible rfl
    intro K hK
    go_simp
    refine hK _ _ ?_
    clear hK K
    apply wpLexH_val (hw := by kernel_rfl) (hb := by kernel_rfl)
    case hv =>
      intro x hx
      obtain ⟨x0, x1, x2, x3, x4, x5, x6, x7, x8, x9, x10, x11, x12, x13, x14, x15, x16, x17⟩ := hx
      go_simp
      with_reducible rfl
    intro K hK
    go_simp
    refine hK _ _ ?_
    clear hK K
    apply wpLexH_skip6 (hb := by kernel_rfl)
    apply wpLexH_val (hw := by kernel_rfl) (hb := by kernel_rfl)
    case hv =>
      intro x hx
      obtain ⟨x0, x1, x2, x3, x4, x5, x6, x7, x8, x9, x10, x11, x12, x13, x14, x15, x16, x17⟩ := hx
      go_simp
      with_reducible rfl
    intro K hK
    go_simp
    refine hK _ _ ?_
    clear hK K
    apply wpLexH_val (hw := by kernel_rfl) (hb := by kernel_rfl)
    case hv =>
      intro x hx
      obtain ⟨x0, x1, x2, x3, x4, x5, x6, x7, x8, x9, x10, x11, x12, x13, x14, x15, x16, x17⟩ := hx
      go_simp
      with_reducible rfl
    intro K hK
    go_simp
    refine hK _ _ ?_
    clear hK K
    apply wpLexH_skip6 (hb := by kernel_rfl)
    apply wpLexH_val (hw := by kernel_rfl) (hb := by kernel_rfl)
    case hv =>
      intro x hx
      obtain ⟨x0, x1, x2, x3, x4, x5, x6, x7, x8, x9, x10, x11, x12, x13, x14, x15, x16, x17⟩ := hx
      go_simp
      with_reducible rfl
    intro K hK
    go_simp
    refine hK _ _ ?_
    clear hK K
    apply wpLexH_val (hw := by kernel_rfl) (hb := by kernel_rfl)
    case hv =>
      intro x hx
      obtain ⟨x0, x1, x2, x3, x4, x5, x6, x7, x8, x9, x10, x11, x12, x13, x14, x15, x16, x17⟩ := hx
      go_simp
      with_reducible rfl
    intro K hK
    go_simp
    refine hK _ _ ?_
    clear hK K
    apply wpLexH_skip6 (hb := by kernel_rfl)
    apply wpLexH_val (hw := by kernel_rfl) (hb := by kernel_rfl)
    case hv =>
      intro x hx
      obtain ⟨x0, x1, x2, x3, x4, x5, x6, x7, x8, x9, x10, x11, x12, x13, x14, x15, x16, x17⟩ := hx
      go_simp
      with_reducible rfl
    intro K hK
    go_simp
    refine hK _ _ ?_
    clear hK K
    apply wpLexH_val (hw := by kernel_rfl) (hb := by kernel_rfl)
    case hv =>
      intro x hx
      obtain ⟨x0, x1, x2, x3, x4, x5, x6, x7, x8, x9, x10, x11, x12, x13, x14, x15, x16, x17⟩ := hx
      go_simp
      with_reducible rfl
    intro K hK
    go_simp
    refine hK _ _ ?_
    clear hK K
    apply wpLexH_skip6 (hb := by kernel_rfl)
    apply wpLexH_val (hw := by kernel_rfl) (hb := by kernel_rfl)
    case hv =>
      intro x hx
      obtain ⟨x0, x1, x2, x3, x4, x5, x6, x7, x8, x9, x10, x11, x12, x13, x14, x15, x16, x17⟩ := hx
      go_simp
      with_reducible rfl
    intro K hK
    go_simp
    refine hK _ _ ?_
    clear hK K
    apply wpLexH_val (hw := by kernel_rfl) (hb := by kernel_rfl)
    case hv =>
      intro x hx
      obtain ⟨x0, x1, x2, x3, x4, x5, x6, x7, x8, x9, x10, x11, x12, x13, x14, x15, x16, x17⟩ := hx
      go_simp
      with_reducible rfl
    intro K hK
    go_simp
    refine hK _ _ ?_
    clear hK K
    apply wpLexH_skip13 (hb := by kernel_rfl)
    apply wpLexH_val (hw := by kernel_rfl) (hb := by kernel_rfl)
    case hv =>
      intro x hx
      obtain ⟨x0, x1, x2, x3, x4, x5, x6, x7, x8, x9, x10, x11, x12, x13, x14, x15, x16, x17⟩ := hx
      go_simp
      with_reducible rfl
    intro K hK
    go_simp
    refine hK _ _ ?_
    clear hK K
    refine wpLexH_solo (by kernel_rfl) (by kernel_rfl) (fun K hK => ?_)
    go_simp
    have p1 := putAt_row i3 (.int .i64 0) (.string ⟨#[]⟩) (.int .u32 0) (.bool false) (.bool false) (.bool false) (.bool false) .nilFunc .nilFunc .nilFunc .nilFunc (.int .u32 0)
    generalize hW9 : World.setCell _ ⟨w.heap.size + 1, 11, none⟩ _ = W9 at p1 ⊢
    have hk1 : ∀ o, W9.cell? ⟨w'.heap.size, o, none⟩ = W1.cell? ⟨w'.heap.size, o, none⟩ := fun o => World.cell?_of_block (a := ⟨w'.heap.size, o, none⟩) (p1.block w'.heap.size (by omega))
    have hk2 : ∀ o, W9.cell? ⟨w.heap.size, o, none⟩ = W1.cell? ⟨w.heap.size, o, none⟩ := fun o => World.cell?_of_block (a := ⟨w.heap.size, o, none⟩) (p1.block w.heap.size (by omega))
    refine hK _ _ ⟨(hk1 _).trans d0, (hk1 _).trans d1, (hk1 _).trans d2, (hk1 _).trans d3, (hk1 _).trans d4, (hk1 _).trans d5, (hk1 _).trans d6, (hk1 _).trans d7, (hk1 _).trans d8, (hk1 _).trans d9, (hk1 _).trans d10, (hk1 _).trans d11, (hk2 _).trans t1, (hk2 _).trans t2, (hk2 _).trans t3, (hk2 _).trans t4, (hk2 _).trans t5, (hk2 _).trans t6⟩ ?_
    clear hK K hk1 hk2
    apply wpLexH_val (hw := by kernel_rfl) (hb := by kernel_rfl)
    case hv =>
      intro x hx
      obtain ⟨x0, x1, x2, x3, x4, x5, x6, x7, x8, x9, x10, x11, x12, x13, x14, x15, x16, x17⟩ := hx
      go_simp
      with_reducible rfl
    intro K hK
    go_simp
    refine hK _ _ ?_
    clear hK K
    refine wpLexH_nil ?_
    clear d0 d1 d2 d3 d4 d5 d6 d7 d8 d9 d10 d11 t0 t1 t2 t3 t4 t5 t6 z0 z1 z2 z3 z4 z5 z6 z7 z8 z9 z10 z11 fz
    obtain ⟨y0, y1, y2, y3, y4, y5, y6, y7, y8, y9, y10, y11⟩ := cells_zrow p1.here
    go_wp2
    refine bodyPost_ret (v := .tuple #[.agg zeroRow, .bool false]) (by simp [results, Tryd.f26, go_sem, y0, y1, y2, y3, y4, y5, y6, y7, y8, y9, y10, y11, zeroRow]) rfl ?_
    have e1 : Below w.heap.size w W9 := i4.trans (p1.below (by omega))
    exact ⟨⟨e1.os, e1.tape, e1.output, e1.size, e1.block⟩, .inr ⟨ho, rfl⟩⟩
end Go.Proofs.YtamilahkdinjkaaDoor
