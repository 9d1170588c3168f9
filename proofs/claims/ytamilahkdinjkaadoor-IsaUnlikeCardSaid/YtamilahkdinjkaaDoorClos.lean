/-
  The closures of isa's forms, met by their form: put, take, may; within and even, which lay the cells that may's closures hold.
-/
import Derived.Test.YtamilahkdinjkaaDoorSmall
import Derived.Shelf.Abstract
import Derived.Laws.EntriesVeiled
namespace Go.Proofs.YtamilahkdinjkaaDoor
set_option linter.unusedVariables false
set_option linter.unusedSimpArgs false
open Go.RowKit Go.Shelf

def putN : Fm → Nat
  | .u => 60
  | .j => 65
  | .b => 70
  | .s => 73
  | .i | .load => 49
  | .shift => 68
  | .fence => 76
  | _ => 45
def takeN : Fm → Nat
  | .u => 61
  | .j => 66
  | .b => 71
  | .s => 74
  | .i | .load => 46
  | .shift => 69
  | .fence => 77
  | _ => 45
def toldN : Fm → Nat
  | .u => 62
  | .j => 67
  | .i | .shift => 50
  | .load => 54
  | .b => 72
  | .s => 75
  | .r => 56
  | .fence => 53
  | .all => 78
  | .lr => 58
  | .a => 57
  | .csr => 79

theorem put_any (f : Fm) (n : Int) (w : World) (h0 : 0 ≤ n) (h1 : n < 4294967296) :
    Calls Tryd.prog (putN f) #[.int .u32 n] w fun e w' => e = .returned (.int .u32 (putZ f n)) ∧ Quiet w w' := by
  cases f
  · exact put_u n w h0 h1
  · exact put_j n w h0 h1
  · exact put_i n w h0 h1
  · exact put_i n w h0 h1
  · exact put_shift n w h0 h1
  · exact put_b n w h0 h1
  · exact put_s n w h0 h1
  · exact put_zero n w h0 h1
  · exact put_fence n w h0 h1
  all_goals exact put_zero n w h0 h1
theorem take_any (f : Fm) (n : Int) (w : World) (h0 : 0 ≤ n) (h1 : n < 4294967296) :
    Calls Tryd.prog (takeN f) #[.int .u32 n] w fun e w' => e = .returned (.int .u32 (takeZ f n)) ∧ Quiet w w' := by
  cases f
  · exact take_u n w h0 h1
  · exact take_j n w h0 h1
  · exact take_i n w h0 h1
  · exact take_i n w h0 h1
  · exact take_shift n w h0 h1
  · exact take_b n w h0 h1
  · exact take_s n w h0 h1
  · exact put_zero n w h0 h1
  · exact take_fence n w h0 h1
  all_goals exact put_zero n w h0 h1

theorem en10 : Enters Tryd.prog 60 := enters_of Tryd.func60 (by kernel_rfl) rfl
theorem en13 : Enters Tryd.prog 65 := enters_of Tryd.func65 (by kernel_rfl) rfl
theorem en18 : Enters Tryd.prog 70 := enters_of Tryd.func70 (by kernel_rfl) rfl
theorem en21 : Enters Tryd.prog 73 := enters_of Tryd.func73 (by kernel_rfl) rfl
theorem en3 : Enters Tryd.prog 49 := enters_of Tryd.func49 (by kernel_rfl) rfl
theorem en16 : Enters Tryd.prog 68 := enters_of Tryd.func68 (by kernel_rfl) rfl
theorem en24 : Enters Tryd.prog 76 := enters_of Tryd.func76 (by kernel_rfl) rfl
theorem en1 : Enters Tryd.prog 45 := enters_of Tryd.func45 (by kernel_rfl) rfl
theorem en11 : Enters Tryd.prog 61 := enters_of Tryd.func61 (by kernel_rfl) rfl
theorem en14 : Enters Tryd.prog 66 := enters_of Tryd.func66 (by kernel_rfl) rfl
theorem en19 : Enters Tryd.prog 71 := enters_of Tryd.func71 (by kernel_rfl) rfl
theorem en22 : Enters Tryd.prog 74 := enters_of Tryd.func74 (by kernel_rfl) rfl
theorem en2 : Enters Tryd.prog 46 := enters_of Tryd.func46 (by kernel_rfl) rfl
theorem en17 : Enters Tryd.prog 69 := enters_of Tryd.func69 (by kernel_rfl) rfl
theorem en25 : Enters Tryd.prog 77 := enters_of Tryd.func77 (by kernel_rfl) rfl
theorem enMay9 : Enters Tryd.prog 59 := enters_of Tryd.func59 (by kernel_rfl) rfl
theorem enNone : Enters Tryd.prog 55 := enters_of Tryd.func55 (by kernel_rfl) rfl
theorem enWithin : Enters Tryd.prog 87 := enters_of Tryd.func87 (by kernel_rfl) rfl
theorem enEven : Enters Tryd.prog 91 := enters_of Tryd.func91 (by kernel_rfl) rfl
theorem enPut (f : Fm) : Enters Tryd.prog (putN f) := by
  cases f
  · exact en10
  · exact en13
  · exact en3
  · exact en3
  · exact en16
  · exact en18
  · exact en21
  · exact en1
  · exact en24
  all_goals exact en1
theorem enTake (f : Fm) : Enters Tryd.prog (takeN f) := by
  cases f
  · exact en11
  · exact en14
  · exact en2
  · exact en2
  · exact en17
  · exact en19
  · exact en22
  · exact en1
  · exact en25
  all_goals exact en1

/-- A cell in a block from B on. -/
def CellAt (B : Nat) (w : World) (p : Addr) (v : Value) : Prop := B ≤ p.block ∧ w.cell? p = some v
theorem CellAt.mono {B B' : Nat} {w : World} {p : Addr} {v : Value} (h : CellAt B w p v) (hb : B' ≤ B) : CellAt B' w p v := ⟨Nat.le_trans hb h.1, h.2⟩

/-- What may's closure is, and what it holds, in blocks from B on. -/
def MayOK (B : Nat) : Fm → Value → World → Prop
  | .u, v, _ => v = .func (.func 59) #[] #[]
  | .j, v, w => ∃ p q r : Addr, v = .func (.func 91) #[] #[.pointer (some r)] ∧ CellAt B w r (.func (.func 87) #[] #[.pointer (some p), .pointer (some q)]) ∧
      CellAt B w p (.int .i64 (-1048576)) ∧ CellAt B w q (.int .i64 1048574)
  | .b, v, w => ∃ p q r : Addr, v = .func (.func 91) #[] #[.pointer (some r)] ∧ CellAt B w r (.func (.func 87) #[] #[.pointer (some p), .pointer (some q)]) ∧
      CellAt B w p (.int .i64 (-4096)) ∧ CellAt B w q (.int .i64 4094)
  | .i, v, w | .load, v, w | .s, v, w => ∃ p q : Addr, v = .func (.func 87) #[] #[.pointer (some p), .pointer (some q)] ∧ CellAt B w p (.int .i64 (-2048)) ∧ CellAt B w q (.int .i64 2047)
  | .shift, v, w => ∃ p q : Addr, v = .func (.func 87) #[] #[.pointer (some p), .pointer (some q)] ∧ CellAt B w p (.int .i64 0) ∧ CellAt B w q (.int .i64 31)
  | .fence, v, w => ∃ p q : Addr, v = .func (.func 87) #[] #[.pointer (some p), .pointer (some q)] ∧ CellAt B w p (.int .i64 0) ∧ CellAt B w q (.int .i64 255)
  | _, v, _ => v = .func (.func 55) #[] #[]

theorem cell_lt {w : World} {p : Addr} {v : Value} (h : w.cell? p = some v) : p.block < w.heap.size := by
  unfold World.cell? at h
  rcases Nat.lt_or_ge p.block w.heap.size with hl | hl
  · exact hl
  · rw [Array.getElem?_eq_none hl] at h; cases h
theorem cell_below {w w' : World} (hb : Below w.heap.size w w') {p : Addr} {v : Value} (h : w.cell? p = some v) : w'.cell? p = some v :=
  (hb.cell (cell_lt h)).trans h

theorem cell_alloc {w : World} {o : Obj} {p : Addr} {v : Value} (h : w.cell? p = some v) : (w.alloc o).cell? p = some v :=
  cell_below ((Below.refl _ w).alloc (Nat.le_refl _) o) h

/-- What the cells held they hold. -/
def Held (w w' : World) : Prop := ∀ (p : Addr) (v : Value), w.cell? p = some v → w'.cell? p = some v
theorem Held.refl (w : World) : Held w w := fun _ _ h => h
theorem Held.trans {a b c : World} (h : Held a b) (k : Held b c) : Held a c := fun p v hp => k p v (h p v hp)
theorem held_below {w w' : World} (hb : Below w.heap.size w w') : Held w w' := fun _ _ h => cell_below hb h
theorem held_drewN (w : World) (q : Nat) : Held w (w.drewN q) := fun _ _ h => h

/-- What the cells from block B on held they hold. -/
def HeldFrom (B : Nat) (w w' : World) : Prop := ∀ (p : Addr) (v : Value), B ≤ p.block → w.cell? p = some v → w'.cell? p = some v
theorem Held.from {w w' : World} (h : Held w w') (B : Nat) : HeldFrom B w w' := fun p v _ hp => h p v hp
theorem HeldFrom.trans {B : Nat} {a b c : World} (h : HeldFrom B a b) (k : HeldFrom B b c) : HeldFrom B a c := fun p v hB hp => k p v hB (h p v hB hp)
theorem CellAt.keep {B : Nat} {w w' : World} {p : Addr} {v : Value} (h : CellAt B w p v) (hh : HeldFrom B w w') : CellAt B w' p v := ⟨h.1, hh _ _ h.1 h.2⟩

theorem MayOK.keep {B : Nat} {f : Fm} {v : Value} {w w' : World} (h : MayOK B f v w) (hb : HeldFrom B w w') : MayOK B f v w' := by
  cases f
  case u | r | all | lr | a | csr => exact h
  case j | b =>
    obtain ⟨p, q, r, h1, h2, h3, h4⟩ := h
    exact ⟨p, q, r, h1, h2.keep hb, h3.keep hb, h4.keep hb⟩
  all_goals
    obtain ⟨p, q, h1, h2, h3⟩ := h
    exact ⟨p, q, h1, h2.keep hb, h3.keep hb⟩

/-- **may's closure, called.** -/
theorem may_any {B : Nat} {f : Fm} {v : Value} {w : World} (h : MayOK B f v w) : ∃ k cap, v = .func (.func k) #[] cap ∧ Enters Tryd.prog k ∧
    ∀ n : Int, 0 ≤ n → n < 4294967296 → Calls Tryd.prog k (#[.int .u32 n] ++ cap) w fun e w' => e = .returned (.bool (mayZ f n)) ∧ Quiet w w' := by
  cases f
  case u => exact ⟨_, _, h, enMay9, fun n h0 h1 => may_u n w h0 h1⟩
  case r | all | lr | a | csr => exact ⟨_, _, h, enNone, fun n h0 h1 => mayNone n w h0 h1⟩
  case j | b =>
    obtain ⟨p, q, r, rfl, h2, h3, h4⟩ := h
    exact ⟨_, _, rfl, enEven, fun n h0 h1 => even1_any n _ _ p q r w h0 h1 h3.2 h4.2 h2.2⟩
  all_goals
    obtain ⟨p, q, rfl, h3, h4⟩ := h
    exact ⟨_, _, rfl, enWithin, fun n h0 h1 => within1_any n _ _ p q w h0 h1 h3.2 h4.2⟩

set_option maxHeartbeats 400000 in
theorem within_any (a b : Int) (w : World) :
    Calls Tryd.prog 48 #[.int .i64 a, .int .i64 b] w fun e w' => ∃ p q : Addr, e = .returned (.func (.func 87) #[] #[.pointer (some p), .pointer (some q)]) ∧
      CellAt w.heap.size w' p (.int .i64 a) ∧ CellAt w.heap.size w' q (.int .i64 b) ∧ Below w.heap.size w w' := by
  have hmf : ∀ (fn : Fn) (first cap : Array Value) (w : World), (Instr.makeFunc fn first cap).run Tryd.prog w = .ok (.func fn first cap) w := fun _ _ _ _ => rfl
  go_enter Tryd.func48, Tryd.ntmps48
  go_wp2
  go_ret
  refine ⟨⟨w.heap.size, 0, none⟩, ⟨w.heap.size + 1, 0, none⟩, rfl, ⟨Nat.le_refl _, by go_simp⟩, ⟨Nat.le_succ _, by go_simp⟩, ?_⟩
  exact ((Below.refl _ w).alloc (Nat.le_refl _) _).alloc (by simp) _

set_option maxHeartbeats 400000 in
theorem even_any (a b : Int) (w : World) :
    Calls Tryd.prog 64 #[.int .i64 a, .int .i64 b] w fun e w' => ∃ p q r : Addr, e = .returned (.func (.func 91) #[] #[.pointer (some r)]) ∧
      CellAt w.heap.size w' r (.func (.func 87) #[] #[.pointer (some p), .pointer (some q)]) ∧
      CellAt w.heap.size w' p (.int .i64 a) ∧ CellAt w.heap.size w' q (.int .i64 b) ∧ Below w.heap.size w w' := by
  have hmf : ∀ (fn : Fn) (first cap : Array Value) (w : World), (Instr.makeFunc fn first cap).run Tryd.prog w = .ok (.func fn first cap) w := fun _ _ _ _ => rfl
  go_enter Tryd.func64, Tryd.ntmps64
  go_wp2_with (go_at_call 48; refine (within_any _ _ _).mono ?_; rintro e w' ⟨p, q, rfl, hp, hq, hb⟩)
  go_ret
  refine ⟨p, q, ⟨w'.heap.size, 0, none⟩, rfl, ⟨hb.size, by go_simp⟩, ⟨hp.1, cell_alloc hp.2⟩, ⟨hq.1, cell_alloc hq.2⟩, hb.alloc hb.size _⟩

end Go.Proofs.YtamilahkdinjkaaDoor
