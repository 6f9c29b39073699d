/- Blocks of cells; what a call leaves as it was. -/
import Derived.Test.YtkcnnamghpdplaaDoorBase
import Derived.Handy
import Derived.BigQuiet
import Derived.Deep.RegionHeld3
set_option linter.unusedSimpArgs false
set_option linter.unusedVariables false
namespace Go.Proofs.YtkcnnamghpdplaaDoor
open Go.RowKit

def Cells (w : World) (g : Nat) (cs : Array Value) (t : TypeId) : Prop := w.heap[g]? = some (.cells cs t (0, 0))
section
variable {w w' : World} {g : Nat} {cs : Array Value} {t : TypeId}
theorem Cells.cell (h : Cells w g cs t) (i : Nat) : w.cell? ⟨g, i, none⟩ = cs[i]? := cell_of_row w g i cs t (0, 0) h
theorem Cells.frozen (h : Cells w g cs t) (i : Nat) : w.frozen? ⟨g, i, none⟩ = false := frozen_of_row w g i cs t h
theorem Cells.set_ (h : Cells w g cs t) (i : Nat) (v : Value) : Cells (w.setCell ⟨g, i, none⟩ v) g (cs.setIfInBounds i v) t := heap_setCell_same w g i cs t v h
theorem Cells.lt (h : Cells w g cs t) : g < w.heap.size := (Array.getElem?_eq_some_iff.1 h).1
theorem Cells.below (h : Cells w g cs t) (hb : Below w.heap.size w w') : Cells w' g cs t := (hb.block g h.lt).trans h
theorem Cells.far {k : Nat} (h : Cells w g cs t) (i : Nat) (v : Value) (hk : g ≠ k) : Cells (w.setCell ⟨k, i, none⟩ v) g cs t := (heap_setCell_other w ⟨k, i, none⟩ g v hk).trans h
theorem cells_new (w : World) (cs : Array Value) (t : TypeId) : Cells (w.alloc (.cells cs t)) w.heap.size cs t := heap_alloc_new _ _
end
theorem size_alloc (w : World) (o : Obj) : (w.alloc o).heap.size = w.heap.size + 1 := by simp
def BoolBelow (b : Bool) (w : World) (e : Ending) (w' : World) : Prop := e = .returned (.bool b) ∧ Below w.heap.size w w'
/-- Nothing has turned but some blocks; new ones may have come. -/
structure Kept (S : Nat → Prop) (w w' : World) : Prop where
  os : w'.os = w.os
  tape : w'.tape = w.tape
  output : w'.output = w.output
  size : w.heap.size ≤ w'.heap.size
  block : ∀ k, k < w.heap.size → ¬ S k → w'.heap[k]? = w.heap[k]?
section
variable {S : Nat → Prop} {w w' w'' : World}
theorem Kept.refl (S : Nat → Prop) (w : World) : Kept S w w := ⟨rfl, rfl, rfl, Nat.le_refl _, fun _ _ _ => rfl⟩
theorem Kept.of_below (h : Below w.heap.size w w') : Kept S w w' := ⟨h.os, h.tape, h.output, h.size, fun k hk _ => h.block k hk⟩
theorem Kept.trans (h : Kept S w w') (h' : Kept S w' w'') : Kept S w w'' :=
  ⟨h'.os.trans h.os, h'.tape.trans h.tape, h'.output.trans h.output, Nat.le_trans h.size h'.size, fun k hk hs => (h'.block k (Nat.lt_of_lt_of_le hk h.size) hs).trans (h.block k hk hs)⟩
/-- .. though behind the first piece other blocks, new ones, may turn too -/
theorem Kept.trans2 {S' : Nat → Prop} (h : Kept S w w') (h' : Kept S' w' w'') (hs : ∀ k, S' k → S k ∨ w.heap.size ≤ k) : Kept S w w'' :=
  ⟨h'.os.trans h.os, h'.tape.trans h.tape, h'.output.trans h.output, Nat.le_trans h.size h'.size, fun k hk hn => (h'.block k (Nat.lt_of_lt_of_le hk h.size) (fun h2 => (hs k h2).elim hn (fun h3 => absurd hk (Nat.not_lt.2 h3)))).trans (h.block k hk hn)⟩
theorem Kept.alloc (h : Kept S w w') (o : Obj) : Kept S w (w'.alloc o) := h.trans (.of_below ((Below.refl _ _).alloc (Nat.le_refl _) _))
theorem Kept.drew (h : Kept S w w') (n : Nat) : Kept S w (w'.drewN n) := h.trans (.of_below ⟨rfl, rfl, rfl, Nat.le_refl _, fun _ _ => rfl⟩)
theorem Kept.set_ (h : Kept S w w') {p : Addr} (hp : S p.block ∨ w.heap.size ≤ p.block) (u : Value) : Kept S w (w'.setCell p u) :=
  ⟨h.os, h.tape, h.output, by simpa [World.setCell] using h.size, fun k hk hs => (Below.heap_setCell w' p u k (fun e => hp.elim (fun h => hs (e ▸ h)) (fun h => by omega))).trans (h.block k hk hs)⟩
theorem Kept.below {w0 : World} {B : Nat} (h : Kept S w w') (hb : Below B w0 w) (hS : ∀ k, S k → B ≤ k) (hB : B ≤ w.heap.size) : Below B w0 w' :=
  ⟨h.os.trans hb.os, h.tape.trans hb.tape, h.output.trans hb.output, Nat.le_trans hb.size h.size, fun k hk => (h.block k (Nat.lt_of_lt_of_le hk hB) (fun hs => by have := hS k hs; omega)).trans (hb.block k hk)⟩
theorem Kept.cells {g : Nat} {cs : Array Value} {t : TypeId} (h : Kept S w w') (hc : Cells w g cs t) (hs : ¬ S g) : Cells w' g cs t := (h.block g hc.lt hs).trans hc
end
theorem own_far2 {α : Type} {w : World} {base : Nat} {e sz : Nat} {enc : α → List Value} {v : Value} {l : List α} (h : Own e sz enc w base v l) {p : Addr} (hp : v.ownBlock ≠ some p.block) (u : Value) : Own e sz enc (w.setCell p u) base v l :=
  h.kept ⟨rfl, rfl, rfl, by simp [World.setCell], fun k _ hk => Below.heap_setCell w p u k (fun e => hk (by rw [e]))⟩ (.inr hp)
end Go.Proofs.YtkcnnamghpdplaaDoor
