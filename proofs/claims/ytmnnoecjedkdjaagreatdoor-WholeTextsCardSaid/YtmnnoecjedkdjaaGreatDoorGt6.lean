/- The rows of a text: the document's. (Printed by gen_gt6.py.) -/
import Derived.Test.YtmnnoecjedkdjaaGreatDoorGt5
set_option linter.unusedSimpArgs false
set_option linter.unusedVariables false
namespace Go.Proofs.YtmnnoecjedkdjaaGreatDoor
open Go.RowKit Txt

theorem keptS_own {α : Type} {e sz : Nat} {enc : α → List Value} {w w' : World} {base : Nat} {v : Value} {l : List α} {S : Nat → Prop} (h : Own e sz enc w base v l) (hk : Kept S w w') (hn : ∀ k, v.ownBlock = some k → ¬ S k) : Own e sz enc w' base v l := by
  refine ⟨h.1, ?_⟩
  rcases h.2 with hn' | ⟨g, cap, cur, rfl, hb, hg, r⟩
  · exact .inl hn'
  · exact .inr ⟨g, cap, cur, rfl, hb, (hk.block g (Array.getElem?_eq_some_iff.1 hg).1 (hn g rfl)).trans hg, r⟩
theorem rd_kept {S : Nat → Prop} {w w' : World} {A : Option Addr} {n : Nat} {l : List ByteArray} (h : RdS w A n l) (hk : Kept S w w') (hne : ∀ ad, A = some ad → ¬ S ad.block) : RdS w' A n l := by
  refine ⟨h.1, fun hp => ?_⟩
  obtain ⟨ad, hA, hc⟩ := h.2 hp
  refine ⟨ad, hA, fun j x i u hj hi => ?_⟩
  have h1 := hc j x i u hj hi
  have hlt : (ad.add (j * 1 + i)).block < w.heap.size := World.block_lt_of_cell? _ _ h1
  have hb : w'.heap[(ad.add (j * 1 + i)).block]? = w.heap[(ad.add (j * 1 + i)).block]? := hk.block _ hlt (by rw [block_of_add]; exact hne ad hA)
  unfold World.cell? at h1 ⊢
  rw [hb]
  exact h1
end Go.Proofs.YtmnnoecjedkdjaaGreatDoor
