/- slices.SortFunc at arcs that the call owns. -/
import Derived.Test.YtmnnoecjedkdjaaGreatDoorWn3
import Derived.Test.YtmnnoecjedkdjaaGreatDoorSrt
import Derived.Test.YtmnnoecjedkdjaaGreatDoorGt15
set_option linter.unusedSimpArgs false
set_option linter.unusedVariables false
namespace Go.Proofs.YtmnnoecjedkdjaaGreatDoor
open Go.RowKit Txt Go.Sort

instance : Inhabited ArcT := ⟨⟨0, 0, 0⟩⟩
theorem encA_get (x : ArcT) (i : Nat) (h : i < 3) : (encA x)[i]? = some (encA x)[i]! := by
  match i, h with
  | 0, _ => rfl
  | 1, _ => rfl
  | 2, _ => rfl
theorem flat_at (l : List ArcT) (t : Nat) (ht : t < l.length * 3) : (l.flatMap encA)[t]? = some (flatK encA 3 l.toArray)[t]! := by
  have h1 : t / 3 < l.length := by omega
  have h2 : t % 3 < 3 := Nat.mod_lt _ (by omega)
  have e : t = t / 3 * 3 + t % 3 := by omega
  rw [get_flatK encA 3 l.toArray t (by simpa using ht)]
  have h := flat_get (enc := encA) encA_len l (t / 3) (t % 3) h2
  rw [← e] at h
  rw [h, List.getElem?_eq_getElem h1]
  show (encA l[t / 3])[t % 3]? = _
  rw [encA_get _ _ h2, getElem!_pos l.toArray (t / 3) (by simpa using h1)]
  rfl
theorem holdsK_own {w : World} {base g n cap : Nat} {l : List ArcT} (h : Own 56 3 encA w base (.slice (some ⟨g, 0, none⟩) n cap) l) (hn : l.length = n) : HoldsK encA 3 w g 0 l.toArray := by
  subst hn
  intro t ht
  rw [size_flatK] at ht
  have ht : t < l.length * 3 := by simpa using ht
  rw [Nat.zero_add]
  exact ⟨(World.ownsRow.cellAt h t ht).trans (flat_at l t ht), World.ownsRow.frozenAt h t⟩
theorem heap_sortK {w : World} {g n : Nat} {os : Array Obj} {cur : Array Value} {e : TypeId} {fr : Nat × Nat} (d : Array ArcT) (hb : w.heap[g]? = some (.cells cur e fr)) :
    (sortWorldK encA 3 w g 0 n d os).heap[g]? = some (.cells (putCells id 0 (flatK encA 3 d) cur) e fr) := by
  have hg : g < w.heap.size := (Array.getElem?_eq_some_iff.1 hb).1
  unfold sortWorldK
  rw [heap_grow_old _ _ (by simpa [putRowK, putRow, mapBlock] using hg)]
  simp [putRowK, putRow, mapBlock, Sort.ahead, Array.getElem?_modify, hb, onCells]
theorem take_putK (cur : Array Value) (s : List ArcT) (h : s.length * 3 ≤ cur.size) : (putCells id 0 (flatK encA 3 s.toArray) cur).toList.take (s.length * 3) = s.flatMap encA := by
  apply List.ext_getElem?
  intro j
  by_cases hj : j < s.length * 3
  · rw [List.getElem?_take_of_lt hj, Array.getElem?_toList, flat_at s j hj]
    simp [putCells, hj, show j < cur.size by omega]
  · rw [List.getElem?_take_eq_none (by omega), List.getElem?_eq_none (by rw [flat_len encA_len]; omega)]
theorem own_sortK {w : World} {base g n cap : Nat} {l s : List ArcT} (h : Own 56 3 encA w base (.slice (some ⟨g, 0, none⟩) n cap) l) (hn : l.length = n) (hs : s.length = n) (q : Nat) (os : Array Obj) :
    Own 56 3 encA (sortWorldK encA 3 w g 0 q s.toArray os) base (.slice (some ⟨g, 0, none⟩) n cap) s := by
  subst hn
  rcases h.2 with ⟨h', _⟩ | ⟨g', cap', cur, h', hb, hg, hc, hm, hz, ht⟩
  · injection h' with h1; cases h1
  · injection h' with h1 _ h3
    injection h1 with h1
    injection h1 with h1
    subst h1 h3
    refine ⟨by rw [flat_len encA_len], .inr ⟨g, cap, _, by rw [hs], hb, heap_sortK _ hg, by omega, hm, by simp [putCells, hz], ?_⟩⟩
    exact take_putK cur s (by rw [hz, hs]; exact Nat.mul_le_mul_right 3 hc)
theorem kept_sortK {w : World} {g q : Nat} {os : Array Obj} (d : Array ArcT) : Kept (fun k => k = g) w (sortWorldK encA 3 w g 0 q d os) := by
  unfold sortWorldK
  refine ⟨rfl, rfl, rfl, by simp [putRowK, putRow, mapBlock, grow, Sort.ahead], fun k hk hs => ?_⟩
  rw [heap_grow_old _ _ (by simpa [putRowK, putRow, mapBlock] using hk)]
  have : g ≠ k := fun e => hs e.symm
  simp [putRowK, putRow, mapBlock, Sort.ahead, Array.getElem?_modify, this]
theorem Sort_any {base g n cap : Nat} {l : List ArcT} {W : World} (h : Own 56 3 encA W base (.slice (some ⟨g, 0, none⟩) n cap) l) (hn : l.length = n) (hsz : n < 4611686018427387904) :
    Calls Tryz.prog 36 #[.slice (some ⟨g, 0, none⟩) n cap, .func (.func 37) #[] #[]] W fun e w' => e = .returned (.tuple #[]) ∧ ∃ s : List ArcT, s.Perm l ∧ (s.Pairwise fun x y => ¬ lexA y x) ∧ Own 56 3 encA w' base (.slice (some ⟨g, 0, none⟩) n cap) s ∧ Kept (fun k => k = g) W w' := by
  subst hn
  have eg : ∀ args w, (callFunc 37 args).run Tryz.prog w = .ok (.enter 37 args) w := enters_of Tryz.func37 (by kernel_rfl) rfl
  have hcl : CmpLays Tryz.prog 37 #[] encA 3 cmpA g 0 l.toArray.size W := fun m os dk _ x y => order_any x y _
  have hblk : g < W.heap.size := (h.block rfl).2
  have hcon := AnyQ.slices_SortFunc Tryz.sortArc 3 Tryz.isAgg56 Tryz.sizeOf56 encA encA_len (fun x v hv => by simp [encA] at hv; rcases hv with rfl | rfl | rfl <;> rfl) cmpA swoA 37 #[] g 0 cap l.toArray W eg hcl (holdsK_own h rfl) hblk (by simpa using hsz)
  refine Calls.mono hcon ?_
  rintro e w' ⟨rfl, d', q, os, hp, hs, rfl⟩
  have hsize : d'.size = l.length := by simpa using hp.1
  have hperm : d'.toList.Perm l := by
    have h2 : (List.take l.length d'.toList).Perm l := by simpa [hsize] using hp.2.2
    rwa [List.take_of_length_le (by simp [hsize])] at h2
  refine ⟨rfl, d'.toList, hperm, ?_, ?_, kept_sortK d'⟩
  · rw [List.pairwise_iff_getElem]
    intro i j hi hj hij
    have h2 := hs i j (Nat.zero_le _) hij (by simpa [hsize] using hj)
    rw [getElem!_pos d' j (by simpa using hj), getElem!_pos d' i (by simpa using hi)] at h2
    have h3 := of_decide_eq_false h2
    rw [cmpA_lt] at h3
    simpa using h3
  · have h2 := own_sortK (s := d'.toList) h rfl (by simpa using hsize) q os
    simpa using h2
end Go.Proofs.YtmnnoecjedkdjaaGreatDoor
