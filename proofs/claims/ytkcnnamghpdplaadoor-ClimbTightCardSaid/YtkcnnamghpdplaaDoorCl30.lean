/- A hierarchy turned about: its sides, plain. -/
import Derived.Test.YtkcnnamghpdplaaDoorClE
import Derived.Test.YtkcnnamghpdplaaDoorClB
set_option linter.unusedSimpArgs false
set_option linter.unusedVariables false
namespace Go.Proofs.YtkcnnamghpdplaaDoor

theorem seg_map (f : List Nat) (ls : List Lk) (t : Lk → Lk) (r : Nat) : seg f (ls.map t) r = (seg f ls r).map t := by
  unfold seg
  rw [List.map_take, List.map_drop]
structure KeepL (t : Lk → Lk) : Prop where
  to : ∀ l, (t l).to = l.to
  w : ∀ l, (t l).w = l.w
theorem keep_turn (a b : Nat) : KeepL (turnL a b) := ⟨fun _ => rfl, fun _ => rfl⟩
section
variable {t : Lk → Lk} {n s : Nat} {S S' : Nat → List Lk} {D : Nat → Option Int}
theorem Ups.map (ht : KeepL t) (h : Ups n S) : Ups n (fun r => (S r).map t) := by
  refine ⟨fun r l hr hl => ?_, fun r l hr hl => ?_⟩
  · obtain ⟨l', hl', rfl⟩ := List.mem_map.1 hl
    rw [ht.to]
    exact h.up r l' hr hl'
  · obtain ⟨l', hl', rfl⟩ := List.mem_map.1 hl
    rw [ht.w]
    exact h.w r l' hr hl'
theorem Sol.unmap (ht : KeepL t) (h : Sol n (fun r => (S r).map t) s D) : Sol n S s D := by
  refine ⟨h.start, h.out, fun r a l hr hd hl => ?_, fun x b hx hd => ?_⟩
  · have := h.le r a (t l) hr hd (List.mem_map.2 ⟨l, hl, rfl⟩)
    rwa [ht.to, ht.w] at this
  · obtain ⟨r, a, l, h1, h2, h3, h4, h5⟩ := h.by_ x b hx hd
    obtain ⟨l', hl', rfl⟩ := List.mem_map.1 h3
    rw [ht.to] at h4
    rw [ht.w] at h5
    exact ⟨r, a, l', h1, h2, hl', h4, h5⟩
theorem stalledB_map (ht : KeepL t) (r : Nat) (d : Int) : stalledB (fun r => (S r).map t) D r d = stalledB S D r d := by
  unfold stalledB
  rw [List.any_map]
  congr 1
  funext l
  show overB D d (t l) = overB D d l
  unfold overB
  rw [ht.to, ht.w]
theorem seenTo_map (ht : KeepL t) (k : Nat) : seenTo D (fun r => (S r).map t) k = seenTo D S k := by
  unfold seenTo
  congr 1
  funext r
  cases D r with
  | none => rfl
  | some d => simp only [Option.map_some, stalledB_map ht]
end
theorem Side.map {t : Lk → Lk} {n : Nat} {f : List Nat} {ls : List Lk} (ht : KeepL t) (h : Side n f ls) : Side n f (ls.map t) := by
  refine ⟨h.fl, fun r hr => by rw [List.length_map]; exact h.mono r hr, ?_, h.n_le, by rw [List.length_map]; exact h.l_le⟩
  have := h.ups.map ht
  rwa [show (fun r => (seg f ls r).map t) = seg f (ls.map t) from funext fun r => (seg_map f ls t r).symm] at this
theorem InK.turn {a b : Nat} {l : Lk} (ha : a ≤ 1048576) (hb : b ≤ 1048576) (h : InK l) : InK (turnL a b l) := by
  have h1 := h.l_
  have h2 := h.r
  unfold In32 at h1 h2
  have one : ∀ i, i ≤ 4294967295 → In32 (numT a b i) := fun i hi => by
    unfold In32 numT
    split
    · exact hi
    · split <;> omega
  exact ⟨h.to, h.w, one _ h2, one _ h1⟩
theorem seg_turn_up (h : HierT) : seg (turnT h).uf (turnT h).up = fun r => (seg h.df h.dn r).map (turnL h.up.length h.dn.length) := funext fun r => seg_map _ _ _ r
theorem seg_turn_dn (h : HierT) : seg (turnT h).df (turnT h).dn = fun r => (seg h.uf h.up r).map (turnL h.up.length h.dn.length) := funext fun r => seg_map _ _ _ r
end Go.Proofs.YtkcnnamghpdplaaDoor
