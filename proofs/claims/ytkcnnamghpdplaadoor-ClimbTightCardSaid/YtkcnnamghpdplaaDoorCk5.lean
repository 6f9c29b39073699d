/- The steps from each rank in memory: a list of lists that are added to. -/
import Derived.Test.YtkcnnamghpdplaaDoorCk4
import Derived.Test.YtkcnnamghpdplaaDoorCells
set_option linter.unusedSimpArgs false
set_option linter.unusedVariables false
namespace Go.Proofs.YtkcnnamghpdplaaDoor
open Go.RowKit

abbrev encSt (x : StT) : List Value := [.int .i64 (x.to : Int), .int .u64 x.w]
theorem encSt_len : ∀ x, (encSt x).length = 2 := fun _ => rfl
theorem encSt_one : ∀ x, ∀ u ∈ encSt x, u.oneCell' = true := fun x u h => by
  simp only [encSt, List.mem_cons, List.not_mem_nil, or_false] at h
  rcases h with rfl | rfl <;> rfl
theorem info_step : (Tryd.prog.info? 127).map (fun i => (i.zero, i.size, i.bytes)) = some (some (.agg #[.int .i64 0, .int .u64 0]), 2, 16) := by kernel_rfl
theorem rd_step {w : World} {k : Nat} {x : StT} (hk : w.heap.size = k) : Rd 2 encSt (w.alloc (.cells #[.int .i64 (x.to : Int), .int .u64 x.w] 127)) (some ⟨k, 0, none⟩) 1 [x] := by
  subst hk
  exact rd_new encSt_len w 127 [x]
abbrev OwnT (w : World) (base : Nat) (v : Value) (l : List StT) : Prop := Own 127 2 encSt w base v l
def vA (n : Nat) (sv : Nat → Value) : Array Value := ((List.range n).map sv).toArray
theorem vA_at {n i : Nat} (sv : Nat → Value) (hi : i < n) : (vA n sv)[i]? = some (sv i) := by
  unfold vA
  rw [List.getElem?_toArray, List.getElem?_map, List.getElem?_range hi]
  rfl
def updV (sv : Nat → Value) (i : Nat) (v : Value) : Nat → Value := fun k => if k = i then v else sv k
theorem vA_set (n i : Nat) (sv : Nat → Value) (v : Value) : (vA n sv).setIfInBounds i v = vA n (updV sv i v) := by
  apply Array.ext_getElem?
  intro k
  rw [Array.getElem?_setIfInBounds]
  have hs : (vA n sv).size = n := by simp [vA]
  by_cases hk : i = k
  · subst hk
    rw [if_pos rfl]
    by_cases hn : i < n
    · rw [if_pos (by rw [hs]; exact hn), vA_at _ hn]
      unfold updV
      rw [if_pos rfl]
    · rw [if_neg (by rw [hs]; exact hn)]
      rw [Array.getElem?_eq_none (by simp [vA]; omega)]
  · rw [if_neg hk]
    by_cases hn : k < n
    · rw [vA_at _ hn, vA_at _ hn]
      unfold updV
      rw [if_neg (fun e => hk e.symm)]
    · rw [Array.getElem?_eq_none (by simp [vA]; omega), Array.getElem?_eq_none (by simp [vA]; omega)]
/-- the lists: G holds their slices; each lies in a block of its own -/
structure WebAt (w : World) (base G n : Nat) (sv : Nat → Value) (O : List (List StT)) : Prop where
  rows : Cells w G (vA n sv) 125
  len : O.length = n
  own : ∀ i, i < n → OwnT w base (sv i) (O.getD i [])
  inj : ∀ i j k, i < n → j < n → (sv i).ownBlock = some k → (sv j).ownBlock = some k → i = j
  ne : ∀ i k, i < n → (sv i).ownBlock = some k → k ≠ G
theorem WebAt.below {w w' : World} {base G n : Nat} {sv : Nat → Value} {O : List (List StT)} (h : WebAt w base G n sv O) (hb : Below w.heap.size w w') : WebAt w' base G n sv O :=
  ⟨h.rows.below hb, h.len, fun i hi => (h.own i hi).below hb, h.inj, h.ne⟩
/-- one more step from the rank i -/
theorem WebAt.append {w w2 : World} {base G n i : Nat} {sv : Nat → Value} {O : List (List StT)} {l : List StT} {v' : Value} (h : WebAt w base G n sv O) (hi : i < n) (hg : w.grownBy w2 (sv i).ownBlock) (ho : OwnT w2 base v' l) (hat : v'.ownBlock = (sv i).ownBlock ∨ v'.ownBlock = some w.heap.size) :
    WebAt (w2.setCell ⟨G, i, none⟩ v') base G n (updV sv i v') (O.set i l) := by
  have hGlt := h.rows.lt
  have hlt : ∀ j k, j < n → (sv j).ownBlock = some k → k < w.heap.size := fun j k hj hk => ((h.own j hj).block hk).2
  have hGrow : Cells w2 G (vA n sv) 125 := (hg.block G hGlt (fun e => by
    have e' : (sv i).ownBlock = some G := by first | exact e | exact e.symm
    exact (h.ne i G hi e') rfl)).trans h.rows
  have hv : ∀ k, v'.ownBlock = some k → k ≠ G ∧ ∀ j, j < n → j ≠ i → (sv j).ownBlock ≠ some k := by
    intro k hk
    rcases hat with e | e
    · rw [e] at hk
      exact ⟨h.ne i k hi hk, fun j hj hne e2 => hne (h.inj j i k hj hi e2 hk)⟩
    · rw [e] at hk
      have hk := Option.some.inj hk
      exact ⟨by omega, fun j hj hne e2 => by have := hlt j k hj e2; omega⟩
  refine ⟨?_, by rw [List.length_set]; exact h.len, fun j hj => ?_, fun a b k ha hb h1 h2 => ?_, fun j k hj hk => ?_⟩
  · have := hGrow.set_ i v'
    rwa [vA_set] at this
  · rw [getD_set (by rw [h.len]; exact hi)]
    unfold updV
    by_cases hji : j = i
    · rw [if_pos hji, if_pos hji]
      exact own_far2 ho (p := ⟨G, i, none⟩) (fun e => (hv G e).1 rfl) v'
    · rw [if_neg hji, if_neg hji]
      refine own_far2 (Own.kept (h.own j hj) hg ?_) (p := ⟨G, i, none⟩) (fun e => (h.ne j G hj e) rfl) v'
      cases hoj : (sv j).ownBlock with
      | none => exact .inl rfl
      | some k => exact .inr fun e => hji (h.inj j i k hj hi hoj e.symm)
  · unfold updV at h1 h2
    split at h1
    · rename_i e1
      split at h2
      · omega
      · rename_i e2
        exact absurd h2 ((hv k h1).2 b hb e2)
    · rename_i e1
      split at h2
      · exact absurd h1 ((hv k h2).2 a ha e1)
      · exact h.inj a b k ha hb h1 h2
  · unfold updV at hk
    split at hk
    · exact (hv k hk).1
    · exact h.ne j k hj hk
end Go.Proofs.YtkcnnamghpdplaaDoor
