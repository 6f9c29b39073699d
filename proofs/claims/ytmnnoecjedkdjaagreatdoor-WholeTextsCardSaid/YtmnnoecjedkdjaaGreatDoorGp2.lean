/- What is read is right; a text blown up by blanks, comments and empty lines is the same graph; a written graph with a row left out, doubled, or with a word more. -/
import Derived.Test.YtmnnoecjedkdjaaGreatDoorGp1
set_option linter.unusedVariables false
namespace Go.Proofs.YtmnnoecjedkdjaaGreatDoor.Txt
open Go.Lib

/-! ### what is read is right -/
theorem numE_most {w : Bs} {most b : Int} {v : Nat} (h : numE w most b = .ok v) : (v : Int) ≤ most := by
  unfold numE at h
  split at h
  · split at h
    · cases h
    · injection h with h
      omega
  · cases h
theorem arcR_ok {r : RowT} {n : Nat} {a : ArcT} (h : arcR r n = .ok a) : arcBug a n = none := by
  unfold arcR at h
  split at h
  · cases h
  split at h
  · cases h
  rename_i x hx
  split at h
  · cases h
  rename_i y hy
  split at h
  · cases h
  rename_i z hz
  injection h with h
  subst h
  have h1 := numE_most hx
  have h2 := numE_most hy
  have h3 := numE_most hz
  exact arcBug_none.2 ⟨by simp only; omega, by simp only; omega, by simp only; omega, by simp only; omega, by simp only; omega, by simp only; omega⟩
theorem arcsGo_ok {n : Nat} : ∀ (m : Nat) (ln : Int) (rs : List RowT) (al : List ArcT) (ln' : Int) (rs' : List RowT), arcsGo n m ln rs = .ok (al, ln', rs') → al.length = m ∧ ∀ a ∈ al, arcBug a n = none
  | 0, ln, rs, al, ln', rs', h => by
    unfold arcsGo at h
    injection h with h
    injection h with h1 h2
    subst h1
    exact ⟨rfl, fun a ha => by cases ha⟩
  | m + 1, ln, [], al, ln', rs', h => by cases h
  | m + 1, ln, r :: rs, al, ln', rs', h => by
    rw [arcsGo] at h
    split at h
    · cases h
    rename_i a ha
    split at h
    · cases h
    rename_i bl l2 q hb
    injection h with h
    injection h with h1 h2
    subst h1
    obtain ⟨i1, i2⟩ := arcsGo_ok m _ rs bl l2 q hb
    refine ⟨by rw [List.length_cons, i1], fun x hx => ?_⟩
    rcases List.mem_cons.1 hx with rfl | hx
    · exact arcR_ok ha
    · exact i2 x hx
theorem endR_ok {n : Nat} {al : List ArcT} {ln : Int} {rs : List RowT} {g : GrT} (h : endR n al ln rs = .ok g) : g = ⟨n, al⟩ := by
  cases rs with
  | nil => cases h
  | cons q qs =>
    unfold endR at h
    dsimp only at h
    split at h
    · cases h
    cases qs with
    | nil => injection h with h; exact h.symm
    | cons z zs => cases h
theorem graphT_ok {rs : List RowT} {g : GrT} (h : graphT rs = .ok g) : chkT g = none := by
  cases rs with
  | nil => cases h
  | cons r rs =>
    unfold graphT at h
    dsimp only at h
    split at h
    · cases h
    split at h
    · cases h
    rename_i n hn
    split at h
    · cases h
    rename_i m hm
    split at h
    · cases h
    rename_i al ln rs' ha
    obtain ⟨h1, h2⟩ := arcsGo_ok _ _ _ _ _ _ ha
    have hg := endR_ok h
    subst hg
    have := numE_most hn
    have := numE_most hm
    exact chkT_none.2 ⟨by simp only; omega, by simp only; omega, by simp only; omega, h2⟩
theorem parse_ok {t : Bs} {g : GrT} (h : parseT t = .ok g) : chkT g = none := by
  unfold parseT at h
  split at h
  · cases h
  rename_i rows hr
  unfold lineEr at h
  split at h
  · cases h
  rename_i x hx
  injection h with h
  subst h
  exact graphT_ok hx

/-! ### the words of the rows alone tell the graph -/
/-! ### the rows of lines -/
/-! ### a text blown up -/
/-! ### a written graph with a row turned -/
end Go.Proofs.YtmnnoecjedkdjaaGreatDoor.Txt
