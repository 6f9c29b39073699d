/- A list of places that came in as an argument, opened. The first law is after the guide's page on slices of structs. -/
import Derived.Test.YtkncgpnnilcicaaDoorFa9
import Derived.Deep.Slices
import Derived.Deep.Fields
import Derived.ChangeSame
set_option linter.unusedSimpArgs false
set_option linter.unusedVariables false
namespace Go.Proofs.YtkncgpnnilcicaaDoor
open Go.RowKit Go.ChangeShapes Go.WideShapes Go.Deep
section
variable {H : Type} {enc : TypeId × Value → H} {P : Program} {w : World} {base : Nat} {spare : Nat → Bool} {held : Bool}
theorem cells_of_fields {t e : TypeId} {fs : Array Field} {fuel : Nat} {cs : List Value} {x : DataW H × List MemPlace} (ht : P.underlying t = some (.slice e)) (he : P.underlying e = some (.struct fs))
    (hone : oneCellFields P fs = true) (hC : P.cellsOf e = fs.size) (h : DataW.trod enc P w base spare held fuel t cs = some x) :
    cs = [.slice none 0 0] ∨
    ∃ (a : Addr) (len cap : Nat), cs = [.slice (some a) len cap] ∧ len ≤ cap ∧ cap ≤ maxLen ∧
      ∀ i, i < len → ∃ (n : Nat), ∀ (j : Nat) (f : Field), fs[j]? = some f → ∃ (v : Value) (y : DataW H × List MemPlace), w.cell? (a.add (i * fs.size + j)) = some v ∧ DataW.trod enc P w base spare held n f.type [v] = some y := by
  rcases open_slice ht h with h0 | ⟨a, len, cap, m, n, D, Pl, hcs, hb, hl, hm, hmm, hx, hi⟩
  · exact .inl h0.1
  · refine .inr ⟨a, len, cap, hcs, hl, hm, fun i hil => ?_⟩
    have him : i < m := by rw [hmm]; split <;> omega
    obtain ⟨cs', hc, ht'⟩ := hi i him
    rw [hC] at hc
    obtain ⟨ys, n', hn', hy, hlen, hyl, hf⟩ := DataW.trod_struct he ht'
    obtain ⟨_, hcl, hat⟩ := World.cells?_some hc
    refine ⟨n', fun j f hj => ?_⟩
    obtain ⟨ho, hk⟩ := hone_of hone j f hj
    have hjl : j < fs.size := (Array.getElem?_eq_some_iff.1 hj).1
    have hcell := hat j hjl
    have hv : cs'[j]? = some (cs'[j]'(by omega)) := List.getElem?_eq_getElem (by omega)
    have h1 := hf j f hj
    rw [ho, hk] at h1
    have hone' : (cs'.drop j).take 1 = [cs'[j]'(by omega)] := by
      rw [List.drop_eq_getElem_cons (by omega)]
      rfl
    rw [hone'] at h1
    have hys : ys[j]? = some (ys[j]'(by omega)) := List.getElem?_eq_getElem (by omega)
    refine ⟨_, _, ?_, h1.trans hys⟩
    rw [← Go.Deep.add_add, hcell, hv]
end
/-- What is there at each place below n is a list. -/
theorem list_of {α : Type} {Q : Nat → α → Prop} : ∀ n, (∀ i, i < n → ∃ x, Q i x) → ∃ l : List α, l.length = n ∧ ∀ i x, l[i]? = some x → Q i x
  | 0, _ => ⟨[], rfl, fun i x h => by simp at h⟩
  | n + 1, h => by
    obtain ⟨l, hl, hq⟩ := list_of n (fun i hi => h i (by omega))
    obtain ⟨x, hx⟩ := h n (by omega)
    refine ⟨l ++ [x], by rw [List.length_append, hl]; rfl, fun i y hy => ?_⟩
    by_cases hi : i < n
    · rw [List.getElem?_append_left (by omega)] at hy
      exact hq i y hy
    · have hi2 : i < (l ++ [x]).length := (List.getElem?_eq_some_iff.1 hy).1
      rw [List.length_append, hl] at hi2
      obtain rfl : i = n := by simp at hi2; omega
      rw [List.getElem?_append_right (by omega), hl, Nat.sub_self] at hy
      have e : x = y := by simpa using hy
      rw [← e]; exact hx
theorem i64_of_wf {n : Int} (h : (Lit.int .i64 n).wf = true) : I64 n := by
  simp only [Lit.wf, Bool.and_eq_true, decide_eq_true_eq] at h
  exact h
def IsPlaces (W : World) (a : Option Addr) (len cap : Nat) (l : List (Int × Int)) : Prop := RdP W a len l ∧ (∀ p ∈ l, I64 p.1 ∧ I64 p.2) ∧ len ≤ cap ∧ cap ≤ maxLen
theorem isPlaces_of_trod {H : Type} {enc : TypeId × Value → H} {W : World} {base : Nat} {spare : Nat → Bool} {held : Bool} {a : Option Addr} {len cap : Nat} {d : DataW H} {p : List MemPlace}
    (h : DataW.Trod enc Tryd.prog W base spare held 23 (.slice a len cap) d p) : ∃ l, IsPlaces W a len cap l := by
  obtain ⟨fuel, hf⟩ := h
  rcases cells_of_fields Tryd.underlying23 Tryd.underlying34 (by kernel_rfl) (by kernel_rfl) hf with hcs | ⟨x, l, c, hcs, hl, hm, hi⟩
  · simp [Value.cells] at hcs
    obtain ⟨rfl, rfl, rfl⟩ := hcs
    exact ⟨[], Rd.nil, (fun o ho => by cases ho), by omega, by unfold maxLen; omega⟩
  · simp [Value.cells] at hcs
    obtain ⟨rfl, rfl, rfl⟩ := hcs
    obtain ⟨s, hs, hq⟩ := list_of (α := Int × Int) (Q := fun i o => (I64 o.1 ∧ I64 o.2) ∧ ∀ k u, (places o)[k]? = some u → W.cell? (x.add (i * 2 + k)) = some u) len (fun i hil => by
      obtain ⟨n, hf⟩ := hi i hil
      obtain ⟨v0, y0, c0, t0⟩ := hf 0 _ rfl
      obtain ⟨v1, y1, c1, t1⟩ := hf 1 _ rfl
      obtain ⟨n0, e0, _, k0⟩ := DataW.trod_int Tryd.underlying22 t0
      obtain ⟨n1, e1, _, k1⟩ := DataW.trod_int Tryd.underlying3 t1
      injection e0 with e0
      injection e1 with e1
      subst e0 e1
      refine ⟨⟨n0, n1⟩, ⟨i64_of_wf k0, i64_of_wf k1⟩, fun k u hk => ?_⟩
      match k, hk with
      | 0, hk => have e : u = .int .i64 n0 := by simpa using hk.symm
                 rw [e]; exact c0
      | 1, hk => have e : u = .int .i64 n1 := by simpa using hk.symm
                 rw [e]; exact c1)
    refine ⟨s, ⟨hs, fun _ => ⟨x, rfl, fun j o i u hj hi => (hq j o hj).2 i u hi⟩⟩, fun o ho => ?_, hl, hm⟩
    obtain ⟨i, hi, rfl⟩ := List.getElem_of_mem ho
    exact (hq i _ (List.getElem?_eq_getElem hi)).1
end Go.Proofs.YtkncgpnnilcicaaDoor
