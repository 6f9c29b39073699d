/- A graph that came in as an argument, opened. The first laws are those of the climb's text of this kind. -/
import Derived.Test.YtmnnoecjedkdjaaGreatDoorGt15
import Derived.Deep.Slices
import Derived.Deep.Fields
import Derived.ChangeSame
import Derived.Lib.SmallJoins
import Derived.SizedLaws
set_option linter.unusedSimpArgs false
set_option linter.unusedVariables false
namespace Go.Proofs.YtmnnoecjedkdjaaGreatDoor.Recs
open Go.RowKit Go.Joins Go.ChangeShapes Go.WideShapes Go.Deep Txt
section
variable {H : Type} {enc : TypeId × Value → H} {P : Program} {w : World} {base : Nat} {spare : Nat → Bool} {held : Bool}
theorem cells_of_fields {t e : TypeId} {fs : Array Field} {fuel : Nat} {cs : List Value} {x : DataW H × List MemPlace} (ht : P.underlying t = some (.slice e)) (he : P.underlying e = some (.struct fs))
    (hone : oneCellFields P fs = true) (hC : P.cellsOf e = fs.size) (h : DataW.trod enc P w base spare held fuel t cs = some x) :
    (cs = [.slice none 0 0]) ∨
    ∃ (a : Addr) (len cap : Nat) (es ss : List (DataW H)), cs = [.slice (some a) len cap] ∧ x.1 = .slice es ss ∧ len ≤ es.length + ss.length ∧ len ≤ cap ∧ cap ≤ maxLen ∧
      ∀ i, i < len → ∃ (n : Nat), ∀ (j : Nat) (f : Field), fs[j]? = some f → ∃ (v : Value) (y : DataW H × List MemPlace), w.cell? (a.add (i * fs.size + j)) = some v ∧ DataW.trod enc P w base spare held n f.type [v] = some y := by
  rcases open_slice ht h with h0 | ⟨a, len, cap, m, n, D, Pl, hcs, hb, hl, hm, hmm, hx, hi⟩
  · exact .inl h0.1
  · have hlm : len ≤ m := by rw [hmm]; split <;> omega
    refine .inr ⟨a, len, cap, _, _, hcs, by rw [hx], by simp, hl, hm, fun i hil => ?_⟩
    have him : i < m := by omega
    obtain ⟨cs', hc, ht'⟩ := hi i him
    rw [hC] at hc
    obtain ⟨ys, n', hn', hy, hlen, hyl, hf⟩ := DataW.trod_struct he ht'
    obtain ⟨_, hcl, hat⟩ := World.cells?_some hc
    refine ⟨n', fun j f hj => ?_⟩
    obtain ⟨ho, hk⟩ := hone_of hone j f hj
    have hjl : j < fs.size := (Array.getElem?_eq_some_iff.1 hj).1
    have hcell := hat j hjl
    have hv : cs'[j]? = some (cs'[j]'(by omega)) := List.getElem?_eq_getElem (by omega)
    have h1 := hf j f hj
    rw [ho, hk] at h1
    have hone' : (cs'.drop j).take 1 = [cs'[j]'(by omega)] := by
      rw [List.drop_eq_getElem_cons (by omega)]
      rfl
    rw [hone'] at h1
    have hys : ys[j]? = some (ys[j]'(by omega)) := List.getElem?_eq_getElem (by omega)
    refine ⟨_, _, ?_, h1.trans hys⟩
    rw [← Go.Deep.add_add, hcell, hv]
theorem open_agg2 {r : Reach} {b0 : Nat} {t : TypeId} {f0 f1 : Field} {v : Value} {d : DataW H} {p : List MemPlace} (hs : P.underlying t = some (.struct #[f0, f1])) (hone : oneCellFields P #[f0, f1] = true) (hC : P.cellsOf t = 2)
    (hv : Value.okWide P w r b0 t v) (h : DataW.Trod enc P w base spare held t v d p) :
    ∃ (v0 v1 : Value) (y0 y1 : DataW H × List MemPlace) (n : Nat), v = .agg #[v0, v1] ∧ d = .agg [y0.1, y1.1] ∧
      DataW.trod enc P w base spare held n f0.type [v0] = some y0 ∧ DataW.trod enc P w base spare held n f1.type [v1] = some y1 := by
  obtain ⟨cs, rfl, hsz⟩ := okWide_struct hs hv
  obtain ⟨l⟩ := cs
  match l, hsz.trans hC with
  | [c0, c1], _ =>
    obtain ⟨fuel, hf⟩ := h
    obtain ⟨xs, n, _, hx, _, hlen, hg⟩ := DataW.trod_struct hs hf
    obtain ⟨o0, k0⟩ := hone_of hone 0 f0 rfl
    obtain ⟨o1, k1⟩ := hone_of hone 1 f1 rfl
    match xs, hlen with
    | [y0, y1], _ =>
      simp only [Prod.mk.injEq] at hx
      exact ⟨c0, c1, y0, y1, n, rfl, by simpa using hx.1, by simpa [Value.cells, o0, k0] using hg 0 f0 rfl, by simpa [Value.cells, o1, k1] using hg 1 f1 rfl⟩
theorem weights_agg {ts : List TypeId} {ds : List (DataW H)} {j : Nat} {t : TypeId} {parts : List (DataW H)} {fs : Array Field} (h : (DataW.weightsEach P ts ds).all (· ≤ reachBytes) = true) (ht : ts[j]? = some t) (hd : ds[j]? = some (.agg parts)) (hu : P.underlying t = some (.struct fs)) :
    (DataW.weightsEach P (fs.toList.map (·.type)) parts).all (· ≤ reachBytes) = true :=
  List.all_eq_true.2 fun x hx => List.all_eq_true.1 h x (DataW.weights_mem_each ht hd x (by simp only [DataW.weights, hu]; exact hx))
end
/-- What is there at each place below n is a list. -/
theorem list_at {α : Type} {Q : Nat → α → Prop} : ∀ n, (∀ i, i < n → ∃ x, Q i x) → ∃ l : List α, l.length = n ∧ ∀ i x, l[i]? = some x → Q i x
  | 0, _ => ⟨[], rfl, fun i x h => by simp at h⟩
  | n + 1, h => by
    obtain ⟨l, hl, hq⟩ := list_at n (fun i hi => h i (by omega))
    obtain ⟨x, hx⟩ := h n (by omega)
    refine ⟨l ++ [x], by rw [List.length_append, hl]; rfl, fun i y hy => ?_⟩
    by_cases hi : i < n
    · rw [List.getElem?_append_left (by omega)] at hy
      exact hq i y hy
    · have hi2 : i < (l ++ [x]).length := (List.getElem?_eq_some_iff.1 hy).1
      rw [List.length_append, hl] at hi2
      obtain rfl : i = n := by simp at hi2; omega
      rw [List.getElem?_append_right (by omega), hl, Nat.sub_self] at hy
      have e : x = y := by simpa using hy
      rw [← e]; exact hx
theorem i64_of_wf {n : Int} (h : (Lit.int .i64 n).wf = true) : -9223372036854775808 ≤ n ∧ n ≤ 9223372036854775807 := by
  simp only [Lit.wf, Bool.and_eq_true, decide_eq_true_eq] at h
  exact h
def In64 (x : Int) : Prop := -9223372036854775808 ≤ x ∧ x ≤ 9223372036854775807
def InArc (a : ArcT) : Prop := In64 a.f ∧ In64 a.t ∧ In64 a.w
section
variable {H : Type} {enc : TypeId × Value → H} {W : World} {base : Nat} {spare : Nat → Bool} {held : Bool}
/-- a list of arcs -/
theorem arcs_of {ts : List TypeId} {ds : List (DataW H)} {j : Nat} (hsz : (DataW.weightsEach Tryz.prog ts ds).all (· ≤ reachBytes) = true) {n : Nat} {v : Value} {y : DataW H × List MemPlace} (ht : ts[j]? = some 28) (hd : ds[j]? = some y.1)
    (h : DataW.trod enc Tryz.prog W base spare held n 28 [v] = some y) :
    ∃ (A : Option Addr) (l : List ArcT) (c : Nat), v = .slice A l.length c ∧ RdA W A l.length l ∧ (∀ x ∈ l, InArc x) ∧ l.length * 24 ≤ 140737488351232 ∧ l.length ≤ c ∧ c ≤ 9223372036854775807 := by
  rcases cells_of_fields Tryz.underlying28 Tryz.underlying56 (by kernel_rfl) (by kernel_rfl) h with hcs | ⟨x, len, cap, es, ss, hcs, hx, hle, hl, hm, hi⟩
  · have hv : v = .slice none 0 0 := by simpa using hcs
    exact ⟨none, [], 0, hv, Rd.nil, (fun x hx => by cases hx), by simp, by simp, by omega⟩
  · have hv : v = .slice (some x) len cap := by simpa using hcs
    rw [hx] at hd
    have z := sized_slice hsz ht hd Tryz.underlying28
    have hB : Tryz.prog.bytesOf 56 = 24 := by kernel_rfl
    rw [hB] at z
    have hr : reachBytes ≤ 140737488351232 := by decide
    obtain ⟨s, hs, hq⟩ := list_at (α := ArcT) (Q := fun i o => InArc o ∧ ∀ k u, (encA o)[k]? = some u → W.cell? (x.add (i * 3 + k)) = some u) len (fun i hil => by
      obtain ⟨n, hf⟩ := hi i hil
      obtain ⟨v0, y0, c0, t0⟩ := hf 0 _ rfl
      obtain ⟨v1, y1, c1, t1⟩ := hf 1 _ rfl
      obtain ⟨v2, y2, c2, t2⟩ := hf 2 _ rfl
      obtain ⟨n0, e0, _, k0⟩ := DataW.trod_int Tryz.underlying3 t0
      obtain ⟨n1, e1, _, k1⟩ := DataW.trod_int Tryz.underlying3 t1
      obtain ⟨n2, e2, _, k2⟩ := DataW.trod_int Tryz.underlying3 t2
      injection e0 with e0
      injection e1 with e1
      injection e2 with e2
      subst e0 e1 e2
      refine ⟨⟨n0, n1, n2⟩, ⟨i64_of_wf k0, i64_of_wf k1, i64_of_wf k2⟩, fun k u hk => ?_⟩
      match k, hk with
      | 0, hk => have e : u = .int .i64 n0 := by simpa using hk.symm
                 rw [e]; exact c0
      | 1, hk => have e : u = .int .i64 n1 := by simpa using hk.symm
                 rw [e]; exact c1
      | 2, hk => have e : u = .int .i64 n2 := by simpa using hk.symm
                 rw [e]; exact c2)
    refine ⟨some x, s, cap, by rw [hs]; exact hv, ⟨rfl, fun _ => ⟨x, rfl, fun q o i u hj hi => (hq q o hj).2 i u hi⟩⟩, fun o ho => ?_, by rw [hs]; have := Nat.mul_le_mul_right 24 hle; omega, by rw [hs]; exact hl, by unfold maxLen at hm; omega⟩
    obtain ⟨i, hi, rfl⟩ := List.getElem_of_mem ho
    exact (hq i _ (List.getElem?_eq_getElem hi)).1
set_option maxRecDepth 100000 in
/-- a graph -/
theorem graph_of {r : Reach} {b0 : Nat} {v : Value} {d : DataW H} {p : List MemPlace} {ts : List TypeId} {ds : List (DataW H)} {j : Nat} (hsz : (DataW.weightsEach Tryz.prog ts ds).all (· ≤ reachBytes) = true) (ht : ts[j]? = some 30) (hd : ds[j]? = some d)
    (hv : Value.okWide Tryz.prog W r b0 30 v) (h : DataW.Trod enc Tryz.prog W base spare held 30 v d p) : ∃ (A : Option Addr) (k : Nat) (g : GrT), v = .agg #[.int .i64 g.n, .slice A g.arcs.length k] ∧ RdA W A g.arcs.length g.arcs ∧ g.arcs.length * 24 ≤ 140737488351232 ∧ In64 g.n ∧ ∀ a ∈ g.arcs, InArc a := by
  obtain ⟨v0, v1, y0, y1, n, rfl, rfl, h0, h1⟩ := open_agg2 Tryz.underlying30 (by kernel_rfl) (by kernel_rfl) hv h
  have hs := weights_agg hsz ht hd Tryz.underlying30
  obtain ⟨n0, e0, _, k0⟩ := DataW.trod_int Tryz.underlying3 h0
  injection e0 with e0
  subst e0
  obtain ⟨A1, l1, c1, rfl, r1, i1, s1, t1⟩ := arcs_of (j := 1) hs rfl rfl h1
  exact ⟨A1, c1, ⟨n0, l1⟩, rfl, r1, s1, i64_of_wf k0, i1⟩
end
end Go.Proofs.YtmnnoecjedkdjaaGreatDoor.Recs
