/- A hierarchy that came in as an argument, opened. The first two laws are after the guide's page on structs. -/
import Derived.Test.YtkcnnamghpdplaaDoorCl3
import Derived.Deep.Slices
import Derived.Deep.Fields
import Derived.ChangeSame
import Derived.Lib.SmallJoins
import Derived.SizedLaws
set_option linter.unusedSimpArgs false
set_option linter.unusedVariables false
namespace Go.Proofs.YtkcnnamghpdplaaDoor.Recs
open Go.RowKit Go.Joins Go.ChangeShapes Go.WideShapes Go.Deep
section
variable {H : Type} {enc : TypeId × Value → H} {P : Program} {w : World} {base : Nat} {spare : Nat → Bool} {held : Bool}
theorem cells_of_fields {t e : TypeId} {fs : Array Field} {fuel : Nat} {cs : List Value} {x : DataW H × List MemPlace} (ht : P.underlying t = some (.slice e)) (he : P.underlying e = some (.struct fs))
    (hone : oneCellFields P fs = true) (hC : P.cellsOf e = fs.size) (h : DataW.trod enc P w base spare held fuel t cs = some x) :
    (cs = [.slice none 0 0]) ∨
    ∃ (a : Addr) (len cap : Nat) (es ss : List (DataW H)), cs = [.slice (some a) len cap] ∧ x.1 = .slice es ss ∧ len ≤ es.length + ss.length ∧ len ≤ cap ∧ cap ≤ maxLen ∧
      ∀ i, i < len → ∃ (n : Nat), ∀ (j : Nat) (f : Field), fs[j]? = some f → ∃ (v : Value) (y : DataW H × List MemPlace), w.cell? (a.add (i * fs.size + j)) = some v ∧ DataW.trod enc P w base spare held n f.type [v] = some y := by
  rcases open_slice ht h with h0 | ⟨a, len, cap, m, n, D, Pl, hcs, hb, hl, hm, hmm, hx, hi⟩
  · exact .inl h0.1
  · have hlm : len ≤ m := by rw [hmm]; split <;> omega
    refine .inr ⟨a, len, cap, _, _, hcs, by rw [hx], by simp, hl, hm, fun i hil => ?_⟩
    have him : i < m := by omega
    obtain ⟨cs', hc, ht'⟩ := hi i him
    rw [hC] at hc
    obtain ⟨ys, n', hn', hy, hlen, hyl, hf⟩ := DataW.trod_struct he ht'
    obtain ⟨_, hcl, hat⟩ := World.cells?_some hc
    refine ⟨n', fun j f hj => ?_⟩
    obtain ⟨ho, hk⟩ := hone_of hone j f hj
    have hjl : j < fs.size := (Array.getElem?_eq_some_iff.1 hj).1
    have hcell := hat j hjl
    have hv : cs'[j]? = some (cs'[j]'(by omega)) := List.getElem?_eq_getElem (by omega)
    have h1 := hf j f hj
    rw [ho, hk] at h1
    have hone' : (cs'.drop j).take 1 = [cs'[j]'(by omega)] := by
      rw [List.drop_eq_getElem_cons (by omega)]
      rfl
    rw [hone'] at h1
    have hys : ys[j]? = some (ys[j]'(by omega)) := List.getElem?_eq_getElem (by omega)
    refine ⟨_, _, ?_, h1.trans hys⟩
    rw [← Go.Deep.add_add, hcell, hv]
theorem open_agg5 {r : Reach} {b0 : Nat} {t : TypeId} {f0 f1 f2 f3 f4 : Field} {v : Value} {d : DataW H} {p : List MemPlace} (hs : P.underlying t = some (.struct #[f0, f1, f2, f3, f4])) (hone : oneCellFields P #[f0, f1, f2, f3, f4] = true) (hC : P.cellsOf t = 5)
    (hv : Value.okWide P w r b0 t v) (h : DataW.Trod enc P w base spare held t v d p) :
    ∃ (v0 v1 v2 v3 v4 : Value) (y0 y1 y2 y3 y4 : DataW H × List MemPlace) (n : Nat), v = .agg #[v0, v1, v2, v3, v4] ∧ d = .agg [y0.1, y1.1, y2.1, y3.1, y4.1] ∧
      DataW.trod enc P w base spare held n f0.type [v0] = some y0 ∧ DataW.trod enc P w base spare held n f1.type [v1] = some y1 ∧ DataW.trod enc P w base spare held n f2.type [v2] = some y2 ∧ DataW.trod enc P w base spare held n f3.type [v3] = some y3 ∧ DataW.trod enc P w base spare held n f4.type [v4] = some y4 := by
  obtain ⟨cs, rfl, hsz⟩ := okWide_struct hs hv
  obtain ⟨l⟩ := cs
  match l, hsz.trans hC with
  | [c0, c1, c2, c3, c4], _ =>
    obtain ⟨fuel, hf⟩ := h
    obtain ⟨xs, n, _, hx, _, hlen, hg⟩ := DataW.trod_struct hs hf
    obtain ⟨o0, k0⟩ := hone_of hone 0 f0 rfl
    obtain ⟨o1, k1⟩ := hone_of hone 1 f1 rfl
    obtain ⟨o2, k2⟩ := hone_of hone 2 f2 rfl
    obtain ⟨o3, k3⟩ := hone_of hone 3 f3 rfl
    obtain ⟨o4, k4⟩ := hone_of hone 4 f4 rfl
    match xs, hlen with
    | [y0, y1, y2, y3, y4], _ =>
      simp only [Prod.mk.injEq] at hx
      exact ⟨c0, c1, c2, c3, c4, y0, y1, y2, y3, y4, n, rfl, by simpa using hx.1, by simpa [Value.cells, o0, k0] using hg 0 f0 rfl, by simpa [Value.cells, o1, k1] using hg 1 f1 rfl, by simpa [Value.cells, o2, k2] using hg 2 f2 rfl, by simpa [Value.cells, o3, k3] using hg 3 f3 rfl, by simpa [Value.cells, o4, k4] using hg 4 f4 rfl⟩
theorem weights_agg {ts : List TypeId} {ds : List (DataW H)} {j : Nat} {t : TypeId} {parts : List (DataW H)} {fs : Array Field} (h : (DataW.weightsEach P ts ds).all (· ≤ reachBytes) = true) (ht : ts[j]? = some t) (hd : ds[j]? = some (.agg parts)) (hu : P.underlying t = some (.struct fs)) :
    (DataW.weightsEach P (fs.toList.map (·.type)) parts).all (· ≤ reachBytes) = true :=
  List.all_eq_true.2 fun x hx => List.all_eq_true.1 h x (DataW.weights_mem_each ht hd x (by simp only [DataW.weights, hu]; exact hx))
end
/-- What is there at each place below n is a list. -/
theorem list_at {α : Type} {Q : Nat → α → Prop} : ∀ n, (∀ i, i < n → ∃ x, Q i x) → ∃ l : List α, l.length = n ∧ ∀ i x, l[i]? = some x → Q i x
  | 0, _ => ⟨[], rfl, fun i x h => by simp at h⟩
  | n + 1, h => by
    obtain ⟨l, hl, hq⟩ := list_at n (fun i hi => h i (by omega))
    obtain ⟨x, hx⟩ := h n (by omega)
    refine ⟨l ++ [x], by rw [List.length_append, hl]; rfl, fun i y hy => ?_⟩
    by_cases hi : i < n
    · rw [List.getElem?_append_left (by omega)] at hy
      exact hq i y hy
    · have hi2 : i < (l ++ [x]).length := (List.getElem?_eq_some_iff.1 hy).1
      rw [List.length_append, hl] at hi2
      obtain rfl : i = n := by simp at hi2; omega
      rw [List.getElem?_append_right (by omega), hl, Nat.sub_self] at hy
      have e : x = y := by simpa using hy
      rw [← e]; exact hx
theorem u32_of_wf {n : Int} (h : (Lit.int .u32 n).wf = true) : 0 ≤ n ∧ n ≤ 4294967295 := by
  simp only [Lit.wf, Bool.and_eq_true, decide_eq_true_eq] at h
  exact h
theorem u64_of_wf {n : Int} (h : (Lit.int .u64 n).wf = true) : 0 ≤ n ∧ n ≤ 18446744073709551615 := by
  simp only [Lit.wf, Bool.and_eq_true, decide_eq_true_eq] at h
  exact h
section
variable {H : Type} {enc : TypeId × Value → H} {W : World} {base : Nat} {spare : Nat → Bool} {held : Bool}
/-- a list of numbers -/
theorem words_of {ts : List TypeId} {ds : List (DataW H)} {j : Nat} (hsz : (DataW.weightsEach Tryd.prog ts ds).all (· ≤ reachBytes) = true) {n : Nat} {v : Value} {y : DataW H × List MemPlace} (ht : ts[j]? = some 22) (hd : ds[j]? = some y.1)
    (h : DataW.trod enc Tryd.prog W base spare held n 22 [v] = some y) :
    ∃ (A : Option Addr) (l : List Nat) (c : Nat), v = .slice A l.length c ∧ Rd32 W A l.length l ∧ (∀ x ∈ l, In32 x) ∧ l.length * 4 ≤ 140737488351232 ∧ l.length ≤ c ∧ c ≤ 9223372036854775807 := by
  rcases open_ints Tryd.underlying22 Tryd.underlying50 (by kernel_rfl) h with ⟨hcs, _⟩ | ⟨x, len, cap, zs, hcs, _, hl, hm, hz, hx, hcell, hwf⟩
  · have hv : v = .slice none 0 0 := by simpa using hcs
    exact ⟨none, [], 0, hv, Rd.nil, (fun x hx => by cases hx), by simp, by simp, by omega⟩
  · have hv : v = .slice (some x) len cap := by simpa using hcs
    have hzl : len ≤ zs.length := by rw [hz]; split <;> omega
    subst hx
    have z := sized_slice hsz ht hd Tryd.underlying22
    have hB : Tryd.prog.bytesOf 50 = 4 := by kernel_rfl
    rw [hB] at z
    have hle : (lits (H := H) .u32 (zs.take len)).length + (lits (H := H) .u32 (zs.drop len)).length = zs.length := by
      simp [lits]
      omega
    rw [hle] at z
    have hlen : ((zs.take len).map Int.toNat).length = len := by rw [List.length_map, List.length_take]; omega
    have hr : reachBytes ≤ 140737488351232 := by decide
    refine ⟨some x, (zs.take len).map Int.toNat, cap, by rw [hlen]; exact hv, ⟨rfl, fun _ => ⟨x, rfl, fun q o i u hq hi => ?_⟩⟩, fun o ho => ?_, by rw [hlen]; have := Nat.mul_le_mul_right 4 hzl; omega, by rw [hlen]; exact hl, by unfold maxLen at hm; omega⟩
    · have hq' : q < len := by have := (List.getElem?_eq_some_iff.1 hq).1; omega
      rw [List.getElem?_map, List.getElem?_take_of_lt hq'] at hq
      obtain ⟨b, hb, rfl⟩ := Option.map_eq_some_iff.1 hq
      have hbm := List.mem_of_getElem? hb
      have h0 := u32_of_wf (hwf b hbm)
      have hi0 : i = 0 := by have := (List.getElem?_eq_some_iff.1 hi).1; simpa using this
      subst hi0
      have hu : u = .int .u32 b := by
        have : u = .int .u32 ((b.toNat : Nat) : Int) := by simpa using hi.symm
        rw [this, Int.toNat_of_nonneg h0.1]
      have := hcell q (by omega)
      rw [List.getD_eq_getElem?_getD, hb] at this
      rw [hu, Nat.mul_one, Nat.add_zero]
      exact this
    · obtain ⟨b, hb, rfl⟩ := List.mem_map.1 ho
      have h0 := u32_of_wf (hwf b (List.mem_of_mem_take hb))
      unfold In32
      omega
/-- a list of links -/
theorem links_of {ts : List TypeId} {ds : List (DataW H)} {j : Nat} (hsz : (DataW.weightsEach Tryd.prog ts ds).all (· ≤ reachBytes) = true) {n : Nat} {v : Value} {y : DataW H × List MemPlace} (ht : ts[j]? = some 23) (hd : ds[j]? = some y.1)
    (h : DataW.trod enc Tryd.prog W base spare held n 23 [v] = some y) :
    ∃ (A : Option Addr) (l : List Lk) (c : Nat), v = .slice A l.length c ∧ RdK W A l.length l ∧ (∀ x ∈ l, InK x) ∧ l.length * 24 ≤ 140737488351232 ∧ l.length ≤ c ∧ c ≤ 9223372036854775807 := by
  rcases cells_of_fields Tryd.underlying23 Tryd.underlying52 (by kernel_rfl) (by kernel_rfl) h with hcs | ⟨x, len, cap, es, ss, hcs, hx, hle, hl, hm, hi⟩
  · have hv : v = .slice none 0 0 := by simpa using hcs
    exact ⟨none, [], 0, hv, Rd.nil, (fun x hx => by cases hx), by simp, by simp, by omega⟩
  · have hv : v = .slice (some x) len cap := by simpa using hcs
    rw [hx] at hd
    have z := sized_slice hsz ht hd Tryd.underlying23
    have hB : Tryd.prog.bytesOf 52 = 24 := by kernel_rfl
    rw [hB] at z
    have hr : reachBytes ≤ 140737488351232 := by decide
    obtain ⟨s, hs, hq⟩ := list_at (α := Lk) (Q := fun i o => InK o ∧ ∀ k u, (encK o)[k]? = some u → W.cell? (x.add (i * 4 + k)) = some u) len (fun i hil => by
      obtain ⟨n, hf⟩ := hi i hil
      obtain ⟨v0, y0, c0, t0⟩ := hf 0 _ rfl
      obtain ⟨v1, y1, c1, t1⟩ := hf 1 _ rfl
      obtain ⟨v2, y2, c2, t2⟩ := hf 2 _ rfl
      obtain ⟨v3, y3, c3, t3⟩ := hf 3 _ rfl
      obtain ⟨n0, e0, _, k0⟩ := DataW.trod_int Tryd.underlying50 t0
      obtain ⟨n1, e1, _, k1⟩ := DataW.trod_int Tryd.underlying46 t1
      obtain ⟨n2, e2, _, k2⟩ := DataW.trod_int Tryd.underlying50 t2
      obtain ⟨n3, e3, _, k3⟩ := DataW.trod_int Tryd.underlying50 t3
      injection e0 with e0
      injection e1 with e1
      injection e2 with e2
      injection e3 with e3
      subst e0 e1 e2 e3
      have j0 := u32_of_wf k0
      have j1 := u64_of_wf k1
      have j2 := u32_of_wf k2
      have j3 := u32_of_wf k3
      refine ⟨⟨n0.toNat, n1, n2.toNat, n3.toNat⟩, ⟨by unfold In32; dsimp only; omega, j1, by unfold In32; dsimp only; omega, by unfold In32; dsimp only; omega⟩, fun k u hk => ?_⟩
      match k, hk with
      | 0, hk => have e : u = .int .u32 ((n0.toNat : Nat) : Int) := by simpa using hk.symm
                 rw [e, Int.toNat_of_nonneg j0.1]; exact c0
      | 1, hk => have e : u = .int .u64 n1 := by simpa using hk.symm
                 rw [e]; exact c1
      | 2, hk => have e : u = .int .u32 ((n2.toNat : Nat) : Int) := by simpa using hk.symm
                 rw [e, Int.toNat_of_nonneg j2.1]; exact c2
      | 3, hk => have e : u = .int .u32 ((n3.toNat : Nat) : Int) := by simpa using hk.symm
                 rw [e, Int.toNat_of_nonneg j3.1]; exact c3)
    refine ⟨some x, s, cap, by rw [hs]; exact hv, ⟨rfl, fun _ => ⟨x, rfl, fun q o i u hj hi => (hq q o hj).2 i u hi⟩⟩, fun o ho => ?_, by rw [hs]; have := Nat.mul_le_mul_right 24 hle; omega, by rw [hs]; exact hl, by unfold maxLen at hm; omega⟩
    obtain ⟨i, hi, rfl⟩ := List.getElem_of_mem ho
    exact (hq i _ (List.getElem?_eq_getElem hi)).1
set_option maxRecDepth 100000 in
/-- a hierarchy -/
theorem hier_of {r : Reach} {b0 : Nat} {v : Value} {d : DataW H} {p : List MemPlace} {ts : List TypeId} {ds : List (DataW H)} {j : Nat} (hsz : (DataW.weightsEach Tryd.prog ts ds).all (· ≤ reachBytes) = true) (ht : ts[j]? = some 25) (hd : ds[j]? = some d)
    (hv : Value.okWide Tryd.prog W r b0 25 v) (h : DataW.Trod enc Tryd.prog W base spare held 25 v d p) : ∃ (k : HV) (h : HierT), v = hierV k h ∧ RdH W k h ∧ Small k h ∧ InH h := by
  obtain ⟨v0, v1, v2, v3, v4, y0, y1, y2, y3, y4, n, rfl, rfl, h0, h1, h2, h3, h4⟩ := open_agg5 Tryd.underlying25 (by kernel_rfl) (by kernel_rfl) hv h
  have hs := weights_agg hsz ht hd Tryd.underlying25
  obtain ⟨A0, l0, c0, rfl, r0, i0, s0, t0⟩ := words_of (j := 0) hs rfl rfl h0
  obtain ⟨A1, l1, c1, rfl, r1, i1, s1, t1⟩ := words_of (j := 1) hs rfl rfl h1
  obtain ⟨A2, l2, c2, rfl, r2, i2, s2, t2⟩ := links_of (j := 2) hs rfl rfl h2
  obtain ⟨A3, l3, c3, rfl, r3, i3, s3, t3⟩ := words_of (j := 3) hs rfl rfl h3
  obtain ⟨A4, l4, c4, rfl, r4, i4, s4, t4⟩ := links_of (j := 4) hs rfl rfl h4
  exact ⟨⟨A0, A1, A2, A3, A4, c0, c1, c2, c3, c4⟩, ⟨l0, l1, l2, l3, l4⟩, rfl, ⟨r0, r1, r2, r3, r4⟩, ⟨s0, s1, s2, s3, s4, t0, t1, t2, t3, t4⟩, ⟨i0, i1, i2, i3, i4⟩⟩
end
end Go.Proofs.YtkcnnamghpdplaaDoor.Recs
