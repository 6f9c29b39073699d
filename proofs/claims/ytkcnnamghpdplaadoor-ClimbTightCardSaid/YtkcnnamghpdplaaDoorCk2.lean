/- The search over all links, number by number (plain). -/
import Derived.Test.YtkcnnamghpdplaaDoorCk1
import Derived.Test.YtkcnnamghpdplaaDoorClA
set_option linter.unusedVariables false
namespace Go.Proofs.YtkcnnamghpdplaaDoor
/-- a step: where to, its weight -/
structure StT where
  to : Nat
  w : Int
def ES (S : Nat → List StT) (x y : Nat) (w : Int) : Prop := ∃ e ∈ S x, e.to = y ∧ e.w = w
structure Web (n : Nat) (S : Nat → List StT) : Prop where
  to : ∀ x e, e ∈ S x → x < n ∧ e.to < n
  w : ∀ x e, e ∈ S x → 0 ≤ e.w ∧ e.w ≤ topI
def cntF (d : List Int) : Nat := d.countP fun x => decide (x ≠ farI)
def sumN : List Int → Nat
  | [] => 0
  | x :: r => x.toNat + sumN r
theorem sumN_set : ∀ (d : List Int) (i : Nat) (v : Int) (hi : i < d.length), sumN (d.set i v) + d[i].toNat = sumN d + v.toNat
  | x :: r, 0, v, _ => by simp [sumN]; omega
  | x :: r, i + 1, v, hi => by
    have := sumN_set r i v (by simpa using hi)
    simp only [List.set_cons_succ, sumN, List.getElem_cons_succ]
    omega
def pot (d : List Int) (q : List (Option Int)) : Nat := 2 * sumN d + cntO q
theorem dg_at {d : List Int} {x : Nat} (h : x < d.length) : dg d x = d[x] := by
  unfold dg
  rw [List.getD_eq_getElem?_getD, List.getElem?_eq_getElem h]
  rfl
theorem getO_at {m : List (Option Int)} {x : Nat} (h : x < m.length) : getO m x = m[x] := by
  unfold getO
  rw [List.getD_eq_getElem?_getD, List.getElem?_eq_getElem h]
  rfl
theorem cntO_none {q : List (Option Int)} {x : Nat} {b : Int} (h : getO q x = some b) : cntO (q.set x none) + 1 = cntO q := by
  have hx := getO_lt h
  rw [getO_at hx] at h
  unfold cntO
  rw [List.countP_set hx, h]
  have : 0 < List.countP Option.isSome q := List.countP_pos_iff.2 ⟨q[x], List.getElem_mem hx, by rw [h]; rfl⟩
  simp only [Option.isSome_some, Option.isSome_none, if_true, Bool.false_eq_true, if_false]
  omega
theorem cntO_some {q : List (Option Int)} {x : Nat} (hx : x < q.length) (v : Int) : cntO (q.set x (some v)) ≤ cntO q + 1 := by
  unfold cntO
  rw [List.countP_set hx]
  simp only [Option.isSome_some, if_true]
  split <;> omega
theorem cntF_set {d : List Int} {x : Nat} (hx : x < d.length) {v : Int} (hv : v ≠ farI) : cntF d ≤ cntF (d.set x v) ∧ (dg d x = farI → cntF (d.set x v) = cntF d + 1) := by
  unfold cntF
  rw [dg_at hx, List.countP_set hx]
  by_cases h : d[x] = farI
  · rw [h]
    simp [hv]
  · have : 0 < List.countP (fun x => decide (x ≠ farI)) d := List.countP_pos_iff.2 ⟨d[x], List.getElem_mem hx, by simpa using h⟩
    simp only [ne_eq, h, not_false_eq_true, decide_true, if_true, hv, false_implies, and_true]
    simp only [ne_eq] at this
    omega
theorem cntF_le (d : List Int) : cntF d ≤ d.length := List.countP_le_length
/-- the search while it runs: d the numbers, q the queue; the steps of the rank t are gone through up to the j-th -/
structure Rlx (n : Nat) (S : Nat → List StT) (k u : Nat) (d : List Int) (q : List (Option Int)) (t j : Nat) : Prop where
  dl : d.length = n
  ql : q.length = n
  st : dg d u = 0
  wk : ∀ x, dg d x ≠ farI → Wk (ES S) k u x (dg d x)
  nn : ∀ x, 0 ≤ dg d x
  q_ : ∀ x b, getO q x = some b → b = dg d x ∧ b ≠ farI
  cl : ∀ r, dg d r ≠ farI → getO q r = none → ∀ e ∈ S r, k ≤ e.to → (r = t → e ∈ (S t).take j) → dg d e.to ≤ dg d r + e.w
  ub : ∀ x, dg d x ≠ farI → dg d x + topI ≤ (cntF d : Int) * topI
theorem Web.nil {n : Nat} {S : Nat → List StT} (h : Web n S) : S n = [] := by
  cases hs : S n with
  | nil => rfl
  | cons e r => have := (h.to n e (by rw [hs]; exact List.mem_cons_self ..)).1; omega
theorem Rlx.start {n : Nat} {S : Nat → List StT} {k u : Nat} (hu : u < n) : Rlx n S k u ((List.replicate n farI).set u 0) ((List.replicate n none).set u (some 0)) n 0 := by
  have hd : ∀ x, dg ((List.replicate n farI).set u 0) x = if x = u then 0 else farI := fun x => by rw [dg_set (by simpa using hu), dg_rep]
  have hq : ∀ x, getO ((List.replicate n none).set u (some 0)) x = if x = u then some 0 else none := fun x => by
    rw [getO_set (by simpa using hu)]
    split
    · rfl
    · unfold getO
      rw [List.getD_eq_getElem?_getD, List.getElem?_replicate]
      split <;> rfl
  have hf : (0 : Int) ≠ farI := by unfold farI; omega
  refine ⟨by simp, by simp, by rw [hd, if_pos rfl], fun x hx => ?_, fun x => ?_, fun x b hb => ?_, fun r hr hqr => ?_, fun x hx => ?_⟩
  · rw [hd] at hx ⊢
    split at hx
    · rename_i e
      subst e
      rw [if_pos rfl]
      exact .nil _
    · exact absurd rfl hx
  · rw [hd]
    split
    · omega
    · unfold farI; omega
  · rw [hq] at hb
    rw [hd]
    split at hb
    · rename_i e
      rw [if_pos e]
      cases hb
      exact ⟨rfl, hf⟩
    · cases hb
  · rw [hd] at hr
    rw [hq] at hqr
    split at hr
    · rename_i e
      rw [if_pos e] at hqr
      cases hqr
    · exact absurd rfl hr
  · have h1 := (cntF_set (d := List.replicate n farI) (x := u) (by simpa using hu) hf).2 (dg_rep n u)
    rw [h1]
    rw [hd] at hx ⊢
    split at hx
    · rename_i e
      rw [if_pos e]
      unfold topI
      omega
    · exact absurd rfl hx
theorem Rlx.pop {n : Nat} {S : Nat → List StT} {k u : Nat} {d : List Int} {q : List (Option Int)} {t j x : Nat} {b : Int} (h : Rlx n S k u d q t j) (hj : (S t).length ≤ j) (hx : getO q x = some b) : Rlx n S k u d (q.set x none) x 0 ∧ pot d (q.set x none) + 1 = pot d q := by
  have hxl := getO_lt hx
  have gq : ∀ y, getO (q.set x none) y = if y = x then none else getO q y := getO_set hxl _
  refine ⟨⟨h.dl, by rw [List.length_set]; exact h.ql, h.st, h.wk, h.nn, fun y c hy => ?_, fun r hr hqr e he hk hp => ?_, h.ub⟩, ?_⟩
  · rw [gq] at hy
    split at hy
    · cases hy
    · exact h.q_ y c hy
  · by_cases hrx : r = x
    · have := hp hrx
      simp at this
    · rw [gq, if_neg hrx] at hqr
      exact h.cl r hr hqr e he hk (fun e' => by subst e'; rw [List.take_of_length_le hj]; exact he)
  · have := cntO_none hx
    unfold pot
    omega
theorem Rlx.skip {n : Nat} {S : Nat → List StT} {k u : Nat} {d : List Int} {q : List (Option Int)} {t j : Nat} (h : Rlx n S k u d q t j) (hj : j < (S t).length) (hs : k ≤ ((S t)[j]).to → dg d ((S t)[j]).to ≤ dg d t + ((S t)[j]).w) : Rlx n S k u d q t (j + 1) := by
  refine ⟨h.dl, h.ql, h.st, h.wk, h.nn, h.q_, fun r hr hqr e he hk hp => ?_, h.ub⟩
  by_cases hrt : r = t
  · have h2 := hp hrt
    rw [List.take_succ_eq_append_getElem hj] at h2
    rcases List.mem_append.1 h2 with h2 | h2
    · exact h.cl r hr hqr e he hk (fun _ => h2)
    · obtain rfl := List.mem_singleton.1 h2
      subst hrt
      exact hs hk
  · exact h.cl r hr hqr e he hk (fun e' => absurd e' hrt)
theorem Rlx.safe {n : Nat} {S : Nat → List StT} {k u : Nat} {d : List Int} {q : List (Option Int)} {t j : Nat} (h : Rlx n S k u d q t j) (hn : n ≤ 65536) (x : Nat) (hx : dg d x ≠ farI) : 0 ≤ dg d x ∧ dg d x + topI ≤ 9223372036854775808 := by
  have h1 := h.nn x
  have h2 := h.ub x hx
  have h3 := cntF_le d
  rw [h.dl] at h3
  have h4 : (cntF d : Int) * topI ≤ 65536 * topI := Int.mul_le_mul_of_nonneg_right (by omega) (by unfold topI; omega)
  have h5 : (65536 : Int) * topI = 9223372036854775808 := by unfold topI; rfl
  omega
theorem Rlx.relax {n : Nat} {S : Nat → List StT} {k u : Nat} {d : List Int} {q : List (Option Int)} {t j : Nat} (hw : Web n S) (hn : n ≤ 65536) (h : Rlx n S k u d q t j) (hj : j < (S t).length) (hk : k ≤ ((S t)[j]).to) (ht : dg d t ≠ farI)
    (hlt : dg d t + ((S t)[j]).w < dg d ((S t)[j]).to) : Rlx n S k u (d.set ((S t)[j]).to (dg d t + ((S t)[j]).w)) (pushO q ((S t)[j]).to (dg d t + ((S t)[j]).w)) t (j + 1) ∧
      pot (d.set ((S t)[j]).to (dg d t + ((S t)[j]).w)) (pushO q ((S t)[j]).to (dg d t + ((S t)[j]).w)) ≤ pot d q := by
  have hmem : (S t)[j] ∈ S t := List.getElem_mem hj
  generalize hL : (S t)[j] = e at *
  have hto := (hw.to t e hmem).2
  have hww := hw.w t e hmem
  have hs := h.safe hn t ht
  have hnt := h.nn t
  generalize hv : dg d t + e.w = v at *
  have hed : e.to < d.length := by rw [h.dl]; exact hto
  have heq : e.to < q.length := by rw [h.ql]; exact hto
  have hvf : v ≠ farI := by unfold farI; omega
  have hpush : pushO q e.to v = q.set e.to (some v) := by
    unfold pushO
    cases ho : getO q e.to with
    | none => rfl
    | some old =>
      have := (h.q_ _ _ ho).1
      simp only
      rw [if_neg (by omega)]
  rw [hpush]
  have gd : ∀ x, dg (d.set e.to v) x = if x = e.to then v else dg d x := dg_set hed v
  have gq : ∀ x, getO (q.set e.to (some v)) x = if x = e.to then some v else getO q x := getO_set heq _
  have hte : t ≠ e.to := fun e' => by rw [← e'] at hlt; omega
  have hue : u ≠ e.to := fun e' => by rw [← e', h.st] at hlt; omega
  have hcf := cntF_set hed hvf
  refine ⟨⟨by rw [List.length_set]; exact h.dl, by rw [List.length_set]; exact h.ql, by rw [gd, if_neg hue]; exact h.st, fun x hx => ?_, fun x => ?_, fun x b hb => ?_, fun r hr hqr e' he hke hp => ?_, fun x hx => ?_⟩, ?_⟩
  · rw [gd] at hx ⊢
    split
    · rename_i e1
      subst e1
      have := (h.wk t ht).snoc (z := e.to) (w := e.w) ⟨e, hmem, rfl, rfl⟩ hk
      rwa [hv] at this
    · rename_i e1
      rw [if_neg e1] at hx
      exact h.wk x hx
  · rw [gd]
    split
    · omega
    · exact h.nn x
  · rw [gq] at hb
    rw [gd]
    split at hb
    · rename_i e1
      rw [if_pos e1]
      cases hb
      exact ⟨rfl, hvf⟩
    · rename_i e1
      rw [if_neg e1]
      exact h.q_ x b hb
  · rw [gq] at hqr
    split at hqr
    · cases hqr
    · rename_i e1
      have edr : dg (d.set e.to v) r = dg d r := by rw [gd, if_neg e1]
      rw [edr] at hr ⊢
      have old : dg d e'.to ≤ dg d r + e'.w → dg (d.set e.to v) e'.to ≤ dg d r + e'.w := fun hle => by
        rw [gd]
        split
        · rename_i e2
          rw [e2] at hle
          omega
        · exact hle
      by_cases hrt : r = t
      · have h2 := hp hrt
        rw [List.take_succ_eq_append_getElem hj, hL] at h2
        rcases List.mem_append.1 h2 with h2 | h2
        · exact old (h.cl r hr hqr e' he hke (fun _ => h2))
        · obtain rfl := List.mem_singleton.1 h2
          rw [gd, if_pos rfl, hrt, hv]
          exact Int.le_refl _
      · exact old (h.cl r hr hqr e' he hke (fun e2 => absurd e2 hrt))
  · have hub := h.ub t ht
    have hmono : (cntF d : Int) * topI ≤ (cntF (d.set e.to v) : Int) * topI := Int.mul_le_mul_of_nonneg_right (by have := hcf.1; omega) (by unfold topI; omega)
    rw [gd] at hx ⊢
    split
    · by_cases hfe : dg d e.to = farI
      · rw [hcf.2 hfe]
        have : ((cntF d + 1 : Nat) : Int) * topI = (cntF d : Int) * topI + topI := by
          rw [Int.natCast_add, Int.add_mul]
          simp
        omega
      · have := h.ub e.to hfe
        omega
    · rename_i e1
      rw [if_neg e1] at hx
      have := h.ub x hx
      omega
  · have h1 := sumN_set d e.to v hed
    have h2 := cntO_some heq v
    rw [dg_at hed] at hlt
    unfold pot
    omega
theorem Rlx.end_ {n : Nat} {S : Nat → List StT} {k u : Nat} {d : List Int} {q : List (Option Int)} {t j : Nat} (hw : Web n S) (hn : n ≤ 65536) (h : Rlx n S k u d q t j) (hj : (S t).length ≤ j) (hq : ∀ x, getO q x = none) (x : Nat) : LeastW (ES S) k u x (dg d x) := by
  have hcl : ∀ r, dg d r ≠ farI → ∀ e ∈ S r, k ≤ e.to → dg d e.to ≤ dg d r + e.w := fun r hr e he hk => h.cl r hr (hq r) e he hk (fun e' => by subst e'; rw [List.take_of_length_le hj]; exact he)
  have walk : ∀ {r x : Nat} {v : Int}, Wk (ES S) k r x v → dg d r ≠ farI → dg d x ≠ farI ∧ dg d x ≤ dg d r + v := by
    intro r x v hwk
    induction hwk with
    | nil x => exact fun hr => ⟨hr, by omega⟩
    | cons e hy _ ih =>
      intro hr
      obtain ⟨st, hst, rfl, rfl⟩ := e
      have h1 := hcl _ hr st hst hy
      have h2 := h.safe hn _ hr
      have h3 := hw.w _ _ hst
      have h4 : dg d st.to ≠ farI := by unfold farI; omega
      obtain ⟨h5, h6⟩ := ih h4
      exact ⟨h5, by omega⟩
  refine ⟨?_, fun v hv => ?_⟩
  · by_cases hx : dg d x = farI
    · exact .inr hx
    · exact .inl ⟨hx, h.wk x hx⟩
  · have := walk hv (by rw [h.st]; unfold farI; omega)
    rw [h.st] at this
    exact ⟨this.1, by omega⟩
end Go.Proofs.YtkcnnamghpdplaaDoor
