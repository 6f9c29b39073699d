/- Words for memory that all walks of this seat use: a slice that reads as a list, draws, frames. Some lemmas after the guide's page of words to copy. -/
import Derived.Test.YtkcnnamghpdplaaDoorProg
import Derived.Below
import Derived.Laws.OwnMore
import Derived.Deep.AppendLies
import Derived.Deep.Draws
import Derived.Tactics
import Derived.Tactics2
import Derived.WalkKit
import Derived.Lib.Hide
import Derived.KernelRfl
import Derived.Maps.AppendAt
import Derived.Laws.BytesArg
import Derived.Deep.RegionWith
import Derived.Maps.RangeWalk
set_option linter.unusedVariables false
set_option linter.unusedSimpArgs false
namespace Go.Proofs.YtkcnnamghpdplaaDoor
open Go.RowKit

theorem block_of_add (a : Addr) (n : Nat) : (a.add n).block = a.block := by unfold Addr.add; split <;> rfl
theorem add_of_add (a : Addr) (i j : Nat) : (a.add i).add j = a.add (i + j) := by
  unfold Addr.add
  by_cases hi : i = 0 <;> by_cases hj : j = 0 <;> simp [hi, hj, Nat.add_assoc]

/-- Orders have been drawn, nothing else has happened. -/
def Drawn (w w' : World) : Prop := ∃ n, w' = w.drewN n
theorem Drawn.refl (w : World) : Drawn w w := ⟨0, rfl⟩
theorem Drawn.step {w w' : World} (h : Drawn w w') (n : Nat) : Drawn w (w'.drewN n) := by
  obtain ⟨m, rfl⟩ := h
  exact ⟨m + n, World.drewN_drewN ..⟩
theorem Drawn.drew {w w' : World} (h : Drawn w w') : Drawn w w'.drew := h.step 1
theorem Drawn.trans {a b c : World} (h : Drawn a b) (k : Drawn b c) : Drawn a c := by
  obtain ⟨n, rfl⟩ := k
  exact h.step n
theorem Drawn.below {w w' : World} (h : Drawn w w') (B : Nat) : Below B w w' := by
  obtain ⟨n, rfl⟩ := h
  exact ⟨rfl, rfl, rfl, Nat.le_refl _, fun _ _ => rfl⟩

/-- A slice value's cells: what it reads as, nil and empty ones let in. Each element x takes the cells 'enc x', sz of them. -/
def Rd {α : Type} (sz : Nat) (enc : α → List Value) (w : World) (A : Option Addr) (n : Nat) (l : List α) : Prop :=
  l.length = n ∧ (0 < n → ∃ ad, A = some ad ∧ ∀ j x i u, l[j]? = some x → (enc x)[i]? = some u → w.cell? (ad.add (j * sz + i)) = some u)
section
variable {α : Type} {sz : Nat} {enc : α → List Value} {w w' : World} {A : Option Addr} {n : Nat} {l : List α}
theorem Rd.len (h : Rd sz enc w A n l) : l.length = n := h.1
theorem Rd.nil : Rd sz enc w none 0 ([] : List α) := ⟨rfl, fun h => absurd h (by omega)⟩
theorem cell_below {a : Addr} {v : Value} (hb : Below w.heap.size w w') (hc : w.cell? a = some v) : w'.cell? a = some v :=
  (hb.cell (World.block_lt_of_cell? w a hc)).trans hc
theorem Rd.below (h : Rd sz enc w A n l) (hb : Below w.heap.size w w') : Rd sz enc w' A n l :=
  ⟨h.1, fun hn => by
    obtain ⟨ad, e, hc⟩ := h.2 hn
    exact ⟨ad, e, fun j x i u hj hi => cell_below hb (hc j x i u hj hi)⟩⟩
theorem Rd.drawn (h : Rd sz enc w A n l) (hd : Drawn w w') : Rd sz enc w' A n l := h.below (hd.below _)
theorem Rd.at_ (h : Rd sz enc w A n l) {j : Nat} (hj : j < n) : ∃ ad, A = some ad ∧ ∀ i u, (enc (l[j]'(by have := h.1; omega)))[i]? = some u → w.cell? (ad.add (j * sz + i)) = some u := by
  obtain ⟨ad, e, hc⟩ := h.2 (by omega)
  exact ⟨ad, e, fun i u hi => hc j _ i u (List.getElem?_eq_getElem (by have := h.1; omega)) hi⟩
theorem Rd.at1 {f : α → Value} (h : Rd 1 (fun x => [f x]) w A n l) {j : Nat} (hj : j < n) : ∃ ad, A = some ad ∧ w.cell? (ad.add j) = some (f (l[j]'(by have := h.1; omega))) := by
  obtain ⟨ad, e, hc⟩ := h.at_ hj
  refine ⟨ad, e, ?_⟩
  have := hc 0 _ rfl
  rwa [Nat.mul_one, Nat.add_zero] at this
/-- 's[k:]' -/
theorem Rd.drop (h : Rd sz enc w A n l) {k cap : Nat} (hk : k ≤ n) (hc : n ≤ cap) : Rd sz enc w (if cap = k then A else A.map (·.add (k * sz))) (n - k) (l.drop k) := by
  refine ⟨by rw [List.length_drop, h.1], fun hn => ?_⟩
  obtain ⟨ad, rfl, hcell⟩ := h.2 (by omega)
  rw [if_neg (by omega)]
  refine ⟨ad.add (k * sz), rfl, fun j x i u hj hi => ?_⟩
  rw [add_of_add, show k * sz + (j * sz + i) = (k + j) * sz + i by rw [Nat.add_mul]; omega]
  exact hcell _ x i u (by rw [← hj, List.getElem?_drop]) hi
/-- 's[:k]' -/
theorem Rd.take (h : Rd sz enc w A n l) {k : Nat} (hk : k ≤ n) : Rd sz enc w A k (l.take k) := by
  refine ⟨by rw [List.length_take, h.1]; omega, fun hn => ?_⟩
  obtain ⟨ad, rfl, hcell⟩ := h.2 (by omega)
  refine ⟨ad, rfl, fun j x i u hj hi => hcell _ x i u ?_ hi⟩
  rw [List.getElem?_take] at hj
  split at hj
  · exact hj
  · cases hj
end
abbrev u8s (x : Int) : List Value := [.int .u8 x]
/-- a slice of bytes -/
abbrev RdB (w : World) (A : Option Addr) (n : Nat) (l : List Int) : Prop := Rd 1 u8s w A n l
def InB (l : List Int) : Prop := ∀ b ∈ l, 0 ≤ b ∧ b ≤ 255
theorem InB.at_ {l : List Int} (h : InB l) {j : Nat} (hj : j < l.length) : 0 ≤ l[j] ∧ l[j] ≤ 255 := h _ (List.getElem_mem hj)
theorem InB.drop {l : List Int} (h : InB l) (k : Nat) : InB (l.drop k) := fun b hb => h b (List.mem_of_mem_drop hb)
theorem InB.take {l : List Int} (h : InB l) (k : Nat) : InB (l.take k) := fun b hb => h b (List.mem_of_mem_take hb)
theorem InB.append {l m : List Int} (h : InB l) (k : InB m) : InB (l ++ m) := fun b hb => (List.mem_append.1 hb).elim (h b) (k b)
theorem InB.nil : InB [] := fun _ h => by cases h
theorem ret_int {k : IntKind} {a b : Int} (h : a = b) : Ending.returned (.int k a) = .returned (.int k b) := by rw [h]
theorem val_int {k : IntKind} {a b : Int} (h : a = b) : Value.int k a = .int k b := by rw [h]

/-! ### rows of the call's own, whose elements take 'enc x', sz cells each -/
section
variable {α : Type} {sz : Nat} {enc : α → List Value}
theorem flat_len (hE : ∀ x, (enc x).length = sz) (l : List α) : (l.flatMap enc).length = l.length * sz := by
  induction l with
  | nil => simp
  | cons x l ih => rw [List.flatMap_cons, List.length_append, ih, hE, List.length_cons, Nat.succ_mul, Nat.add_comm]
theorem flat_get (hE : ∀ x, (enc x).length = sz) (l : List α) (q r : Nat) (hr : r < sz) : (l.flatMap enc)[q * sz + r]? = (l[q]?).bind fun x => (enc x)[r]? := by
  induction l generalizing q with
  | nil => simp
  | cons x l ih =>
    rw [List.flatMap_cons]
    cases q with
    | zero => rw [List.getElem?_append_left (by rw [hE]; omega)]; simp
    | succ q =>
      rw [List.getElem?_append_right (by rw [hE, Nat.succ_mul]; omega), hE, show (q + 1) * sz + r - sz = q * sz + r by rw [Nat.succ_mul]; omega, ih]
      simp
theorem flat_split {l : List α} {j : Nat} {u : Value} (hE : ∀ x, (enc x).length = sz) (h : (l.flatMap enc)[j]? = some u) :
    ∃ q x r, l[q]? = some x ∧ (enc x)[r]? = some u ∧ j = q * sz + r := by
  have hj : j < l.length * sz := by
    rw [← flat_len hE]
    exact (List.getElem?_eq_some_iff.1 h).1
  have hs : 0 < sz := by
    rcases Nat.eq_zero_or_pos sz with h0 | h0
    · rw [h0, Nat.mul_zero] at hj; omega
    · exact h0
  have hd : j = j / sz * sz + j % sz := by rw [Nat.mul_comm]; exact (Nat.div_add_mod j sz).symm
  rw [hd, flat_get hE l _ _ (Nat.mod_lt _ hs)] at h
  cases hx : l[j / sz]? with
  | none => rw [hx] at h; cases h
  | some x => rw [hx] at h; exact ⟨_, x, _, hx, h, hd⟩
/-- A row of the call's own, from block 'base' on. -/
def Own (e sz : Nat) (enc : α → List Value) (w : World) (base : Nat) (v : Value) (l : List α) : Prop := w.ownsRow base e sz v l.length (l.flatMap enc)
variable {e : Nat} {w w' : World} {base : Nat} {v : Value} {l : List α}
theorem Own.nil (e sz : Nat) (enc : α → List Value) (w : World) (base : Nat) : Own e sz enc w base (.slice none 0 0) [] := World.ownsRow_nil w base e sz
theorem Own.form (h : Own e sz enc w base v l) : ∃ A c, v = .slice A l.length c ∧ l.length ≤ c ∧ c ≤ maxLen := by
  rcases h.2 with ⟨rfl, h0⟩ | ⟨g, cap, cur, rfl, _, _, hn, hm, _⟩
  · exact ⟨none, 0, by rw [h0], by omega, by unfold maxLen; omega⟩
  · exact ⟨_, cap, rfl, hn, hm⟩
theorem Own.block (h : Own e sz enc w base v l) {k : Nat} (hk : v.ownBlock = some k) : base ≤ k ∧ k < w.heap.size := World.ownsRow.lt h k hk
theorem Own.rd (hE : ∀ x, (enc x).length = sz) (h : Own e sz enc w base v l) {A : Option Addr} {n c : Nat} (hv : v = .slice A n c) : Rd sz enc w A n l := by
  subst hv
  rcases h.2 with ⟨hv, h0⟩ | ⟨g, cap, cur, hv, _, _, hn, _⟩
  · injection hv with h1 h2 h3
    subst h1 h2 h3
    exact ⟨h0, fun h => absurd h (by omega)⟩
  · injection hv with h1 h2 h3
    subst h1 h2 h3
    refine ⟨rfl, fun _ => ⟨_, rfl, fun j x i u hj hi => World.ownsRow.cells h (g := g) rfl _ _ ?_⟩⟩
    have hr : i < sz := by rw [← hE x]; exact (List.getElem?_eq_some_iff.1 hi).1
    rw [flat_get hE l j i hr, hj]
    exact hi
/-- a block that was just laid, as a slice -/
theorem rd_new_marked (hE : ∀ x, (enc x).length = sz) (w : World) (t : TypeId) (fr : Nat × Nat) (l : List α) : Rd sz enc (w.alloc (.cells (l.flatMap enc).toArray t fr)) (some ⟨w.heap.size, 0, none⟩) l.length l := by
  refine ⟨rfl, fun _ => ⟨_, rfl, fun j x i u hj hi => World.news_of_block (heap_alloc_new w _) _ _ ?_⟩⟩
  have hr : i < sz := by rw [← hE x]; exact (List.getElem?_eq_some_iff.1 hi).1
  simp only []
  rw [flat_get hE l j i hr, hj]
  exact hi
theorem rd_new (hE : ∀ x, (enc x).length = sz) (w : World) (t : TypeId) (l : List α) : Rd sz enc (w.alloc (.cells (l.flatMap enc).toArray t)) (some ⟨w.heap.size, 0, none⟩) l.length l := rd_new_marked hE w t (0, 0) l
theorem own_new (hE : ∀ x, (enc x).length = sz) (w : World) (e : TypeId) (l : List α) (hl : l.length ≤ maxLen) : Own e sz enc (w.alloc (.cells (l.flatMap enc).toArray e)) w.heap.size (.slice (some ⟨w.heap.size, 0, none⟩) l.length l.length) l := by
  have h := World.ownsRow_lit (base := w.heap.size) (e := e) (size := sz) w (l.flatMap enc).toArray l.length (Nat.le_refl _) hl (by rw [List.size_toArray, flat_len hE])
  unfold Own
  exact h
theorem Own.kept (h : Own e sz enc w base v l) {row : Option Nat} (hg : w.grownBy w' row) (hne : v.ownBlock = none ∨ v.ownBlock ≠ row) : Own e sz enc w' base v l := World.ownsRow.kept h hg hne
theorem grown_of_below (h : Below w.heap.size w w') (row : Option Nat) : w.grownBy w' row := ⟨h.os, h.tape, h.output, h.size, fun i hi _ => h.block i hi⟩
theorem Own.below (h : Own e sz enc w base v l) (hb : Below w.heap.size w w') : Own e sz enc w' base v l :=
  h.kept (grown_of_below hb none) (by cases v.ownBlock <;> simp)
theorem Own.mono {b' : Nat} (h : Own e sz enc w base v l) (hb : b' ≤ base) : Own e sz enc w b' v l :=
  ⟨h.1, h.2.imp id fun ⟨g, cap, cur, hv, hg, r⟩ => ⟨g, cap, cur, hv, Nat.le_trans hb hg, r⟩⟩
/-- What has grown by a row of the call's own is as it was below. -/
theorem below_own {w0 : World} {B : Nat} (hb : Below B w0 w) (h : Own e sz enc w base v l) (hg : w.grownBy w' v.ownBlock) (hB : B ≤ base) (hw : B ≤ w.heap.size) : Below B w0 w' :=
  hb.grown hg hw (fun k hk => Nat.le_trans hB (h.block hk).1)
end

/-! ### append -/
section
variable {P : Program} {α : Type} {sz : Nat} {enc : α → List Value}
theorem run_append_none (w : World) (base : Nat) (t ty e : TypeId) (i : TypeInfo) (size : Nat) (ht : P.underlying t = some (.slice e)) (hi : P.info? e = some i)
    (v : Value) (n : Nat) (xs : List Value) (hown : w.ownsRow base e size v n xs) (c : Nat) : (Builtin.append_ #[t, t] ty #[v, .slice none 0 c]).run P w = .ok v w := by
  rcases hown.2 with ⟨rfl, rfl⟩ | ⟨g, cap, cur, rfl, _, _, hnc, _⟩
  · simp [Builtin.append_, run_underlying ht, sizeOf, typeInfo, hi, Builtin.lenOf, Builtin.firstCells]
  · simp [Builtin.append_, run_underlying ht, sizeOf, typeInfo, hi, Builtin.lenOf, Builtin.firstCells, hnc, storeCells]

theorem run_append_rd (w : World) (t ty e : TypeId) (z : Value) (bytes : Nat) (ht : P.underlying t = some (.slice e))
    (hinfo : (P.info? e).map (fun i => (i.zero, i.size, i.bytes)) = some (some z, sz, bytes)) (hz : z.cells.size = sz) (hsz : 0 < sz) (hb0 : 0 < bytes)
    (hE : ∀ x, (enc x).length = sz) (h1 : ∀ x, ∀ u ∈ enc x, u.oneCell' = true) (base : Nat) (v : Value) (l : List α) (hown : Own e sz enc w base v l)
    (A : Option Addr) (m c : Nat) (k : List α) (hr : Rd sz enc w A m k) (hbytes : (l.length + m) * bytes ≤ 140737488355328) (hbase : base ≤ w.heap.size) :
    ∃ v' w', (Builtin.append_ #[t, t] ty #[v, .slice A m c]).run P w = .ok v' w' ∧ Own e sz enc w' base v' (l ++ k) ∧ w.grownBy w' v.ownBlock ∧ (v'.ownBlock = v.ownBlock ∨ v'.ownBlock = some w.heap.size) := by
  obtain ⟨i, hi, hz0, hz1, hz2⟩ := info_parts hinfo
  have hlen : l.length + m ≤ 140737488355328 := Nat.le_trans (Nat.le_mul_of_pos_right _ hb0) hbytes
  rcases A with _ | ad
  · have hm : m = 0 := by
      rcases Nat.eq_zero_or_pos m with h0 | h0
      · exact h0
      · obtain ⟨ad, h, _⟩ := hr.2 h0
        cases h
    subst hm
    obtain rfl : k = [] := List.eq_nil_of_length_eq_zero hr.1
    exact ⟨v, w, run_append_none w base t ty e i sz ht hi v _ _ hown c, by simpa using hown, World.grownBy.refl w _, .inl rfl⟩
  · have hcells : ∀ j u, (k.flatMap enc)[j]? = some u → w.cell? (ad.add j) = some u := by
      intro j u hu
      obtain ⟨q, x, r, hq, hx, rfl⟩ := flat_split hE hu
      have hlt : q < m := by rw [← hr.1]; exact (List.getElem?_eq_some_iff.1 hq).1
      obtain ⟨ad', h, hc⟩ := hr.2 (by omega)
      injection h with h
      subst h
      exact hc q x r u hq hx
    obtain ⟨v', w', hrun, h2, h3, _, h5⟩ := run_append_own_at (P := P) w base t ty e i z sz bytes ht hi hz0 hz1 hz2 hz hsz v l.length (l.flatMap enc) hown ad m c (k.flatMap enc)
      (by rw [flat_len hE, hr.1]) hcells (fun u hu => by obtain ⟨x, _, hx⟩ := List.mem_flatMap.1 hu; exact h1 x u hx) (by simp only [maxLen]; omega) hbytes hbase
    refine ⟨v', w', hrun, ?_, h3, h5⟩
    unfold Own
    rw [List.length_append, hr.1, List.flatMap_append]
    exact h2

theorem wpList_append_rd {ops : Array Oper} {rest : List Oper} {o : Oper} {a : Act} {Q : Exit → Act → World → Prop} {w : World} (hgd : o.guard = none) (s x : Operand) (t : TypeId)
    (ho : o.op = .call { callee := .builtin .append, args := #[s, x], argTypes := #[t, t] }) (e : TypeId) (z : Value) (bytes : Nat) (ht : P.underlying t = some (.slice e))
    (hinfo : (P.info? e).map (fun i => (i.zero, i.size, i.bytes)) = some (some z, sz, bytes)) (hz : z.cells.size = sz) (hsz : 0 < sz) (hb0 : 0 < bytes)
    (hE : ∀ x, (enc x).length = sz) (h1 : ∀ x, ∀ u ∈ enc x, u.oneCell' = true) (base : Nat) (v : Value) (l : List α) (hs : a.eval s = v) (hown : Own e sz enc w base v l)
    (A : Option Addr) (m c : Nat) (k : List α) (hx : a.eval x = .slice A m c) (hr : Rd sz enc w A m k) (hbytes : (l.length + m) * bytes ≤ 140737488355328) (hbase : base ≤ w.heap.size)
    (h : ∀ v' w', Own e sz enc w' base v' (l ++ k) → w.grownBy w' v.ownBlock → (v'.ownBlock = v.ownBlock ∨ v'.ownBlock = some w.heap.size) → wpList P ops Q rest (a.put o.dst v') w') :
    wpList P ops Q (o :: rest) a w := by
  obtain ⟨v', w', hrun, h2, h3, h4⟩ := run_append_rd (P := P) w t o.type e z bytes ht hinfo hz hsz hb0 hE h1 base v l hown A m c k hr hbytes hbase
  refine wpList_plain hgd fun _ hK => ?_
  unfold Oper.wp execOp
  simp only [ho, resolve, invoke, builtin, Sem.run_bind, Sem.run_pure, Result.andThen_ok, List.map_toArray, List.map_cons, List.map_nil, hs, hx, hrun]
  exact hK _ _ (h v' w' h2 h3 h4)

/-- 'append(nil, make([]T, n)...)', n not 0 -/
theorem run_append_make_nil (w : World) (t ti ty e : TypeId) (kt kx : IntKind) (z : Value) (bytes : Nat) (ht : P.underlying t = some (.slice e)) (hti : P.underlying ti = some (.int kt))
    (hinfo : (P.info? e).map (fun i => (i.zero, i.size, i.bytes)) = some (some z, sz, bytes)) (hz : z.cells.size = sz) (hsz : 0 < sz) (hb0 : 0 < bytes) (m : Nat) (hm : 0 < m) (hbytes : m * bytes ≤ 140737488355328) :
    (Builtin.append_ #[t, ti] ty #[.slice none 0 0, .int kx m]).run P w = .ok (.slice (some ⟨w.heap.size, 0, none⟩) m (grownCap w m 0 e))
      (w.drew.alloc (.cells (Builtin.zeroCells z.cells m ++ Builtin.zeroCells z.cells (grownCap w m 0 e - m)) e)) := by
  obtain ⟨i, hi, hz0, rfl, rfl⟩ := info_parts hinfo
  have hlen : m ≤ 140737488355328 := Nat.le_trans (Nat.le_mul_of_pos_right _ hb0) hbytes
  have hw : IntKind.i64.wrap (m : Int) = m := by rw [IntKind.wrap_i64]; omega
  have hneg : ¬ ((m : Int) < 0) := by omega
  have hbig : ¬ (281474976710656 < (m : Int) * (i.bytes : Int)) := by
    rw [← Int.natCast_mul]
    omega
  have hmz : m * i.size ≠ 0 := by
    have := Nat.mul_pos hm hsz
    omega
  have hn : ¬ (m ≤ 0) := by omega
  have h63 : ¬ (9223372036854775807 < (m : Int)) := by omega
  have hfit := growslice_fits (need := m) (old := 0) (bytes := i.bytes) (by omega) hbytes
  have h48 : ¬ (281474976710656 < Builtin.nextslicecap m 0 * i.bytes) := by omega
  simp [Builtin.append_, run_underlying ht, run_underlying hti, sizeOf, typeInfo, zeroValue, hi, hz0, asInt, asIntOf, hw, hneg, hbig, hmz, hn, h63, h48, Question.forced, Builtin.firstCells, newRow, grownCap]
  omega
end

/-! ### string(p) -/
theorem string_of_rd {P : Program} {w : World} {src dst e : TypeId} {A : Option Addr} {n c : Nat} {xs : List Int} (hs : P.underlying src = some (.slice e)) (he : P.underlying e = some (.int .u8)) (hd : P.underlying dst = some .string)
    (h : RdB w A n xs) : (convert src dst (.slice A n c)).run P w = .ok (.string (strOfNums xs)) w := by
  have hn : xs.length = n := h.1
  rcases A with _ | ad
  · have h0 : n = 0 := by
      rcases Nat.eq_zero_or_pos n with h0 | h0
      · exact h0
      · obtain ⟨ad, h', _⟩ := h.2 h0
        cases h'
    subst h0
    obtain rfl : xs = [] := List.eq_nil_of_length_eq_zero hn
    exact run_convert_bytes_nil w src e hs he 0 c dst hd
  · have hl : (loadCells ad n).run P w = .ok (xs.map (Value.int .u8)).toArray w := by
      have := run_loadCells_list (P := P) w ad (xs.map (Value.int .u8)) (fun j v hj => by
        rw [List.getElem?_map] at hj
        obtain ⟨x, hx, rfl⟩ := Option.map_eq_some_iff.1 hj
        have hlt : j < n := by rw [← hn]; exact (List.getElem?_eq_some_iff.1 hx).1
        obtain ⟨ad', e', hc⟩ := h.2 (by omega)
        injection e' with e'
        subst e'
        have := hc j x 0 _ hx rfl
        rwa [Nat.mul_one, Nat.add_zero] at this)
      rwa [List.length_map, hn] at this
    rw [run_convert_bytes_string w src dst e _ n c hs he hd, run_bytesToString w ad n c xs hl, foldl_push_bytes]
    simp [strOfNums, ByteArray.empty, ByteArray.emptyWithCapacity]
    rfl
theorem str_inj {l m : List Int} (hl : InB l) (hm : InB m) (h : strOfNums l = strOfNums m) : l = m := by
  have h1 : (strOfNums l).data.toList = (strOfNums m).data.toList := by rw [h]
  rw [strOfNums_data, strOfNums_data] at h1
  have back : ∀ k : List Int, InB k → (k.map fun n => UInt8.ofNat n.toNat).map (fun b => (b.toNat : Int)) = k := by
    intro k hk
    rw [List.map_map]
    conv => rhs; rw [← List.map_id k]
    apply List.map_congr_left
    intro b hb
    have := hk b hb
    simp only [Function.comp, UInt8.toNat_ofNat', id]
    omega
  rw [← back l hl, ← back m hm, h1]
theorem str_eq {l m : List Int} (hl : InB l) (hm : InB m) : ((strOfNums l).toList == (strOfNums m).toList) = decide (l = m) := by
  by_cases h : l = m
  · subst h; simp
  · rw [decide_eq_false h]
    refine beq_eq_false_iff_ne.2 fun e => h (str_inj hl hm ?_)
    rw [ByteArray.toList_eq, ByteArray.toList_eq] at e
    exact ByteArray.ext (Array.toList_inj.1 e)

/-! ### a region that draws its order: what yields in whatever world is taken first, then the rest -/
section
variable {P : Program} {ops : Array Oper} {md : Region.Mode} {Q : Exit → Act → World → Prop}
def YTo (P : Program) (ops : Array Oper) (C : Act → Prop) : List Nat → Act → Prop
  | [], a => C a
  | i :: is, a => ∃ oi v, ops[i]? = some oi ∧ Yields P ops oi v a ∧ YTo P ops C is (a.put oi.dst v)
def takesOk (md : Region.Mode) (ops : Array Oper) : Array Bool → List Nat → Bool
  | _, [] => true
  | l, i :: is => Region.free md ops l i && (Region.ready md ops l).contains i && takesOk md ops (l.setIfInBounds i true) is
theorem wpAny_takes (hs : Region.noSelect ops = true) (hQ : ∀ c a w d v, Q (.panic c) (a.put d v) w → Q (.panic c) a w) :
    ∀ (is : List Nat) (fuel : Nat) (listed : Array Bool) (a : Act) (w : World), takesOk md ops listed is = true →
      YTo P ops (fun a' => wpAny P md ops Q fuel (is.foldl (fun l i => l.setIfInBounds i true) listed) a' w) is a → wpAny P md ops Q (fuel + is.length) listed a w
  | [], fuel, listed, a, w, _, h => h
  | i :: is, fuel, listed, a, w, hok, h => by
    obtain ⟨oi, v, hi, hyi, hrest⟩ := h
    simp only [takesOk, Bool.and_eq_true] at hok
    exact wpAny_take (fuel := fuel + is.length) hi hs hok.1.1 hok.1.2 (fun c a w => hQ c a w oi.dst v) hyi (wpAny_takes hs hQ is fuel _ _ w hok.2 hrest)
def nth {α : Type} : List α → Nat → Option α
  | [], _ => none
  | x :: _, 0 => some x
  | _ :: l, i + 1 => nth l i
theorem nth_eq {α : Type} : ∀ (l : List α) (i : Nat), nth l i = l[i]?
  | [], _ => by simp [nth]
  | x :: l, 0 => by simp [nth]
  | x :: l, i + 1 => by simp [nth, nth_eq l i]
theorem YTo.cons {C : Act → Prop} {i : Nat} {is : List Nat} {a : Act} {dst : Option Tmp} {op : Op} {ty : TypeId} {pos : String} {after : Array Edge} {gd : Option (Nat × Bool)} {v : Value} (hi : nth ops.toList i = some ⟨dst, op, ty, pos, after, gd⟩) (hw : Region.wanted ⟨dst, op, ty, pos, after, gd⟩ (yielded ops a.tmps) = true) (hv : ∀ w, (execOp a.eval ⟨dst, op, ty, pos, after, gd⟩).run P w = .ok (.value v) w)
    (h : YTo P ops C is (a.put dst v)) : YTo P ops C (i :: is) a := ⟨_, v, by rw [← hi, nth_eq, Array.getElem?_toList], .inl ⟨hw, hv⟩, h⟩
theorem YTo.nil {C : Act → Prop} {a : Act} (h : C a) : YTo P ops C [] a := h
end

/-! ### two operations that only read, in either order -/
section
variable {P : Program} {ops : Array Oper} {md : Region.Mode} {Q : Exit → Act → World → Prop}
theorem AllReady.read {fuel : Nat} {listed : Array Bool} {a : Act} {w : World} {i : Nat} {o : Oper} {v : Value} {rs : List Nat} (ho : ops[i]? = some o) (hw : Region.wanted o (yielded ops a.tmps) = true)
    (hv : (execOp a.eval o).run P w = .ok (.value v) w) (h : wpAny P md ops Q fuel (listed.setIfInBounds i true) (a.put o.dst v) w) (hs : AllReady P md ops Q fuel listed a w rs) : AllReady P md ops Q fuel listed a w (i :: rs) :=
  AllReady.cons ho (fun K hK => by
    rw [if_pos hw]
    unfold Oper.wp
    rw [hv]
    exact hK _ _ h) hs
/-- Operations i and j may come up, nothing else till both have; both only read. -/
theorem wpAny_two {i j : Nat} {di dj : Option Tmp} {opi opj : Op} {tyi tyj : TypeId} {pi pj : String} {ai aj : Array Edge} {gi gj : Option (Nat × Bool)} {vi vj : Value} {fuel : Nat} {listed : Array Bool} {a : Act} {w : World}
    (hr : Region.ready md ops listed = [i, j]) (hri : Region.ready md ops (listed.setIfInBounds i true) = [j]) (hrj : Region.ready md ops (listed.setIfInBounds j true) = [i])
    (hoi : nth ops.toList i = some ⟨di, opi, tyi, pi, ai, gi⟩) (hoj : nth ops.toList j = some ⟨dj, opj, tyj, pj, aj, gj⟩)
    (hwi : Region.wanted ⟨di, opi, tyi, pi, ai, gi⟩ (yielded ops a.tmps) = true) (hwj : Region.wanted ⟨dj, opj, tyj, pj, aj, gj⟩ (yielded ops a.tmps) = true)
    (hwi2 : Region.wanted ⟨di, opi, tyi, pi, ai, gi⟩ (yielded ops (a.put dj vj).tmps) = true) (hwj2 : Region.wanted ⟨dj, opj, tyj, pj, aj, gj⟩ (yielded ops (a.put di vi).tmps) = true)
    (hvi : (execOp a.eval ⟨di, opi, tyi, pi, ai, gi⟩).run P w = .ok (.value vi) w) (hvj : (execOp a.eval ⟨dj, opj, tyj, pj, aj, gj⟩).run P w = .ok (.value vj) w)
    (hvi2 : (execOp (a.put dj vj).eval ⟨di, opi, tyi, pi, ai, gi⟩).run P w = .ok (.value vi) w) (hvj2 : (execOp (a.put di vi).eval ⟨dj, opj, tyj, pj, aj, gj⟩).run P w = .ok (.value vj) w)
    (hl : (listed.setIfInBounds j true).setIfInBounds i true = (listed.setIfInBounds i true).setIfInBounds j true) (hp : (a.put dj vj).put di vi = (a.put di vi).put dj vj)
    (h : wpAny P md ops Q fuel ((listed.setIfInBounds i true).setIfInBounds j true) ((a.put di vi).put dj vj) w) : wpAny P md ops Q (fuel + 2) listed a w := by
  have hoi' : ops[i]? = some ⟨di, opi, tyi, pi, ai, gi⟩ := by rw [← hoi, nth_eq, Array.getElem?_toList]
  have hoj' : ops[j]? = some ⟨dj, opj, tyj, pj, aj, gj⟩ := by rw [← hoj, nth_eq, Array.getElem?_toList]
  refine wpAny_ready hr (by simp) (AllReady.read hoi' hwi hvi ?_ (AllReady.read hoj' hwj hvj ?_ AllReady.nil))
  · exact wpAny_ready hri (by simp) (AllReady.read hoj' hwj2 hvj2 h AllReady.nil)
  · exact wpAny_ready hrj (by simp) (AllReady.read hoi' hwi2 hvi2 (by rw [hl, hp]; exact h) AllReady.nil)
end

/-- A slice of whole numbers that came in, its spare room too. -/
def IsRow (k : IntKind) (w : World) (a : Option Addr) (len cap : Nat) (zs : List Int) : Prop :=
  (a = none ∧ len = 0 ∧ cap = 0 ∧ zs = []) ∨
  ∃ x, a = some x ∧ len ≤ cap ∧ cap ≤ maxLen ∧ zs.length = cap ∧ (∀ i, i < zs.length → w.cell? (x.add i) = some (.int k (zs.getD i 0))) ∧ ∀ n ∈ zs, (Lit.int k n).wf = true
theorem IsRow.cap {k : IntKind} {w : World} {a : Option Addr} {len cap : Nat} {zs : List Int} (h : IsRow k w a len cap zs) : len ≤ cap ∧ cap ≤ maxLen := by
  rcases h with ⟨_, rfl, rfl, _⟩ | ⟨x, _, h1, h2, _⟩
  · exact ⟨by omega, by unfold maxLen; omega⟩
  · exact ⟨h1, h2⟩
theorem IsRow.rd {k : IntKind} {w : World} {a : Option Addr} {len cap : Nat} {zs : List Int} (h : IsRow k w a len cap zs) : Rd 1 (fun x => [Value.int k x]) w a len (zs.take len) := by
  rcases h with ⟨rfl, rfl, rfl, rfl⟩ | ⟨x, rfl, h1, h2, h3, h4, h5⟩
  · exact Rd.nil
  · refine ⟨by rw [List.length_take]; omega, fun _ => ⟨x, rfl, fun j y i u hj hi => ?_⟩⟩
    have hi0 : i = 0 := by
      have := (List.getElem?_eq_some_iff.1 hi).1
      simpa using this
    subst hi0
    have hu : u = .int k y := by simpa using hi.symm
    subst hu
    rw [List.getElem?_take] at hj
    split at hj
    · have hlt : j < zs.length := (List.getElem?_eq_some_iff.1 hj).1
      rw [Nat.mul_one, Nat.add_zero, h4 j hlt, List.getD_eq_getElem?_getD, hj]; rfl
    · cases hj
theorem IsRow.wf {k : IntKind} {w : World} {a : Option Addr} {len cap : Nat} {zs : List Int} (h : IsRow k w a len cap zs) : ∀ n ∈ zs.take len, (Lit.int k n).wf = true := by
  intro n hn
  rcases h with ⟨rfl, rfl, rfl, rfl⟩ | ⟨x, rfl, h1, h2, h3, h4, h5⟩
  · cases hn
  · exact h5 n (List.mem_of_mem_take hn)
theorem IsRow.inB {w : World} {a : Option Addr} {len cap : Nat} {zs : List Int} (h : IsRow .u8 w a len cap zs) : InB (zs.take len) := fun b hb => by
  have := h.wf b hb
  simpa [Lit.wf, IntKind.min, IntKind.max, IntKind.signed, IntKind.bits] using this
end Go.Proofs.YtkcnnamghpdplaaDoor
