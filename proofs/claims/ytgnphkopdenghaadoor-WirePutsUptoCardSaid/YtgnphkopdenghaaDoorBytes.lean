/- Contracts of what makes lists of bytes: a copy, slices.Grow at nil, slices.Concat; two lists of bytes compared. (The walks are those of the group 'crc'.) -/
import Derived.Test.YtgnphkopdenghaaDoorBase
import Derived.Deep.QuietTactic
import Derived.BigQuiet
import Derived.Deep.DeepCutAuto
set_option linter.unusedSimpArgs false
set_option linter.unusedVariables false
namespace Go.Proofs.YtgnphkopdenghaaDoor
open Go.RowKit

theorem info_u8 : (Tryd.prog.info? 5).map (fun i => (i.zero, i.size, i.bytes)) = some (some (.int .u8 0), 1, 1) := by kernel_rfl
theorem u8s_len (x : Int) : (u8s x).length = 1 := rfl
theorem u8s_one (x : Int) : ∀ u ∈ u8s x, u.oneCell' = true := fun u h => by simp at h; subst h; rfl
/-- What comes is a new list of bytes. -/
def MadeB (w : World) (l : List Int) (e : Ending) (w' : World) : Prop := ∃ v, e = .returned v ∧ Own 5 1 u8s w' w.heap.size v l ∧ Below w.heap.size w w'
abbrev OwnB (w : World) (base : Nat) (v : Value) (l : List Int) : Prop := Own 5 1 u8s w base v l

theorem Twin_any (A : Option Addr) (n cap : Nat) (l : List Int) (w : World) (hr : RdB w A n l) (hn : n ≤ 140737488355328) :
    Calls Tryd.prog 6 #[.slice A n cap] w (MadeB w l) := by
  have H := Lib.hid hr
  clear hr
  go_enter Tryd.func6, Tryd.ntmps6
  go_wp2_with (at_builtin; (refine wpList_append_rd rfl (.tmp 4) (.tmp 5) 22 rfl 5 (.int .u8 0) 1 Tryd.underlying22 info_u8 rfl (by omega) (by omega) u8s_len u8s_one w.heap.size (.slice none 0 0) [] rfl (Own.nil _ _ _ _ _) A n cap l rfl H.out (by simp only [List.length_nil]; omega) (Nat.le_refl _) ?_); intro v1 w1 ho hg hat)
  go_ret
  exact ⟨v1, rfl, ho, (Below.refl _ _).grown hg (Nat.le_refl _) (by simp [Value.ownBlock])⟩


theorem wpList_append_make_nil {P : Program} {ops : Array Oper} {rest : List Oper} {o : Oper} {a : Act} {Q : Exit → Act → World → Prop} {w : World} {sz : Nat} (hgd : o.guard = none) (s x : Operand) (t ti : TypeId)
    (ho : o.op = .call { callee := .builtin .append, args := #[s, x], argTypes := #[t, ti] }) (e : TypeId) (kt kx : IntKind) (z : Value) (bytes : Nat) (ht : P.underlying t = some (.slice e)) (hti : P.underlying ti = some (.int kt))
    (hinfo : (P.info? e).map (fun i => (i.zero, i.size, i.bytes)) = some (some z, sz, bytes)) (hz : z.cells.size = sz) (hsz : 0 < sz) (hb0 : 0 < bytes) (m : Nat) (hm : 0 < m) (hbytes : m * bytes ≤ 140737488355328)
    (hs : a.eval s = .slice none 0 0) (hx : a.eval x = .int kx (m : Int))
    (h : ∀ c w', m ≤ c → w'.ownsRow w.heap.size e sz (.slice (some ⟨w.heap.size, 0, none⟩) 0 c) 0 [] → Below w.heap.size w w' → wpList P ops Q rest (a.put o.dst (.slice (some ⟨w.heap.size, 0, none⟩) m c)) w') :
    wpList P ops Q (o :: rest) a w := by
  have hrun := run_append_make_nil (P := P) w t ti o.type e kt kx z bytes ht hti hinfo hz hsz hb0 m hm hbytes
  refine wpList_plain hgd fun _ hK => ?_
  unfold Oper.wp execOp
  simp only [ho, resolve, invoke, builtin, Sem.run_bind, Sem.run_pure, Result.andThen_ok, List.map_toArray, List.map_cons, List.map_nil, hs, hx, hrun]
  have hlen : m ≤ 140737488355328 := Nat.le_trans (Nat.le_mul_of_pos_right _ hb0) hbytes
  refine hK _ _ (h _ _ (grownCap_ge w m 0 e) ?_ ?_)
  · exact World.ownsRow_made w.drew _ _ (Nat.le_refl _) (grownCap_le_maxLen w m 0 e (by unfold maxLen; omega)) (by
      rw [Array.size_append, size_zeroCells, size_zeroCells, hz, ← Nat.add_mul]
      have := grownCap_ge w m 0 e
      congr 1; omega)
  · exact ((Below.refl w.heap.size w).drew).alloc (Nat.le_refl _) _

/-- slices.Grow at nil -/
theorem Grow_nil (m : Nat) (w : World) (hm : m ≤ 140737488355328) :
    Calls Tryd.prog 23 #[.slice none 0 0, .int .i64 m] w (MadeB w []) := by
  rcases Nat.eq_zero_or_pos m with h0 | h0
  · subst h0
    go_enter Tryd.func23, Tryd.ntmps23
    go_wp2
    go_ret
    exact ⟨_, rfl, Own.nil _ _ _ _ _, Below.refl _ _⟩
  · have h0' : (0 : Int) < m := by omega
    go_enter Tryd.func23, Tryd.ntmps23
    go_wp2_with (at_builtin; refine wpList_append_make_nil rfl (.tmp 20) (.tmp 21) 22 3 rfl 5 .i64 .i64 (.int .u8 0) 1 Tryd.underlying22 Tryd.underlying3 info_u8 rfl (by omega) (by omega) m h0 (by omega) rfl rfl ?_; intro c w1 hc ho hb)
    go_ret
    exact ⟨_, rfl, ho, hb⟩

/-- a slice of bytes among several -/
structure Part where
  A : Option Addr
  n : Nat
  c : Nat
  l : List Int
abbrev Part.vals (p : Part) : List Value := [.slice p.A p.n p.c]
def total (ps : List Part) : Nat := (ps.map Part.n).sum
def joined (ps : List Part) : List Int := ps.flatMap Part.l
theorem total_succ (ps : List Part) {k : Nat} (hk : k < ps.length) : total (ps.take (k + 1)) = total (ps.take k) + ps[k].n := by
  rw [List.take_succ_eq_append_getElem hk]; simp only [total, List.map_append, List.sum_append, List.map_cons, List.map_nil, List.sum_cons, List.sum_nil, Nat.add_zero]
theorem joined_succ (ps : List Part) {k : Nat} (hk : k < ps.length) : joined (ps.take (k + 1)) = joined (ps.take k) ++ ps[k].l := by
  rw [List.take_succ_eq_append_getElem hk]; simp only [joined, List.flatMap_append, List.flatMap_cons, List.flatMap_nil, List.append_nil]
theorem total_take (ps : List Part) (k : Nat) : total (ps.take k) ≤ total ps := by
  conv => rhs; rw [← List.take_append_drop k ps]
  simp only [total, List.map_append, List.sum_append]; omega
theorem joined_len (ps : List Part) (h : ∀ p ∈ ps, p.l.length = p.n) : (joined ps).length = total ps := by
  induction ps with
  | nil => rfl
  | cons p ps ih =>
    have h1 := h p (List.mem_cons_self ..)
    have h2 := ih (fun q hq => h q (List.mem_cons_of_mem _ hq))
    simp only [joined, total, List.flatMap_cons, List.length_append, List.map_cons, List.sum_cons] at *
    omega
def Rds (w : World) (ps : List Part) : Prop := ∀ p ∈ ps, RdB w p.A p.n p.l
theorem Rds.below {w w' : World} {ps : List Part} (h : Rds w ps) (hb : Below w.heap.size w w') : Rds w' ps := fun p hp => (h p hp).below hb

set_option maxHeartbeats 400000 in
theorem Concat_any (A : Option Addr) (n cap : Nat) (ps : List Part) (w : World) (hr : Rd 1 Part.vals w A n ps) (hp : Rds w ps) (hn : n ≤ maxLen) (ht : total ps ≤ 140737488355328) :
    Calls Tryd.prog 14 #[.slice A n cap] w (MadeB w (joined ps)) := by
  unfold maxLen at hn
  have hl := Lib.hid hr.1
  have H := Lib.hid hr
  have HP := Lib.hid hp
  clear hr hp
  go_enter Tryd.func14, Tryd.ntmps14
  go_wp2
  go_loop [3, 11] (fun s i => ∃ k : Nat, k ≤ n ∧ i = .int .i64 k ∧ s = .int .i64 (total (ps.take k) : Nat)) (fun _ i => n - (intOf i).toNat)
  case atStart => exact ⟨0, Nat.zero_le _, rfl, rfl⟩
  case round =>
    obtain ⟨k, hk, rfl, rfl⟩ := hrel
    by_cases hlt : k < n
    · obtain ⟨ad, rfl, hc⟩ := H.out.at1 hlt
      have hs := Lib.hid (total_succ ps (k := k) (by have := hl.out; omega))
      have hle := total_take ps (k + 1)
      have e1 := hs.out
      have b1 : total (ps.take k) + (ps[k]'(by have := hl.out; omega)).n ≤ 140737488355328 := by omega
      clear e1 hle
      go_wp2
      go_round
      case rel => exact ⟨k + 1, by omega, by go_num, val_int (by rw [hs.out]; omega)⟩
      case measure => simp [intOf]; omega
    · obtain rfl : k = n := by omega
      have hs := Lib.hid (show total (ps.take k) = total ps by rw [List.take_of_length_le (by have := hl.out; omega)])
      go_wp2_with fail
      refine (Grow_nil _ _ (by rw [hs.out]; exact ht)).mono ?_
      rintro e w1 ⟨v, rfl, ho, hb⟩
      have HO := Lib.hid ho
      have HB := Lib.hid hb
      clear ho hb
      go_wp2
      go_loopw [6, 27] (fun v i wr => ∃ j : Nat, j ≤ k ∧ i = .int .i64 j ∧ OwnB wr w.heap.size v (joined (ps.take j)) ∧ Below w.heap.size w wr) (fun _ i _ => k - (intOf i).toNat)
      case atStart => exact ⟨0, Nat.zero_le _, rfl, HO.out, HB.out⟩
      case round =>
        obtain ⟨j, hj, rfl, ho, hb⟩ := hrel
        have HO1 := Lib.hid ho
        have HB1 := Lib.hid hb
        clear ho hb
        by_cases hlt : j < k
        · obtain ⟨ad, rfl, hc⟩ := (H.out.below HB1.out).at1 hlt
          have hjl : Hid (j < ps.length) := by have := hl.out; exact (show j < ps.length by omega)
          have hq := Lib.hid (HP.out _ (List.getElem_mem hjl.out))
          have hs1 := Lib.hid (joined_succ ps (k := j) hjl.out)
          have hlen := Lib.hid (joined_len (ps.take (j + 1)) (fun p hp => (HP.out p (List.mem_of_mem_take hp)).1))
          have hle := Lib.hid (total_take ps (j + 1))
          go_wp2_with (at_builtin; refine wpList_append_rd rfl (.tmp 31) (.tmp 32) 22 rfl 5 (.int .u8 0) 1 Tryd.underlying22 info_u8 rfl (by omega) (by omega) u8s_len u8s_one w.heap.size u6 (joined (ps.take j)) rfl HO1.out _ _ _ _ rfl (hq.out.below HB1.out) (by have h1 := hlen.out; have h2 := hle.out; rw [hs1.out, List.length_append] at h1; have h3 := hq.out.1; omega) HB1.out.size ?_; intro v2 w2 ho2 hg2 hat2)
          go_roundw
          case rel => exact ⟨j + 1, by omega, by go_num, by rw [hs1.out]; exact ho2, below_own HB1.out HO1.out hg2 (Nat.le_refl _) HB1.out.size⟩
          case measure => simp [intOf]; omega
        · obtain rfl : j = k := by omega
          go_wp2
          go_ret
          have e : ps.take j = ps := List.take_of_length_le (by have := hl.out; omega)
          have h := HO1.out
          rw [e] at h
          exact ⟨_, rfl, h, HB1.out⟩

/-- the slice that a call hands over, one of its own or one that came in -/
theorem rds_pair {w : World} {p q : Part} (hp : RdB w p.A p.n p.l) (hq : RdB w q.A q.n q.l) : Rds w [p, q] := fun x hx => by
  rcases List.mem_cons.1 hx with rfl | hx
  · exact hp
  · rcases List.mem_cons.1 hx with rfl | hx
    · exact hq
    · cases hx

theorem Same_any (A : Option Addr) (n cap : Nat) (l : List Int) (A' : Option Addr) (n' cap' : Nat) (l' : List Int) (w : World) (hr : RdB w A n l) (hr' : RdB w A' n' l') (hb : InB l) (hb' : InB l') :
    Calls Tryd.prog 8 #[.slice A n cap, .slice A' n' cap'] w fun e w' => e = .returned (.bool (decide (l = l'))) ∧ w = w' := by
  have h1 := string_of_rd (P := Tryd.prog) (c := cap) Tryd.underlying22 Tryd.underlying5 Tryd.underlying9 hr
  have h2 := string_of_rd (P := Tryd.prog) (c := cap') Tryd.underlying22 Tryd.underlying5 Tryd.underlying9 hr'
  have he := Lib.hid (str_eq hb hb')
  clear hr hr' hb hb'
  go_enter Tryd.func8, Tryd.ntmps8
  go_wp2
  go_ret
  exact ⟨by show Ending.returned (.bool _) = _; rw [he.out], rfl⟩

/-- what a call leaves, seen from the world in which all began -/
theorem thenMade {w0 w w' : World} {l : List Int} {e : Ending} (hb : Below w0.heap.size w0 w) (h : MadeB w l e w') :
    ∃ A c, e = .returned (.slice A l.length c) ∧ l.length ≤ c ∧ c ≤ maxLen ∧ Hid (RdB w' A l.length l) ∧ Hid (OwnB w' w.heap.size (.slice A l.length c) l) ∧ Hid (Below w.heap.size w w') ∧ Hid (Below w0.heap.size w0 w') := by
  obtain ⟨v, rfl, ho, hb2⟩ := h
  obtain ⟨A, c, rfl, hc, hm⟩ := ho.form
  exact ⟨A, c, rfl, hc, hm, ho.rd u8s_len rfl, ho, hb2, hb.trans (hb2.mono hb.size)⟩

theorem flat_map (l : List Int) : l.flatMap u8s = l.map (Value.int .u8) := by induction l <;> simp_all
def BoolBelow (b : Bool) (w : World) (e : Ending) (w' : World) : Prop := e = .returned (.bool b) ∧ Below w.heap.size w w'
def Cells (w : World) (g : Nat) (cs : Array Value) (t : TypeId) : Prop := w.heap[g]? = some (.cells cs t (0, 0))
theorem Cells.cell {w : World} {g : Nat} {cs : Array Value} {t : TypeId} (h : Cells w g cs t) (i : Nat) : w.cell? ⟨g, i, none⟩ = cs[i]? := cell_of_row w g i cs t (0, 0) h
theorem Cells.frozen {w : World} {g : Nat} {cs : Array Value} {t : TypeId} (h : Cells w g cs t) (i : Nat) : w.frozen? ⟨g, i, none⟩ = false := frozen_of_row w g i cs t h
theorem Cells.set_ {w : World} {g : Nat} {cs : Array Value} {t : TypeId} (h : Cells w g cs t) (i : Nat) (v : Value) : Cells (w.setCell ⟨g, i, none⟩ v) g (cs.setIfInBounds i v) t := heap_setCell_same w g i cs t v h
theorem Cells.lt {w : World} {g : Nat} {cs : Array Value} {t : TypeId} (h : Cells w g cs t) : g < w.heap.size := (Array.getElem?_eq_some_iff.1 h).1
theorem Cells.below {w w' : World} {g : Nat} {cs : Array Value} {t : TypeId} (h : Cells w g cs t) (hb : Below w.heap.size w w') : Cells w' g cs t := (hb.block g h.lt).trans h
theorem Cells.far {w : World} {g k : Nat} {cs : Array Value} {t : TypeId} (h : Cells w g cs t) (i : Nat) (v : Value) (hk : g ≠ k) : Cells (w.setCell ⟨k, i, none⟩ v) g cs t := (heap_setCell_other w ⟨k, i, none⟩ g v hk).trans h

theorem own_get {w : World} {base g c : Nat} {l : List Int} (h : OwnB w base (.slice (some ⟨g, 0, none⟩) l.length c) l) {j : Nat} (hj : j < l.length) : w.cell? ⟨g, j, none⟩ = some (.int .u8 (l.getD j 0)) ∧ w.frozen? ⟨g, j, none⟩ = false := by
  constructor
  · rw [World.ownsRow.cellAt h j (by omega)]
    have := flat_get u8s_len l j 0 (by omega)
    rw [Nat.mul_one, Nat.add_zero] at this
    rw [this, List.getElem?_eq_getElem hj, List.getD_eq_getElem?_getD, List.getElem?_eq_getElem hj]; rfl
  · exact World.ownsRow.frozenAt h j
theorem own_put {w : World} {base g c : Nat} {l : List Int} (h : OwnB w base (.slice (some ⟨g, 0, none⟩) l.length c) l) (j : Nat) (x : Int) :
    OwnB (w.setCell ⟨g, j, none⟩ (.int .u8 x)) base (.slice (some ⟨g, 0, none⟩) (l.set j x).length c) (l.set j x) := by
  have h2 := (World.ownsRow.stored h j (.int .u8 x)).1
  have e : (l.flatMap u8s).set j (.int .u8 x) = (l.set j x).flatMap u8s := by
    have m : ∀ k : List Int, k.flatMap u8s = k.map (Value.int .u8) := fun k => by induction k <;> simp_all
    rw [m, m, List.map_set]
  rw [e] at h2
  unfold OwnB Own
  rw [List.length_set]
  exact h2

theorem own_far {w : World} {base : Nat} {e sz : Nat} {enc : Int → List Value} {v : Value} {l : List Int} (h : Own e sz enc w base v l) {p : Addr} (hp : v.ownBlock ≠ some p.block) (u : Value) : Own e sz enc (w.setCell p u) base v l :=
  h.kept ⟨rfl, rfl, rfl, by simp [World.setCell], fun k _ hk => Below.heap_setCell w p u k (fun e => hk (by rw [e]))⟩ (.inr hp)
theorem grown_set {w w' : World} {g j : Nat} {v : Value} (h : w.grownBy w' (some g)) : w.grownBy (w'.setCell ⟨g, j, none⟩ v) (some g) :=
  ⟨h.os, h.tape, h.output, by simpa [World.setCell] using h.size, fun k hk hn => (Below.heap_setCell w' ⟨g, j, none⟩ v k (fun e => hn (by rw [e]))).trans (h.block k hk hn)⟩
theorem flat_one {f : Int → Value} (l : List Int) : (l.flatMap fun x => [f x]) = l.map f := by induction l <;> simp_all
/-- A slice whose block is known whole. -/
theorem own_of_cells {f : Int → Value} {e : TypeId} {w : World} {g : Nat} {l : List Int} {B : Nat} (h : w.heap[g]? = some (.cells (l.map f).toArray e (0, 0))) (hB : B ≤ g) (hm : l.length ≤ maxLen) :
    Own e 1 (fun x => [f x]) w B (.slice (some ⟨g, 0, none⟩) l.length l.length) l := by
  refine ⟨by rw [flat_one, List.length_map, Nat.mul_one], .inr ⟨g, l.length, _, rfl, hB, h, Nat.le_refl _, hm, by simp, ?_⟩⟩
  rw [flat_one, Nat.mul_one]
  show (l.map f).toArray.toList.take l.length = l.map f
  rw [List.toList_toArray, List.take_of_length_le (by simp)]
theorem size_alloc (w : World) (o : Obj) : (w.alloc o).heap.size = w.heap.size + 1 := Array.size_push _
theorem below_draw_alloc (w : World) (n : Nat) (o : Obj) : Below w.heap.size w ((w.drewN n).alloc o) :=
  Below.trans (b := w.drewN n) ⟨rfl, rfl, rfl, Nat.le_refl _, fun _ _ => rfl⟩ ((Below.refl w.heap.size (w.drewN n)).alloc (show w.heap.size ≤ w.heap.size from Nat.le_refl _) o)
end Go.Proofs.YtgnphkopdenghaaDoor
