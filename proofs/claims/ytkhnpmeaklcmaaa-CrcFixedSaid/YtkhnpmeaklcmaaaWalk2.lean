/- Contracts of what makes lists of bytes: a copy, slices.Grow at nil, slices.Concat, the bytes of a sum, Seal; each at up to 2^47 bytes. -/
import Derived.Test.YtkhnpmeaklcmaaaWalk1
import Derived.Deep.QuietTactic
import Derived.BigQuiet
import Derived.Deep.DeepCutAuto
set_option linter.unusedSimpArgs false
set_option linter.unusedVariables false
namespace Go.Proofs.Ytkhnpmeaklcmaaa
open Go.RowKit Go.Proofs.Ytkhnpmeaklcmaaa.Crc

theorem info_u8 : (Try.prog.info? 5).map (fun i => (i.zero, i.size, i.bytes)) = some (some (.int .u8 0), 1, 1) := by kernel_rfl
theorem u8s_len (x : Int) : (u8s x).length = 1 := rfl
theorem u8s_one (x : Int) : ∀ u ∈ u8s x, u.oneCell' = true := fun u h => by simp at h; subst h; rfl
/-- What comes is a new list of bytes. -/
def MadeB (w : World) (l : List Int) (e : Ending) (w' : World) : Prop := ∃ v, e = .returned v ∧ Own 5 1 u8s w' w.heap.size v l ∧ Below w.heap.size w w'
abbrev OwnB (w : World) (base : Nat) (v : Value) (l : List Int) : Prop := Own 5 1 u8s w base v l

theorem Twin_any (A : Option Addr) (n cap : Nat) (l : List Int) (w : World) (hr : RdB w A n l) (hn : n ≤ 140737488355328) :
    Calls Try.prog 12 #[.slice A n cap] w (MadeB w l) := by
  have H := Lib.hid hr
  clear hr
  go_enter Try.func12, Try.ntmps12
  go_wp2_with (at_builtin; (refine wpList_append_rd rfl (.tmp 4) (.tmp 5) 23 rfl 5 (.int .u8 0) 1 Try.underlying23 info_u8 rfl (by omega) (by omega) u8s_len u8s_one w.heap.size (.slice none 0 0) [] rfl (Own.nil _ _ _ _ _) A n cap l rfl H.out (by simp only [List.length_nil]; omega) (Nat.le_refl _) ?_); intro v1 w1 ho hg hat)
  go_ret
  exact ⟨v1, rfl, ho, (Below.refl _ _).grown hg (Nat.le_refl _) (by simp [Value.ownBlock])⟩


theorem wpList_append_make_nil {P : Program} {ops : Array Oper} {rest : List Oper} {o : Oper} {a : Act} {Q : Exit → Act → World → Prop} {w : World} {sz : Nat} (hgd : o.guard = none) (s x : Operand) (t ti : TypeId)
    (ho : o.op = .call { callee := .builtin .append, args := #[s, x], argTypes := #[t, ti] }) (e : TypeId) (kt kx : IntKind) (z : Value) (bytes : Nat) (ht : P.underlying t = some (.slice e)) (hti : P.underlying ti = some (.int kt))
    (hinfo : (P.info? e).map (fun i => (i.zero, i.size, i.bytes)) = some (some z, sz, bytes)) (hz : z.cells.size = sz) (hsz : 0 < sz) (hb0 : 0 < bytes) (m : Nat) (hm : 0 < m) (hbytes : m * bytes ≤ 140737488355328)
    (hs : a.eval s = .slice none 0 0) (hx : a.eval x = .int kx (m : Int))
    (h : ∀ c w', m ≤ c → w'.ownsRow w.heap.size e sz (.slice (some ⟨w.heap.size, 0, none⟩) 0 c) 0 [] → Below w.heap.size w w' → wpList P ops Q rest (a.put o.dst (.slice (some ⟨w.heap.size, 0, none⟩) m c)) w') :
    wpList P ops Q (o :: rest) a w := by
  have hrun := run_append_make_nil (P := P) w t ti o.type e kt kx z bytes ht hti hinfo hz hsz hb0 m hm hbytes
  refine wpList_plain hgd fun _ hK => ?_
  unfold Oper.wp execOp
  simp only [ho, resolve, invoke, builtin, Sem.run_bind, Sem.run_pure, Result.andThen_ok, List.map_toArray, List.map_cons, List.map_nil, hs, hx, hrun]
  have hlen : m ≤ 140737488355328 := Nat.le_trans (Nat.le_mul_of_pos_right _ hb0) hbytes
  refine hK _ _ (h _ _ (grownCap_ge w m 0 e) ?_ ?_)
  · exact World.ownsRow_made w.drew _ _ (Nat.le_refl _) (grownCap_le_maxLen w m 0 e (by unfold maxLen; omega)) (by
      rw [Array.size_append, size_zeroCells, size_zeroCells, hz, ← Nat.add_mul]
      have := grownCap_ge w m 0 e
      congr 1; omega)
  · exact ((Below.refl w.heap.size w).drew).alloc (Nat.le_refl _) _

/-- slices.Grow at nil -/
theorem Grow_nil (m : Nat) (w : World) (hm : m ≤ 140737488355328) :
    Calls Try.prog 31 #[.slice none 0 0, .int .i64 m] w (MadeB w []) := by
  rcases Nat.eq_zero_or_pos m with h0 | h0
  · subst h0
    go_enter Try.func31, Try.ntmps31
    go_wp2
    go_ret
    exact ⟨_, rfl, Own.nil _ _ _ _ _, Below.refl _ _⟩
  · have h0' : (0 : Int) < m := by omega
    go_enter Try.func31, Try.ntmps31
    go_wp2_with (at_builtin; refine wpList_append_make_nil rfl (.tmp 20) (.tmp 21) 23 3 rfl 5 .i64 .i64 (.int .u8 0) 1 Try.underlying23 Try.underlying3 info_u8 rfl (by omega) (by omega) m h0 (by omega) rfl rfl ?_; intro c w1 hc ho hb)
    go_ret
    exact ⟨_, rfl, ho, hb⟩

/-- a slice of bytes among several -/
structure Part where
  A : Option Addr
  n : Nat
  c : Nat
  l : List Int
abbrev Part.vals (p : Part) : List Value := [.slice p.A p.n p.c]
def total (ps : List Part) : Nat := (ps.map Part.n).sum
def joined (ps : List Part) : List Int := ps.flatMap Part.l
theorem total_succ (ps : List Part) {k : Nat} (hk : k < ps.length) : total (ps.take (k + 1)) = total (ps.take k) + ps[k].n := by
  rw [List.take_succ_eq_append_getElem hk]; simp only [total, List.map_append, List.sum_append, List.map_cons, List.map_nil, List.sum_cons, List.sum_nil, Nat.add_zero]
theorem joined_succ (ps : List Part) {k : Nat} (hk : k < ps.length) : joined (ps.take (k + 1)) = joined (ps.take k) ++ ps[k].l := by
  rw [List.take_succ_eq_append_getElem hk]; simp only [joined, List.flatMap_append, List.flatMap_cons, List.flatMap_nil, List.append_nil]
theorem total_take (ps : List Part) (k : Nat) : total (ps.take k) ≤ total ps := by
  conv => rhs; rw [← List.take_append_drop k ps]
  simp only [total, List.map_append, List.sum_append]; omega
theorem joined_len (ps : List Part) (h : ∀ p ∈ ps, p.l.length = p.n) : (joined ps).length = total ps := by
  induction ps with
  | nil => rfl
  | cons p ps ih =>
    have h1 := h p (List.mem_cons_self ..)
    have h2 := ih (fun q hq => h q (List.mem_cons_of_mem _ hq))
    simp only [joined, total, List.flatMap_cons, List.length_append, List.map_cons, List.sum_cons] at *
    omega
def Rds (w : World) (ps : List Part) : Prop := ∀ p ∈ ps, RdB w p.A p.n p.l
theorem Rds.below {w w' : World} {ps : List Part} (h : Rds w ps) (hb : Below w.heap.size w w') : Rds w' ps := fun p hp => (h p hp).below hb

set_option maxHeartbeats 400000 in
theorem Concat_any (A : Option Addr) (n cap : Nat) (ps : List Part) (w : World) (hr : Rd 1 Part.vals w A n ps) (hp : Rds w ps) (hn : n ≤ maxLen) (ht : total ps ≤ 140737488355328) :
    Calls Try.prog 26 #[.slice A n cap] w (MadeB w (joined ps)) := by
  unfold maxLen at hn
  have hl := Lib.hid hr.1
  have H := Lib.hid hr
  have HP := Lib.hid hp
  clear hr hp
  go_enter Try.func26, Try.ntmps26
  go_wp2
  go_loop [3, 11] (fun s i => ∃ k : Nat, k ≤ n ∧ i = .int .i64 k ∧ s = .int .i64 (total (ps.take k) : Nat)) (fun _ i => n - (intOf i).toNat)
  case atStart => exact ⟨0, Nat.zero_le _, rfl, rfl⟩
  case round =>
    obtain ⟨k, hk, rfl, rfl⟩ := hrel
    by_cases hlt : k < n
    · obtain ⟨ad, rfl, hc⟩ := H.out.at1 hlt
      have hs := Lib.hid (total_succ ps (k := k) (by have := hl.out; omega))
      have hle := total_take ps (k + 1)
      have e1 := hs.out
      have b1 : total (ps.take k) + (ps[k]'(by have := hl.out; omega)).n ≤ 140737488355328 := by omega
      clear e1 hle
      go_wp2
      go_round
      case rel => exact ⟨k + 1, by omega, by go_num, val_int (by rw [hs.out]; omega)⟩
      case measure => simp [intOf]; omega
    · obtain rfl : k = n := by omega
      have hs := Lib.hid (show total (ps.take k) = total ps by rw [List.take_of_length_le (by have := hl.out; omega)])
      go_wp2_with fail
      refine (Grow_nil _ _ (by rw [hs.out]; exact ht)).mono ?_
      rintro e w1 ⟨v, rfl, ho, hb⟩
      have HO := Lib.hid ho
      have HB := Lib.hid hb
      clear ho hb
      go_wp2
      go_loopw [6, 27] (fun v i wr => ∃ j : Nat, j ≤ k ∧ i = .int .i64 j ∧ OwnB wr w.heap.size v (joined (ps.take j)) ∧ Below w.heap.size w wr) (fun _ i _ => k - (intOf i).toNat)
      case atStart => exact ⟨0, Nat.zero_le _, rfl, HO.out, HB.out⟩
      case round =>
        obtain ⟨j, hj, rfl, ho, hb⟩ := hrel
        have HO1 := Lib.hid ho
        have HB1 := Lib.hid hb
        clear ho hb
        by_cases hlt : j < k
        · obtain ⟨ad, rfl, hc⟩ := (H.out.below HB1.out).at1 hlt
          have hjl : Hid (j < ps.length) := by have := hl.out; exact (show j < ps.length by omega)
          have hq := Lib.hid (HP.out _ (List.getElem_mem hjl.out))
          have hs1 := Lib.hid (joined_succ ps (k := j) hjl.out)
          have hlen := Lib.hid (joined_len (ps.take (j + 1)) (fun p hp => (HP.out p (List.mem_of_mem_take hp)).1))
          have hle := Lib.hid (total_take ps (j + 1))
          go_wp2_with (at_builtin; refine wpList_append_rd rfl (.tmp 31) (.tmp 32) 23 rfl 5 (.int .u8 0) 1 Try.underlying23 info_u8 rfl (by omega) (by omega) u8s_len u8s_one w.heap.size u6 (joined (ps.take j)) rfl HO1.out _ _ _ _ rfl (hq.out.below HB1.out) (by have h1 := hlen.out; have h2 := hle.out; rw [hs1.out, List.length_append] at h1; have h3 := hq.out.1; omega) HB1.out.size ?_; intro v2 w2 ho2 hg2 hat2)
          go_roundw
          case rel => exact ⟨j + 1, by omega, by go_num, by rw [hs1.out]; exact ho2, below_own HB1.out HO1.out hg2 (Nat.le_refl _) HB1.out.size⟩
          case measure => simp [intOf]; omega
        · obtain rfl : j = k := by omega
          go_wp2
          go_ret
          have e : ps.take j = ps := List.take_of_length_le (by have := hl.out; omega)
          have h := HO1.out
          rw [e] at h
          exact ⟨_, rfl, h, HB1.out⟩

/-- the slice that a call hands over, one of its own or one that came in -/
theorem rds_pair {w : World} {p q : Part} (hp : RdB w p.A p.n p.l) (hq : RdB w q.A q.n q.l) : Rds w [p, q] := fun x hx => by
  rcases List.mem_cons.1 hx with rfl | hx
  · exact hp
  · rcases List.mem_cons.1 hx with rfl | hx
    · exact hq
    · cases hx

def fourV (x : BitVec 32) : Array Value := #[.int .u8 ((x.toNat : Int) % 256), .int .u8 ((x.toNat : Int) / 256 % 256), .int .u8 ((x.toNat : Int) / 65536 % 256), .int .u8 ((x.toNat : Int) / 16777216)]
theorem fourV_eq (x : BitVec 32) : fourV x = ((four x).flatMap u8s).toArray := by
  unfold fourV four
  simp only [List.flatMap_cons, List.flatMap_nil, List.cons_append, List.nil_append, Int.natCast_emod, Int.natCast_ediv]
  rfl
theorem four_in (x : BitVec 32) : InB (four x) := by
  intro b hb
  have := lt32 x
  unfold four at hb
  simp only [List.mem_cons, List.not_mem_nil, or_false] at hb
  rcases hb with rfl | rfl | rfl | rfl <;> omega
theorem four_len (x : BitVec 32) : (four x).length = 4 := rfl
theorem sum_any (A : Option Addr) (n cap : Nat) (l : List Int) (w : World) (hr : RdB w A n l) (hb : InB l) (hn : n ≤ maxLen) :
    Calls Try.prog 27 #[.slice A n cap] w fun e w' => e = .returned (.slice (some ⟨w.heap.size, 0, none⟩) 4 4) ∧ w' = w.alloc (.cells ((four (sum l)).flatMap u8s).toArray 5) := by
  have hc := Lib.hid (Sum_any A n cap l w hr hb hn)
  clear hr
  go_enter Try.func27, Try.ntmps27
  go_wp2_with fail
  refine (hc.out).mono ?_
  rintro e w' ⟨rfl, rfl⟩
  go_wp2
  go_ret
  exact ⟨rfl, by rw [← fourV_eq]; rfl⟩

def SumPost (w : World) (l : List Int) (e : Ending) (w' : World) : Prop := e = .returned (.slice (some ⟨w.heap.size, 0, none⟩) 4 4) ∧ RdB w' (some ⟨w.heap.size, 0, none⟩) 4 (four (sum l)) ∧ Below w.heap.size w w' ∧ w'.heap.size = w.heap.size + 1
theorem sum_post (A : Option Addr) (n cap : Nat) (l : List Int) (w : World) (hr : RdB w A n l) (hb : InB l) (hn : n ≤ maxLen) :
    Calls Try.prog 27 #[.slice A n cap] w (SumPost w l) :=
  (sum_any A n cap l w hr hb hn).mono fun e w' ⟨he, hw⟩ => by
    subst hw
    exact ⟨he, rd_new u8s_len w _ (four (sum l)), (Below.refl _ _).alloc (Nat.le_refl _) _, by simp⟩

theorem Seal_any (A : Option Addr) (n cap : Nat) (l : List Int) (w : World) (hr : RdB w A n l) (hb : InB l) (hn : n + 4 ≤ 140737488355328) :
    Calls Try.prog 16 #[.slice A n cap] w (MadeB w (sealed l)) := by
  have hc := Lib.hid (sum_post A n cap l w hr hb (by unfold maxLen; omega))
  have H := Lib.hid hr
  clear hr
  go_enter Try.func16, Try.ntmps16
  go_wp2_with fail
  refine (hc.out).mono ?_
  rintro e w1 ⟨rfl, h4, hb1, hs1⟩
  have H4 := Lib.hid h4
  have HB := Lib.hid hb1
  have HS := Lib.hid hs1
  clear h4 hb1 hs1
  go_wp2_with fail
  have hB1 := (Below.refl w1.heap.size w1).alloc (Nat.le_refl _) (.cells #[Value.slice A n cap, Value.slice (some ⟨w.heap.size, 0, none⟩) 4 4] 23)
  refine (Concat_any (some ⟨w1.heap.size, 0, none⟩) 2 2 [⟨A, n, cap, l⟩, ⟨some ⟨w.heap.size, 0, none⟩, 4, 4, four (sum l)⟩] _ (rd_new (sz := 1) (enc := Part.vals) (fun _ => rfl) w1 23 [⟨A, n, cap, l⟩, ⟨some ⟨w.heap.size, 0, none⟩, 4, 4, four (sum l)⟩])
    (rds_pair (p := ⟨A, n, cap, l⟩) ((H.out.below HB.out).below hB1) (q := ⟨some ⟨w.heap.size, 0, none⟩, 4, 4, four (sum l)⟩) (H4.out.below hB1)) (by unfold maxLen; omega) (by simp only [total, List.map_cons, List.map_nil, List.sum_cons, List.sum_nil]; omega)).mono ?_
  rintro e w' ⟨v, rfl, ho, hb2⟩
  have HO := Lib.hid ho
  have HB2 := Lib.hid hb2
  have HB1 := Lib.hid hB1
  clear ho hb2 hB1
  go_wp2
  go_ret
  refine ⟨v, rfl, ?_, ?_⟩
  · have h := HO.out.mono (b' := w.heap.size) (by have := HS.out; simp; omega)
    simpa [joined, sealed] using h
  · exact HB.out.trans ((HB1.out.mono (HB.out.size)).trans (HB2.out.mono (by have := HS.out; simp; omega)))
end Go.Proofs.Ytkhnpmeaklcmaaa
