/- slices.CompactFunc at arcs that the call owns. -/
import Derived.Test.YtmnnoecjedkdjaaGreatDoorWn5
import Derived.Deep.LoopGhost
import Derived.Deep.RegionHeld3
import Derived.Lib.SliceRun
set_option linter.unusedSimpArgs false
set_option linter.unusedVariables false
namespace Go.Proofs.YtmnnoecjedkdjaaGreatDoor
open Go.RowKit Txt

abbrev OwnA (w : World) (base : Nat) (v : Value) (l : List ArcT) : Prop := Own 56 3 encA w base v l
theorem flat_set3 : ∀ (l : List ArcT) (j : Nat) (x : ArcT), j < l.length → (((l.flatMap encA).set (j * 3) (.int .i64 x.f)).set (j * 3 + 1) (.int .i64 x.t)).set (j * 3 + 2) (.int .i64 x.w) = (l.set j x).flatMap encA
  | [], _, _, h => by simp at h
  | y :: r, 0, x, _ => by simp
  | y :: r, j + 1, x, h => by
    have ih := flat_set3 r j x (by simpa using h)
    rw [show (j + 1) * 3 = j * 3 + 1 + 1 + 1 by omega]
    simp only [List.flatMap_cons, encA, List.set_cons_succ, List.cons_append, List.nil_append]
    rw [ih]
theorem own_set3 {w : World} {base g cap : Nat} {l : List ArcT} {n : Nat} (h : OwnA w base (.slice (some ⟨g, 0, none⟩) n cap) l) (j : Nat) (hj : j < l.length) (x : ArcT) :
    OwnA (((w.setCell ⟨g, j * 3, none⟩ (.int .i64 x.f)).setCell ⟨g, j * 3 + 1, none⟩ (.int .i64 x.t)).setCell ⟨g, j * 3 + 2, none⟩ (.int .i64 x.w)) base (.slice (some ⟨g, 0, none⟩) n cap) (l.set j x) := by
  have hn : n = l.length := by
    obtain ⟨A, c, hv, _⟩ := h.form
    injection hv
  subst hn
  have h2 := (World.ownsRow.stored (World.ownsRow.stored (World.ownsRow.stored h (j * 3) (.int .i64 x.f)).1 (j * 3 + 1) (.int .i64 x.t)).1 (j * 3 + 2) (.int .i64 x.w)).1
  rw [flat_set3 l j x hj] at h2
  show World.ownsRow _ _ _ _ _ (l.set j x).length _
  rw [List.length_set]
  exact h2
theorem own_at {w : World} {base g n cap : Nat} {C : List ArcT} (h : OwnA w base (.slice (some ⟨g, 0, none⟩) n cap) C) {j : Nat} {z : ArcT} (hz : C[j]? = some z) :
    (w.cell? ⟨g, j * 3, none⟩ = some (.int .i64 z.f) ∧ w.cell? ⟨g, j * 3 + 1, none⟩ = some (.int .i64 z.t) ∧ w.cell? ⟨g, j * 3 + 2, none⟩ = some (.int .i64 z.w)) ∧ w.frozen? ⟨g, j * 3, none⟩ = false ∧ w.frozen? ⟨g, j * 3 + 1, none⟩ = false ∧ w.frozen? ⟨g, j * 3 + 2, none⟩ = false := by
  have hn : n = C.length := by
    obtain ⟨A, c, hv, _⟩ := h.form
    injection hv
  subst hn
  have hj : j < C.length := (List.getElem?_eq_some_iff.1 hz).1
  have e0 := (World.ownsRow.cellAt h (j * 3) (by omega)).trans (flat_get (enc := encA) encA_len C j 0 (by omega))
  have e1 := (World.ownsRow.cellAt h (j * 3 + 1) (by omega)).trans (flat_get (enc := encA) encA_len C j 1 (by omega))
  have e2 := (World.ownsRow.cellAt h (j * 3 + 2) (by omega)).trans (flat_get (enc := encA) encA_len C j 2 (by omega))
  rw [hz] at e0 e1 e2
  exact ⟨⟨e0, e1, e2⟩, World.ownsRow.frozenAt h _, World.ownsRow.frozenAt h _, World.ownsRow.frozenAt h _⟩
theorem setCells_row (g : Nat) (e : TypeId) : ∀ (vs : List Value) (o : Nat) (w : World) (cur : Array Value), w.heap[g]? = some (.cells cur e (0, 0)) → ∃ cur', (w.setCells g o vs).heap[g]? = some (.cells cur' e (0, 0)) ∧ cur'.size = cur.size ∧ ∀ j, j < o → cur'[j]? = cur[j]?
  | [], o, w, cur, h => ⟨cur, h, rfl, fun _ _ => rfl⟩
  | v :: r, o, w, cur, h => by
    obtain ⟨c2, h1, h2, h3⟩ := setCells_row g e r (o + 1) (w.setCell ⟨g, o, none⟩ v) _ (heap_setCell_same w g o cur e v h)
    refine ⟨c2, h1, by rw [h2]; simp, fun j hj => ?_⟩
    rw [h3 j (by omega), Array.getElem?_setIfInBounds]
    rw [if_neg (by omega)]
theorem kept_setCells (g : Nat) : ∀ (vs : List Value) (o : Nat) (w : World), Kept (fun k => k = g) w (w.setCells g o vs)
  | [], o, w => Kept.refl _ _
  | v :: r, o, w => ((Kept.refl (fun k => k = g) w).set_ (p := ⟨g, o, none⟩) (.inl rfl) v).trans (kept_setCells g r (o + 1) _)
theorem zero_arc (w : World) : (zeroValue 56).run Tryz.prog w = .ok (.agg #[.int .i64 0, .int .i64 0, .int .i64 0]) w := by kernel_rfl
theorem zeroCells_arc (n : Nat) : (Builtin.zeroCells (Value.agg #[.int .i64 0, .int .i64 0, .int .i64 0]).cells n).toList.length = n * 3 ∧ ∀ v ∈ (Builtin.zeroCells (Value.agg #[.int .i64 0, .int .i64 0, .int .i64 0]).cells n).toList, v = .int .i64 0 := by
  have h3 : (Value.agg #[.int .i64 0, .int .i64 0, .int .i64 0]).cells = #[.int .i64 0, .int .i64 0, .int .i64 0] := rfl
  rw [h3]
  constructor
  · simp [Builtin.zeroCells]
  · intro v hv
    simp only [Builtin.zeroCells] at hv
    simp at hv
    obtain ⟨i, hi, rfl⟩ := hv
    have h : i % 3 < 3 := Nat.mod_lt _ (by omega)
    match i % 3, h with
    | 0, _ => rfl
    | 1, _ => rfl
    | 2, _ => rfl
theorem clear_own {w : World} {base g n cap kk : Nat} {C : List ArcT} (h : OwnA w base (.slice (some ⟨g, 0, none⟩) n cap) C) (hn : C.length = n) (hk : kk < n) :
    ∃ w', (∀ ty, (Builtin.clear_ #[28] ty #[.slice (some ⟨g, kk * 3, none⟩) (n - kk) (cap - kk)]).run Tryz.prog w = .ok (.tuple #[]) w') ∧ OwnA w' base (.slice (some ⟨g, 0, none⟩) kk cap) (C.take kk) ∧ Kept (fun k => k = g) w w' := by
  subst hn
  obtain ⟨hz1, hz2⟩ := zeroCells_arc (C.length - kk)
  refine ⟨w.setCells g (kk * 3) (Builtin.zeroCells (Value.agg #[.int .i64 0, .int .i64 0, .int .i64 0]).cells (C.length - kk)).toList, fun ty => ?_, ?_, kept_setCells _ _ _ _⟩
  · have hst := run_storeCells_cells (P := Tryz.prog) g (kk * 3) (Builtin.zeroCells (Value.agg #[.int .i64 0, .int .i64 0, .int .i64 0]).cells (C.length - kk)).toList 0 w (fun j hj => by
      rw [hz1] at hj
      have hc := World.ownsRow.cellAt h (kk * 3 + 0 + j) (by omega)
      rw [hc, List.getElem?_eq_getElem (by rw [flat_len encA_len]; omega)]
      rfl) (fun j hj => World.ownsRow.frozenAt h _) (fun v hv => by rw [hz2 v hv]; rfl)
    rw [Nat.add_zero] at hst
    obtain ⟨m, hm⟩ : ∃ m, C.length - kk = m + 1 := ⟨C.length - kk - 1, by omega⟩
    rw [hm] at hst ⊢
    simp [Builtin.clear_, run_underlying Tryz.underlying28, zero_arc, hst]
  · rcases h.2 with ⟨h', _⟩ | ⟨g', cap', cur, h', hb, hg, hc, hm, hz, ht⟩
    · injection h' with h1; cases h1
    · injection h' with h1 _ h3
      injection h1 with h1
      injection h1 with h1
      subst h1 h3
      obtain ⟨c2, k1, k2, k3⟩ := setCells_row g 56 (Builtin.zeroCells (Value.agg #[.int .i64 0, .int .i64 0, .int .i64 0]).cells (C.length - kk)).toList (kk * 3) w cur hg
      have hlen : (C.take kk).length = kk := by rw [List.length_take]; omega
      refine ⟨by rw [flat_len encA_len], .inr ⟨g, cap, c2, by rw [hlen], hb, k1, by omega, hm, by rw [k2]; exact hz, ?_⟩⟩
      rw [hlen]
      apply List.ext_getElem?
      intro j
      by_cases hj : j < kk * 3
      · rw [List.getElem?_take_of_lt hj, Array.getElem?_toList, k3 j hj, ← Array.getElem?_toList]
        have e1 : (cur.toList.take (C.length * 3))[j]? = (C.flatMap encA)[j]? := by rw [ht]
        rw [List.getElem?_take_of_lt (by omega)] at e1
        rw [e1]
        have e : j = j / 3 * 3 + j % 3 := by omega
        have g1 := flat_get (enc := encA) encA_len C (j / 3) (j % 3) (Nat.mod_lt _ (by omega))
        have g2 := flat_get (enc := encA) encA_len (C.take kk) (j / 3) (j % 3) (Nat.mod_lt _ (by omega))
        rw [← e] at g1 g2
        rw [g1, g2, List.getElem?_take_of_lt (by omega)]
      · rw [List.getElem?_take_eq_none (by omega), List.getElem?_eq_none (by rw [flat_len encA_len, hlen]; omega)]
theorem Compact_nil (W : World) : Calls Tryz.prog 38 #[.slice none 0 0, .func (.func 39) #[] #[]] W fun e w' => e = .returned (.slice none 0 0) ∧ w' = W := by
  go_enter Tryz.func38, Tryz.ntmps38
  go_wp2_with fail
  go_ret
  exact ⟨rfl, rfl⟩
set_option maxRecDepth 100000 in
set_option maxHeartbeats 8000000 in
theorem Compact_any {base g n cap : Nat} {l : List ArcT} {W : World} (h : OwnA W base (.slice (some ⟨g, 0, none⟩) n cap) l) (hn : l.length = n) :
    Calls Tryz.prog 38 #[.slice (some ⟨g, 0, none⟩) n cap, .func (.func 39) #[] #[]] W fun e w' => ∃ k, e = .returned (.slice (some ⟨g, 0, none⟩) k cap) ∧ k = (compL l).length ∧ OwnA w' base (.slice (some ⟨g, 0, none⟩) k cap) (compL l) ∧ Kept (fun k => k = g) W w' := by
  have HO := Lib.hid h
  have HN := Lib.hid hn
  have hcap : n ≤ cap ∧ cap ≤ 9223372036854775807 := by
    obtain ⟨_, _, e, h1, h2⟩ := h.form
    injection e with e1 e2 e3
    simp only [maxLen] at h2
    omega
  clear h hn
  go_enter Tryz.func38, Tryz.ntmps38
  refine wp_named ?_
  intro Q0 hQ0
  have HQ0 := Lib.hid hQ0
  clear hQ0
  by_cases h2 : n < 2
  · have g0 : decide ((n : Int) < 2) = true := decide_eq_true (by omega)
    have g1 : decide (n < 2) = true := decide_eq_true h2
    have HE : Hid (compL l = l) := Lib.hid (by
      have hl := HN.out
      match l, hl with
      | [], _ => rfl
      | [x], _ => rfl
      | x :: y :: r, hl => simp at hl; omega)
    go_wp2_with fail
    rw [HQ0.out]
    go_ret
    exact ⟨n, rfl, by rw [HE.out, HN.out], by rw [HE.out]; exact HO.out, Kept.refl _ _⟩
  have g0 : decide ((n : Int) < 2) = false := decide_eq_false (by omega)
  have g1 : decide (n < 2) = false := decide_eq_false h2
  go_upto_region 4 with fail
  go_loopw [5] (fun iv wr => ∃ k : Nat, 1 ≤ k ∧ k ≤ n ∧ iv = .int .i64 k ∧ compL (l.take k) = l.take k ∧ Below W.heap.size W wr) (fun iv _ => n - (intOf iv).toNat)
  case atStart => exact ⟨1, by omega, by omega, rfl, by have hl := HN.out; cases l with | nil => simp at hl; omega | cons x r => rfl, Below.refl _ _⟩
  case round =>
    obtain ⟨k, h1k, hkn, rfl, hall, hbr⟩ := hrel
    have HALL := Lib.hid hall
    have HBR := Lib.hid hbr
    have HOR := Lib.hid (HO.out.below hbr)
    clear hall hbr
    by_cases hlt : k < n
    · have q0 : decide ((k : Int) < (n : Int)) = true := decide_eq_true (by omega)
      have q1 : decide (k < n) = true := decide_eq_true hlt
      have hw1 : IntKind.i64.wrap ((k : Int) - 1) = ((k - 1 : Nat) : Int) := by rw [IntKind.wrap_i64]; omega
      have hw2 : IntKind.i64.wrap ((k : Int) + 1) = (k : Int) + 1 := by rw [IntKind.wrap_i64]; omega
      have hl := HN.out
      obtain ⟨x, hx⟩ : ∃ x, l[k]? = some x := ⟨_, List.getElem?_eq_getElem (by omega)⟩
      obtain ⟨y, hy⟩ : ∃ y, l[k - 1]? = some y := ⟨_, List.getElem?_eq_getElem (by omega)⟩
      have ho : World.ownsRow wr base 56 3 (.slice (some ⟨g, 0, none⟩) l.length cap) l.length (l.flatMap encA) := by
        have h := HOR.out
        rw [← hl] at h
        exact h
      have c0 := (World.ownsRow.cellAt ho (k * 3) (by omega)).trans (flat_get (enc := encA) encA_len l k 0 (by omega))
      have c1 := (World.ownsRow.cellAt ho (k * 3 + 1) (by omega)).trans (flat_get (enc := encA) encA_len l k 1 (by omega))
      have c2 := (World.ownsRow.cellAt ho (k * 3 + 2) (by omega)).trans (flat_get (enc := encA) encA_len l k 2 (by omega))
      have d0 := (World.ownsRow.cellAt ho ((k - 1) * 3) (by omega)).trans (flat_get (enc := encA) encA_len l (k - 1) 0 (by omega))
      have d1 := (World.ownsRow.cellAt ho ((k - 1) * 3 + 1) (by omega)).trans (flat_get (enc := encA) encA_len l (k - 1) 1 (by omega))
      have d2 := (World.ownsRow.cellAt ho ((k - 1) * 3 + 2) (by omega)).trans (flat_get (enc := encA) encA_len l (k - 1) 2 (by omega))
      rw [hx] at c0 c1 c2
      rw [hy] at d0 d1 d2
      replace c0 : wr.cell? ⟨g, k * 3, none⟩ = some (.int .i64 x.f) := c0
      replace c1 : wr.cell? ⟨g, k * 3 + 1, none⟩ = some (.int .i64 x.t) := c1
      replace c2 : wr.cell? ⟨g, k * 3 + 2, none⟩ = some (.int .i64 x.w) := c2
      replace d0 : wr.cell? ⟨g, (k - 1) * 3, none⟩ = some (.int .i64 y.f) := d0
      replace d1 : wr.cell? ⟨g, (k - 1) * 3 + 1, none⟩ = some (.int .i64 y.t) := d1
      replace d2 : wr.cell? ⟨g, (k - 1) * 3 + 2, none⟩ = some (.int .i64 y.w) := d2
      have HXY := Lib.hid (And.intro hx hy)
      clear hx hy hl ho
      have hkl : k - 1 < n := by omega
      have hkm : decide (((k - 1 : Nat) : Int) < (n : Int)) = true := decide_eq_true (by omega)
      have HX : Hid (Below wr.heap.size wr wr) := Lib.hid (Below.refl _ _)
      go_upto_region 6 with fail
      go_region_held3 (fun w' => (w'.cell? ⟨g, k * 3, none⟩ = some (.int .i64 x.f) ∧ w'.cell? ⟨g, k * 3 + 1, none⟩ = some (.int .i64 x.t) ∧ w'.cell? ⟨g, k * 3 + 2, none⟩ = some (.int .i64 x.w)) ∧ w'.cell? ⟨g, (k - 1) * 3, none⟩ = some (.int .i64 y.f) ∧ w'.cell? ⟨g, (k - 1) * 3 + 1, none⟩ = some (.int .i64 y.t) ∧ w'.cell? ⟨g, (k - 1) * 3 + 2, none⟩ = some (.int .i64 y.w)) (first | with_reducible exact ⟨⟨c0, c1, c2⟩, d0, d1, d2⟩ | go_keep) (first
        | (go_at_call 39; (with_reducible refine (OfEq_any x y _).mono ?_); rintro e v0 ⟨rfl, hb5⟩; have c0 := cell_below hb5 c0; have c1 := cell_below hb5 c1; have c2 := cell_below hb5 c2; have d0 := cell_below hb5 d0; have d1 := cell_below hb5 d1; have d2 := cell_below hb5 d2; have HX : Hid (Below wr.heap.size wr v0) := Lib.hid (by first | exact HX.out.trans (hb5.mono HX.out.size) | exact HX.out.drew.trans (hb5.mono HX.out.drew.size)); clear hb5))
      rename_i hHeld
      clear hHeld c0 c1 c2 d0 d1 d2
      have HB0 := Lib.hid (HBR.out.trans (HX.out.mono HBR.out.size))
      clear HX
      have HKL : Hid (1 ≤ k ∧ k < l.length) := Lib.hid ⟨h1k, by have := HN.out; omega⟩
      have HXX : Hid (∀ (h : k < l.length), l[k] = x ∧ l[k - 1] = y) := Lib.hid (fun h => by
        obtain ⟨e1, e2⟩ := HXY.out
        exact ⟨by rw [List.getElem?_eq_getElem h] at e1; exact Option.some.inj e1, by rw [List.getElem?_eq_getElem (by omega)] at e2; exact Option.some.inj e2⟩)
      cases hs : sameFT x y with
      | false =>
        have HS := Lib.hid hs
        clear hs
        go_wp2_with fail
        go_roundw
        case rel =>
          refine ⟨k + 1, by omega, by omega, by go_num, ?_, HB0.out⟩
          rw [compL_take HKL.out.1 HKL.out.2, (HXX.out HKL.out.2).1, (HXX.out HKL.out.2).2, HS.out, HALL.out, List.take_succ_eq_append_getElem HKL.out.2, (HXX.out HKL.out.2).1]
          simp
        case measure => simp [intOf]; omega
      | true =>
        have HS := Lib.hid hs
        clear hs
        clear c0 c1 c2 d0 d1 d2
        go_upto_region 9 with fail
        generalize wr = wo at *
        have HOV := Lib.hid (HO.out.below HB0.out)
        go_loopw [5, 7] (fun kv iv wx => ∃ (kk k2 : Nat) (C : List ArcT), kv = .int .i64 kk ∧ iv = .int .i64 k2 ∧ 1 ≤ k2 ∧ k + k2 ≤ n ∧ CompI l (k + k2) kk C ∧ OwnA wx base (.slice (some ⟨g, 0, none⟩) n cap) C ∧ Kept (fun b => b = g) W wx) (fun _ iv _ => n - k - (intOf iv).toNat)
        case atStart => exact ⟨k, 1, l, rfl, rfl, by omega, by omega, CompI.start HKL.out.1 HKL.out.2 HALL.out (by rw [(HXX.out HKL.out.2).1, (HXX.out HKL.out.2).2]; exact HS.out), HOV.out, Kept.of_below HB0.out⟩
        case round =>
          obtain ⟨kk, k2, C, rfl, rfl, h12, hk2, hci, hoc, hkc⟩ := hrel
          have HCI := Lib.hid hci
          have HOC := Lib.hid hoc
          have HKC := Lib.hid hkc
          clear hci hoc hkc
          by_cases hlt2 : k + k2 < n
          · have p0 : decide ((k2 : Int) < ((n - k : Nat) : Int)) = true := decide_eq_true (by omega)
            have p1 : decide (k2 < n - k) = true := decide_eq_true (by omega)
            have hk2a : k2 < n - k := by omega
            have hk2b : k2 - 1 < n - k := by omega
            have hkkn : kk < n := by have := HCI.out.lt; omega
            have hv1 : IntKind.i64.wrap ((k2 : Int) - 1) = ((k2 - 1 : Nat) : Int) := by rw [IntKind.wrap_i64]; omega
            have hv2 : IntKind.i64.wrap ((k2 : Int) + 1) = (k2 : Int) + 1 := by rw [IntKind.wrap_i64]; omega
            have hv3 : IntKind.i64.wrap ((kk : Int) + 1) = (kk : Int) + 1 := by rw [IntKind.wrap_i64]; omega
            have hl := HN.out
            have hcl := HCI.out.len
            have HI : Hid (1 ≤ k + k2 ∧ k + k2 < l.length) := Lib.hid ⟨by omega, by omega⟩
            obtain ⟨a, ha⟩ : ∃ a, l[k + k2]? = some a := ⟨_, List.getElem?_eq_getElem (by omega)⟩
            obtain ⟨b, hb⟩ : ∃ b, l[k + k2 - 1]? = some b := ⟨_, List.getElem?_eq_getElem (by omega)⟩
            have hx : C[k + k2]? = some a := (HCI.out.high _ (by omega)).trans ha
            have hy : C[k + k2 - 1]? = some b := (HCI.out.high _ (by omega)).trans hb
            have ho : World.ownsRow wr base 56 3 (.slice (some ⟨g, 0, none⟩) C.length cap) C.length (C.flatMap encA) := by
              have h := HOC.out
              rw [← hl, ← hcl] at h
              exact h
            have c0 := (World.ownsRow.cellAt ho ((k + k2) * 3) (by omega)).trans (flat_get (enc := encA) encA_len C (k + k2) 0 (by omega))
            have c1 := (World.ownsRow.cellAt ho ((k + k2) * 3 + 1) (by omega)).trans (flat_get (enc := encA) encA_len C (k + k2) 1 (by omega))
            have c2 := (World.ownsRow.cellAt ho ((k + k2) * 3 + 2) (by omega)).trans (flat_get (enc := encA) encA_len C (k + k2) 2 (by omega))
            have d0 := (World.ownsRow.cellAt ho ((k + k2 - 1) * 3) (by omega)).trans (flat_get (enc := encA) encA_len C (k + k2 - 1) 0 (by omega))
            have d1 := (World.ownsRow.cellAt ho ((k + k2 - 1) * 3 + 1) (by omega)).trans (flat_get (enc := encA) encA_len C (k + k2 - 1) 1 (by omega))
            have d2 := (World.ownsRow.cellAt ho ((k + k2 - 1) * 3 + 2) (by omega)).trans (flat_get (enc := encA) encA_len C (k + k2 - 1) 2 (by omega))
            rw [hx] at c0 c1 c2
            rw [hy] at d0 d1 d2
            rw [show (k + k2) * 3 = k * 3 + k2 * 3 by omega] at c0 c1 c2
            rw [show (k + k2 - 1) * 3 = k * 3 + (k2 - 1) * 3 by omega] at d0 d1 d2
            replace c0 : wr.cell? ⟨g, k * 3 + k2 * 3, none⟩ = some (.int .i64 a.f) := c0
            replace c1 : wr.cell? ⟨g, k * 3 + k2 * 3 + 1, none⟩ = some (.int .i64 a.t) := c1
            replace c2 : wr.cell? ⟨g, k * 3 + k2 * 3 + 2, none⟩ = some (.int .i64 a.w) := c2
            replace d0 : wr.cell? ⟨g, k * 3 + (k2 - 1) * 3, none⟩ = some (.int .i64 b.f) := d0
            replace d1 : wr.cell? ⟨g, k * 3 + (k2 - 1) * 3 + 1, none⟩ = some (.int .i64 b.t) := d1
            replace d2 : wr.cell? ⟨g, k * 3 + (k2 - 1) * 3 + 2, none⟩ = some (.int .i64 b.w) := d2
            have HAB : Hid (l[k + k2]? = some a ∧ l[k + k2 - 1]? = some b) := Lib.hid ⟨ha, hb⟩
            clear hx hy hl ho ha hb
            clear hcl
            have HX : Hid (Below wr.heap.size wr wr) := Lib.hid (Below.refl _ _)
            go_upto_region 11 with fail
            go_region_held3 (fun w' => (w'.cell? ⟨g, k * 3 + k2 * 3, none⟩ = some (.int .i64 a.f) ∧ w'.cell? ⟨g, k * 3 + k2 * 3 + 1, none⟩ = some (.int .i64 a.t) ∧ w'.cell? ⟨g, k * 3 + k2 * 3 + 2, none⟩ = some (.int .i64 a.w)) ∧ w'.cell? ⟨g, k * 3 + (k2 - 1) * 3, none⟩ = some (.int .i64 b.f) ∧ w'.cell? ⟨g, k * 3 + (k2 - 1) * 3 + 1, none⟩ = some (.int .i64 b.t) ∧ w'.cell? ⟨g, k * 3 + (k2 - 1) * 3 + 2, none⟩ = some (.int .i64 b.w)) (first | with_reducible exact ⟨⟨c0, c1, c2⟩, d0, d1, d2⟩ | go_keep) (first
              | (go_at_call 39; (with_reducible refine (OfEq_any a b _).mono ?_); rintro e v0 ⟨rfl, hb5⟩; have c0 := cell_below hb5 c0; have c1 := cell_below hb5 c1; have c2 := cell_below hb5 c2; have d0 := cell_below hb5 d0; have d1 := cell_below hb5 d1; have d2 := cell_below hb5 d2; have HX : Hid (Below wr.heap.size wr v0) := Lib.hid (by first | exact HX.out.trans (hb5.mono HX.out.size) | exact HX.out.drew.trans (hb5.mono HX.out.drew.size)); clear hb5))
            rename_i hHeld
            clear hHeld
            have HOV2 := Lib.hid (HOC.out.below HX.out)
            have HKV := Lib.hid (HKC.out.trans (.of_below HX.out))
            clear HX d0 d1 d2
            cases hs2 : sameFT a b with
            | true =>
              have HCS := Lib.hid (HCI.out.skip HI.out.1 HI.out.2 (by
                obtain ⟨e1, e2⟩ := HAB.out
                rw [List.getElem?_eq_getElem HI.out.2] at e1
                rw [List.getElem?_eq_getElem (by have := HI.out.2; omega)] at e2
                rw [Option.some.inj e1, Option.some.inj e2]
                exact hs2))
              clear hs2 c0 c1 c2
              go_wp2_with fail
              go_roundw
              case rel => exact ⟨kk, k2 + 1, C, rfl, by go_num, by omega, by omega, HCS.out, HOV2.out, HKV.out⟩
              case measure => simp [intOf]; omega
            | false =>
              have hkeep := HCI.out.keep HI.out.1 HI.out.2 (by
                obtain ⟨e1, e2⟩ := HAB.out
                rw [List.getElem?_eq_getElem HI.out.2] at e1
                rw [List.getElem?_eq_getElem (by have := HI.out.2; omega)] at e2
                rw [Option.some.inj e1, Option.some.inj e2]
                exact hs2)
              rw [show l[k + k2]'HI.out.2 = a from by
                have e1 := HAB.out.1
                rw [List.getElem?_eq_getElem HI.out.2] at e1
                exact Option.some.inj e1] at hkeep
              have HCS := Lib.hid hkeep
              have hcl : C.length = n := by rw [HCI.out.len, HN.out]
              have hset := own_set3 HOV2.out kk (by omega) a
              have HSET := Lib.hid hset
              obtain ⟨z, hz⟩ : ∃ z, C[kk]? = some z := ⟨_, List.getElem?_eq_getElem (by omega)⟩
              obtain ⟨⟨e0, e1, e2⟩, f0, f1, f2⟩ := own_at HOV2.out hz
              clear hs2 hkeep hset hz hcl
              have HKS := Lib.hid (((HKV.out.set_ (p := ⟨g, kk * 3, none⟩) (.inl rfl) (.int .i64 a.f)).set_ (p := ⟨g, kk * 3 + 1, none⟩) (.inl rfl) (.int .i64 a.t)).set_ (p := ⟨g, kk * 3 + 2, none⟩) (.inl rfl) (.int .i64 a.w))
              go_wp2_with fail
              go_roundw
              case rel => exact ⟨kk + 1, k2 + 1, C.set kk a, by go_num, by go_num, by omega, by omega, HCS.out, HSET.out, HKS.out⟩
              case measure => simp [intOf]; omega
          · have hk3 : k2 = n - k := by omega
            subst hk3
            have p0 : decide (((n - k : Nat) : Int) < ((n - k : Nat) : Int)) = false := decide_eq_false (by omega)
            have p1 : decide (n - k < n - k) = false := decide_eq_false (by omega)
            have hkn2 : k + (n - k) = n := by omega
            rw [hkn2] at HCI
            have hkkn : kk < n := HCI.out.lt
            have hcl : C.length = n := by rw [HCI.out.len, HN.out]
            obtain ⟨w9, hclr, ho9, hk9⟩ := clear_own HOC.out hcl hkkn
            have HCLR := Lib.hid hclr
            have HO9 := Lib.hid ho9
            have HK9 := Lib.hid (HKC.out.trans hk9)
            have HEQ : Hid (C.take kk = compL l) := Lib.hid (by have h := HCI.out.kept; rw [List.take_of_length_le (l := l) (by have := HN.out; omega)] at h; exact h)
            have HSZ : Hid (kk = (compL l).length) := Lib.hid (by have h := HCI.out.size (by have := HN.out; omega); rw [List.take_of_length_le (l := l) (by have := HN.out; omega)] at h; exact h.symm)
            have hkc : kk ≤ cap := by omega
            have hkc2 : kk < cap := by omega
            clear hclr ho9 hk9 hcl hkn2
            go_wp2_with (simp only [HCLR.out])
            rw [HQ0.out]
            go_ret
            exact ⟨kk, rfl, HSZ.out, by rw [← HEQ.out]; exact HO9.out, HK9.out⟩
    · obtain rfl : k = n := by omega
      have q0 : decide ((k : Int) < (k : Int)) = false := decide_eq_false (by omega)
      have q1 : decide (k < k) = false := decide_eq_false (by omega)
      have HE : Hid (compL l = l) := Lib.hid (by have h := HALL.out; rwa [List.take_of_length_le (by have := HN.out; omega)] at h)
      go_wp2_with fail
      rw [HQ0.out]
      go_ret
      exact ⟨k, rfl, by rw [HE.out, HN.out], by rw [HE.out]; exact HOR.out, Kept.of_below HBR.out⟩
end Go.Proofs.YtmnnoecjedkdjaaGreatDoor
