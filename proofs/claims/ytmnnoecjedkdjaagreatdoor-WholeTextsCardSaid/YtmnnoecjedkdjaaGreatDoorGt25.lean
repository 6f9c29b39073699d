/- gtext's Print. -/
import Derived.Test.YtmnnoecjedkdjaaGreatDoorGt24
import Derived.Laws.EntriesVeiled
set_option linter.unusedSimpArgs false
set_option linter.unusedVariables false
namespace Go.Proofs.YtmnnoecjedkdjaaGreatDoor
open Go.RowKit Txt

theorem join_line (w : Bs) (ns : List Int) : joinW (w :: ns.map numB) ++ [10] = lineB w ns := by
  show w ++ (ns.map numB).flatMap (32 :: ·) ++ [10] = lineB w ns
  unfold lineB
  rw [List.flatMap_map]
theorem printB_lines (g : GrT) : printB g = lineB graphW [g.n, (g.arcs.length : Int)] ++ g.arcs.flatMap (fun a => lineB arcW [a.f, a.t, a.w]) ++ lineB endW [] := by
  have e1 : ∀ l : List ArcT, textOf (l.map arcW4 ++ [[endW]]) = l.flatMap (fun a => lineB arcW [a.f, a.t, a.w]) ++ lineB endW [] := by
    intro l
    induction l with
    | nil => rfl
    | cons a l ih =>
      unfold textOf at ih ⊢
      rw [List.map_cons, List.cons_append, List.flatMap_cons, ih, List.flatMap_cons]
      show (joinW (arcW :: [a.f, a.t, a.w].map numB) ++ [10]) ++ _ = _
      rw [join_line, List.append_assoc]
  unfold printB graphL
  show (joinW (graphW :: [g.n, (g.arcs.length : Int)].map numB) ++ [10]) ++ textOf (g.arcs.map arcW4 ++ [[endW]]) = _
  rw [e1, join_line, List.append_assoc]
theorem lineB_len (w : Bs) (ns : List Int) (h : ∀ n ∈ ns, -9223372036854775808 ≤ n ∧ n ≤ 9223372036854775807) : (lineB w ns).length ≤ w.length + 22 * ns.length + 1 := by
  have := flat_len21 ns h
  unfold lineB
  rw [List.length_append, List.length_append]
  simp only [List.length_cons, List.length_nil]
  omega
theorem arcs_len : ∀ l : List ArcT, (∀ a ∈ l, (-9223372036854775808 ≤ a.f ∧ a.f ≤ 9223372036854775807) ∧ (-9223372036854775808 ≤ a.t ∧ a.t ≤ 9223372036854775807) ∧ (-9223372036854775808 ≤ a.w ∧ a.w ≤ 9223372036854775807)) → (l.flatMap (fun a => lineB arcW [a.f, a.t, a.w])).length ≤ 70 * l.length
  | [], _ => Nat.le_refl _
  | a :: l, h => by
    have ih := arcs_len l fun x hx => h x (by simp [hx])
    obtain ⟨h1, h2, h3⟩ := h a (by simp)
    have h4 := lineB_len arcW [a.f, a.t, a.w] (by intro n hn; simp at hn; rcases hn with rfl | rfl | rfl <;> assumption)
    have h5 : arcW.length = 3 := rfl
    rw [List.flatMap_cons, List.length_append, List.length_cons]
    simp only [List.length_cons, List.length_nil] at h4
    omega
theorem arc_bounds {a : ArcT} {n : Int} (hn : n ≤ 65536) (h : arcBug a n = none) : (-9223372036854775808 ≤ a.f ∧ a.f ≤ 9223372036854775807) ∧ (-9223372036854775808 ≤ a.t ∧ a.t ≤ 9223372036854775807) ∧ (-9223372036854775808 ≤ a.w ∧ a.w ≤ 9223372036854775807) := by
  obtain ⟨h1, h2, h3, h4, h5, h6⟩ := arcBug_none.1 h
  omega
def PrintIs (r : Except Er Bs) (W : World) (e : Ending) (w' : World) : Prop := Below W.heap.size W w' ∧ match r with
  | .error b => ∃ v, e = .returned (.tuple #[.string ⟨#[]⟩, v]) ∧ ProgX (some b) W.heap.size v w'
  | .ok s => e = .returned (.tuple #[.string (toB s), .nilIface])
theorem ProgX.mono {b : Bug} {base base' : Nat} {v : Value} {w : World} (h : ProgX b base v w) (hb : base' ≤ base) : ProgX b base' v w := by
  cases b with
  | none => exact h
  | some p =>
    obtain ⟨c, q⟩ := p
    cases q with
    | none => exact h
    | some q =>
      obtain ⟨k, a⟩ := q
      obtain ⟨g, h1, h2, h3⟩ := h
      exact ⟨g, h1, h2, Nat.le_trans hb h3⟩
theorem hr_of_cells {b r : Nat} {ns : List Int} {W : World} (h : Cells W r (ns.map (Value.int .i64)).toArray 3) (hr : r ≠ b) :
    ∀ w, Wr b W w → ∀ j (hj : j < ns.length), ∃ ad, some (⟨r, 0, none⟩ : Addr) = some ad ∧ w.cell? (ad.add j) = some (.int .i64 ns[j]) := by
  intro w hw j hj
  refine ⟨_, rfl, ?_⟩
  rw [add_zero_off, (h.wr hw (by decide) hr).cell j]
  rw [List.getElem?_toArray, List.getElem?_map, List.getElem?_eq_getElem hj]
  rfl
set_option maxRecDepth 100000 in
set_option maxHeartbeats 8000000 in
theorem Print_any (g : GrT) (A : Option Addr) (kk : Nat) (W : World) (hrd : RdA W A g.arcs.length g.arcs) (hlen : g.arcs.length ≤ 9223372036854775806) (ht : TabP W) :
    Calls Tryz.prog 14 #[.agg #[.int .i64 g.n, .slice A g.arcs.length kk]] W (PrintIs (printT g) W) := by
  have hgW : 2 < W.heap.size := by
    have hg' : Tryz.prog.globalNamed "internal/strconv.uint64pow10" = some 2 := by kernel_rfl
    have h := ht
    unfold TabP Lib.TabIs World.var? at h
    rw [hg'] at h
    simp only [Option.bind_some] at h
    rcases Nat.lt_or_ge 2 W.heap.size with h' | h'
    · exact h'
    · rw [Array.getElem?_eq_none h'] at h; cases h
  have hck := fun w (hb : Below W.heap.size W w) => GCheck_any g A kk w (hrd.below hb) hlen
  obtain ⟨n, hn⟩ : ∃ n, g.arcs.length = n := ⟨_, rfl⟩
  have HN := Lib.hid hn
  have HRD := Lib.hid hrd
  rw [hn] at hrd hlen hck HRD ⊢
  clear hn hrd
  have HCK := Lib.hid hck
  have HT := Lib.hid ht
  have hb1 := (Below.refl W.heap.size W).alloc (Nat.le_refl _) (.cells #[.int .i64 g.n, .slice A n kk] 30)
  have hc1 := cells_new W #[.int .i64 g.n, .slice A n kk] 30
  have HB1 := Lib.hid hb1
  have HP1 := Lib.hid hc1
  have hmf : ∀ (fn : Fn) (first cap : Array Value) (w : World), (Instr.makeFunc fn first cap).run Tryz.prog w = .ok (.func fn first cap) w := fun _ _ _ _ => rfl
  clear hb1 hc1 hck ht
  go_enter Tryz.func14, Tryz.ntmps14
  refine wp_named ?_
  intro Q0 hQ0
  have HQ0 := Lib.hid hQ0
  clear hQ0
  go_upto_region 1 with fail
  generalize W.alloc (.cells #[.int .i64 g.n, .slice A n kk] 30) = w1 at *
  have c0 := HP1.out.cell 0
  have c1 := HP1.out.cell 1
  go_wp2_with fail
  refine (HCK.out w1 HB1.out).mono ?_
  rintro e w2 ⟨hb2, he⟩
  have HB2 := Lib.hid (HB1.out.trans (hb2.mono HB1.out.size))
  have HP2 := Lib.hid (HP1.out.below hb2)
  have hs1 := HB1.out.size
  have hlt1 := HP1.out.lt
  have hs2 := hb2.size
  clear hb2 c0 c1 HCK
  cases hc : chkT g with
  | some b =>
    rw [hc] at he
    obtain ⟨cc, pl⟩ := b
    have HPT : Hid (printT g = .error (cc, pl)) := Lib.hid (by unfold printT; rw [hc])
    cases pl with
    | none =>
      dsimp only at he
      subst he
      clear hc
      go_wp2_with fail
      rw [HQ0.out]
      go_ret2
      exact ⟨HB2.out, by rw [HPT.out]; exact ⟨_, rfl, rfl⟩⟩
    | some p =>
      obtain ⟨k, a⟩ := p
      obtain ⟨r, rfl, hr, hrb⟩ := he
      have HR := Lib.hid hr
      clear hc hr
      go_wp2_with fail
      rw [HQ0.out]
      go_ret2
      exact ⟨HB2.out, by rw [HPT.out]; exact ⟨_, rfl, r, rfl, HR.out, by omega⟩⟩
  | none =>
    rw [hc] at he
    dsimp only at he
    subst he
    have HPT : Hid (printT g = .ok (printB g)) := Lib.hid (by unfold printT; rw [hc])
    obtain ⟨n1, n2, n3, n4⟩ := chkT_none.1 hc
    have HA := Lib.hid n4
    rw [HN.out] at n3
    clear hc n4
    have hb3 := (Below.refl w2.heap.size w2).alloc (Nat.le_refl _) (.cells #[.pointer none, .slice none 0 0] 83)
    have hbl : Bld w2.heap.size w2.heap.size [] (w2.alloc (.cells #[.pointer none, .slice none 0 0] 83)) := Lib.fresh_isBuilder _ _ w2
    have hlt3 : w2.heap.size < (w2.alloc (.cells #[.pointer none, .slice none 0 0] 83)).heap.size := by simp
    have HB3 := Lib.hid (HB2.out.trans (hb3.mono HB2.out.size))
    have HP3 := Lib.hid (HP2.out.below hb3)
    have HBL3 := Lib.hid hbl
    clear hb3 hbl
    go_upto_region 5 with fail
    generalize w2.alloc (.cells #[.pointer none, .slice none 0 0] 83) = w3 at *
    generalize w2.heap.size = b at *
    have HT3 : Hid (TabP w3) := Lib.hid (HT.out.below HB3.out)
    have c0 := HP3.out.cell 0
    have c1 := HP3.out.cell 1
    have hb4 := (Below.refl w3.heap.size w3).alloc (Nat.le_refl _) (.cells #[.int .i64 g.n, .int .i64 (n : Int)] 3)
    have hx4 : Cells (w3.alloc (.cells #[.int .i64 g.n, .int .i64 (n : Int)] 3)) w3.heap.size ([g.n, (n : Int)].map (Value.int .i64)).toArray 3 := cells_new w3 _ _
    have h5 : (⟨#[103, 114, 97, 112, 104]⟩ : ByteArray).size = 5 := rfl
    have HLN := Lib.hid (line_any b b [] ⟨#[103, 114, 97, 112, 104]⟩ (some ⟨w3.heap.size, 0, none⟩) 2 2 [g.n, (n : Int)] (w3.alloc (.cells #[.int .i64 g.n, .int .i64 (n : Int)] 3)) (HBL3.out.below hb4) (by simp; omega) rfl (by omega) (hr_of_cells hx4 (by omega)) (by intro x hx; simp at hx; rcases hx with rfl | rfl <;> omega) (by simp only [List.length_nil]; omega) (HT3.out.below hb4) (by omega))
    have HBb4 : Hid (Below b w3 (w3.alloc (.cells #[.int .i64 g.n, .int .i64 (n : Int)] 3))) := Lib.hid (hb4.mono (by omega))
    have hs4 := hb4.size
    clear hb4 hx4 h5
    go_wp2_with fail
    refine HLN.out.mono ?_
    rintro e w5 ⟨rfl, hbl5, hbe5, hwr5⟩
    rw [List.nil_append] at hbl5
    have HBL5 := Lib.hid hbl5
    have HBb5 := Lib.hid (HBb4.out.trans hbe5)
    have hs5 := hbe5.size
    clear hbl5 hbe5 hwr5 HLN HBb4 c0 c1
    have HP5 : Hid (Cells w5 W.heap.size #[.int .i64 g.n, .slice A n kk] 30) := Lib.hid ((HBb5.out.block _ (by omega)).trans HP3.out)
    have c1 := HP5.out.cell 1
    go_wp2_with fail
    go_loopw [26] (fun iv wr => ∃ j : Nat, j ≤ n ∧ iv = .int .i64 (j : Int) ∧ Bld b b (lineB graphW [g.n, (n : Int)] ++ (g.arcs.take j).flatMap (fun a => lineB arcW [a.f, a.t, a.w])) wr ∧ Below b w3 wr) (fun iv _ => n - (intOf iv).toNat)
    case atStart => exact ⟨0, by omega, rfl, by rw [List.take_zero, List.flatMap_nil, List.append_nil]; exact HBL5.out, HBb5.out⟩
    case round =>
      obtain ⟨j, hj, rfl, hbl, hbb⟩ := hrel
      have HBLr := Lib.hid hbl
      have HBbr := Lib.hid hbb
      have HBr : Hid (Below W.heap.size W wr) := Lib.hid (HB3.out.trans (hbb.mono (by omega)))
      have hsr := hbb.size
      have hl1 := lineB_len graphW [g.n, (n : Int)] (by intro x hx; simp at hx; rcases hx with rfl | rfl <;> omega)
      have hl2 := arcs_len (g.arcs.take j) (fun a ha => arc_bounds n2 (HA.out a (List.mem_of_mem_take ha)))
      have hpl : (lineB graphW [g.n, (n : Int)] ++ (g.arcs.take j).flatMap (fun a => lineB arcW [a.f, a.t, a.w])).length ≤ 100 + 70 * j := by
        rw [List.length_append]
        rw [List.length_take] at hl2
        have : graphW.length = 5 := rfl
        simp only [List.length_cons, List.length_nil] at hl1
        omega
      clear hbl hbb c1 hl1 hl2
      by_cases hlt : j < n
      · have q0 : decide ((j : Int) < (n : Int)) = true := decide_eq_true (by omega)
        have hj' : j < g.arcs.length := by rw [HN.out]; exact hlt
        obtain ⟨ad, hA, cc⟩ := (HRD.out.below HBr.out).at_ hlt
        obtain ⟨d0, d1, d2⟩ := arc_cells cc
        have htk := List.take_succ_eq_append_getElem hj'
        obtain ⟨b1, b2, b3⟩ := arc_bounds n2 (HA.out _ (List.getElem_mem hj'))
        generalize g.arcs[j] = a at *
        have HTK := Lib.hid htk
        have hw1 : IntKind.i64.wrap ((j : Int) + 1) = (j : Int) + 1 := by rw [IntKind.wrap_i64]; omega
        clear cc hj' htk
        subst hA
        generalize hpre : lineB graphW [g.n, (n : Int)] ++ (g.arcs.take j).flatMap (fun a => lineB arcW [a.f, a.t, a.w]) = pre at *
        have HPRE := Lib.hid hpre
        clear hpre
        have hb6 := (Below.refl wr.heap.size wr).alloc (Nat.le_refl _) (.cells #[.int .i64 a.f, .int .i64 a.t, .int .i64 a.w] 56)
        have hx6 := cells_new wr #[.int .i64 a.f, .int .i64 a.t, .int .i64 a.w] 56
        have HBL6 := Lib.hid (HBLr.out.below hb6)
        have HBb6 := Lib.hid (HBbr.out.trans (hb6.mono (by omega)))
        have HX6 := Lib.hid hx6
        have hs6 := hb6.size
        clear hb6 hx6
        go_upto_region 10 with fail
        generalize wr.alloc (.cells #[.int .i64 a.f, .int .i64 a.t, .int .i64 a.w] 56) = w6 at *
        clear d0 d1 d2
        have x0 := HX6.out.cell 0
        have x1 := HX6.out.cell 1
        have x2 := HX6.out.cell 2
        have HT6 : Hid (TabP w6) := Lib.hid (HT3.out.belowB HBb6.out (by omega))
        have hb7 := (Below.refl w6.heap.size w6).alloc (Nat.le_refl _) (.cells #[.int .i64 a.f, .int .i64 a.t, .int .i64 a.w] 3)
        have hx7 : Cells (w6.alloc (.cells #[.int .i64 a.f, .int .i64 a.t, .int .i64 a.w] 3)) w6.heap.size ([a.f, a.t, a.w].map (Value.int .i64)).toArray 3 := cells_new w6 _ _
        have h3 : (⟨#[97, 114, 99]⟩ : ByteArray).size = 3 := rfl
        have HLN := Lib.hid (line_any b b pre ⟨#[97, 114, 99]⟩ (some ⟨w6.heap.size, 0, none⟩) 3 3 [a.f, a.t, a.w] (w6.alloc (.cells #[.int .i64 a.f, .int .i64 a.t, .int .i64 a.w] 3)) (HBL6.out.below hb7) (by simp; omega) rfl (by omega) (hr_of_cells hx7 (by omega)) (by intro x hx; simp at hx; rcases hx with rfl | rfl | rfl <;> assumption) (by omega) (HT6.out.below hb7) (by omega))
        have HBb7 : Hid (Below b w3 (w6.alloc (.cells #[.int .i64 a.f, .int .i64 a.t, .int .i64 a.w] 3))) := Lib.hid (HBb6.out.trans (hb7.mono (by omega)))
        clear hb7 hx7 h3
        go_wp2_with fail
        refine HLN.out.mono ?_
        rintro e w8 ⟨rfl, hbl8, hbe8, hwr8⟩
        have HBL8 : Hid (Bld b b (lineB graphW [g.n, (n : Int)] ++ (g.arcs.take (j + 1)).flatMap (fun a => lineB arcW [a.f, a.t, a.w])) w8) := Lib.hid (by
          rw [HTK.out, List.flatMap_append, ← List.append_assoc, HPRE.out]
          have e1 : [a].flatMap (fun a => lineB arcW [a.f, a.t, a.w]) = lineB arcW [a.f, a.t, a.w] := by simp
          rw [e1]
          exact hbl8)
        have HBb8 := Lib.hid (HBb7.out.trans hbe8)
        clear hbl8 hbe8 hwr8 HLN x0 x1 x2
        go_wp2_with fail
        go_roundw
        case rel => exact ⟨j + 1, by omega, by go_num, HBL8.out, HBb8.out⟩
        case measure => simp [intOf]; omega
      · obtain rfl : j = n := by omega
        have htk : g.arcs.take j = g.arcs := List.take_of_length_le (by rw [HN.out]; exact Nat.le_refl _)
        rw [htk] at HBLr hpl
        have h3 : (⟨#[101, 110, 100]⟩ : ByteArray).size = 3 := rfl
        have HLN := Lib.hid (line_any b b _ ⟨#[101, 110, 100]⟩ none 0 0 [] wr HBLr.out (by omega) rfl (by omega) (fun w _ i hi => by cases hi) (fun x hx => by cases hx) (by omega) (HT3.out.belowB HBbr.out (by omega)) (by omega))
        clear h3 htk
        go_wp2_with fail
        refine HLN.out.mono ?_
        rintro e w8 ⟨rfl, hbl8, hbe8, hwr8⟩
        have hpb : Bld b b (printB g) w8 := by
          rw [printB_lines, HN.out]
          exact hbl8
        have HST := Lib.hid (Tryz.Builder_String_any b b (printB g) w8 hpb (by have := hbe8.size; omega))
        have HBb8 := Lib.hid (HBbr.out.trans hbe8)
        clear hbl8 hbe8 hwr8 HLN hpb
        go_wp2_with fail
        refine HST.out.mono ?_
        rintro e w9 ⟨rfl, hb9⟩
        have HEND : Hid (PrintIs (printT g) W (.returned (.tuple #[.string ⟨(printB g).toArray⟩, .nilIface])) w9) := Lib.hid (by rw [HPT.out]; exact ⟨HB3.out.trans ((HBb8.out.trans hb9).mono (by omega)), rfl⟩)
        clear hb9
        go_wp2_with fail
        rw [HQ0.out]
        go_ret2
        exact HEND.out
end Go.Proofs.YtmnnoecjedkdjaaGreatDoor
