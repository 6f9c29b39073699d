/- Spare, Kept, GtextMemory. -/
import Derived.Test.YtngihiebkbheaaaGreatDoorGt33
import Derived.Test.YtngihiebkbheaaaGreatDoorGt28
import Derived.Laws.MakeOwn
set_option linter.unusedSimpArgs false
set_option linter.unusedVariables false
namespace Go.Proofs.YtngihiebkbheaaaGreatDoor
open Go.RowKit Txt

def sp41 : ArcT := ⟨41, 0, 0⟩
def sp42 : ArcT := ⟨42, 0, 0⟩
theorem make_spare (n : Nat) (hn : n * 24 ≤ 140737488351232) (w : World) : ∃ v w', (Instr.makeSlice 22 (.int .i64 0) (.int .i64 ((n : Int) + 2))).run Tryz.prog w = .ok v w' ∧ Own 54 3 encA w' w.heap.size v [] ∧ Below w.heap.size w w' := by
  obtain ⟨i, hi, hz0, hz1, hz2⟩ := info_parts info_arc
  obtain ⟨w', hr, ho, hg⟩ := run_make_own (P := Tryz.prog) w w.heap.size 22 54 i _ 3 Tryz.underlying22 hi hz0 hz1 .i64 .i64 (n + 2) (by rw [hz2]; omega) (by unfold maxLen; omega) (Nat.le_refl _)
  refine ⟨_, w', ?_, ho, ⟨hg.os, hg.tape, hg.output, hg.size, fun k hk => hg.block k hk (by simp)⟩⟩
  rw [show ((n + 2 : Nat) : Int) = (n : Int) + 2 by omega] at hr
  exact hr
theorem slice_arcs (A : Option Addr) (n c : Nat) (w : World) (hc : n + 2 ≤ c) (hcm : c ≤ maxLen) : (Instr.slice 22 (.slice A (n + 2) c) none (some (.int .i64 (n : Int))) none).run Tryz.prog w = .ok (.slice A n c) w := by
  rw [run_slice_h (P := Tryz.prog) (w := w) (t := 22) (a := A) (len := n + 2) (cap := c) (ht := by kernel_rfl) (kh := .i64) (h := (n : Int)) (h0 := by omega) (h2 := by omega)]
  have hs : (sizeOf (Tryz.prog.elem 22)).run Tryz.prog w = .ok 3 w := by kernel_rfl
  rw [hs]
  show Result.ok (sliced A 0 ((n : Int)).toNat c 3) w = _
  have e : A.map (fun x => x.add (0 * 3)) = A := by
    cases A with
    | none => rfl
    | some a => rfl
  unfold sliced
  rw [Int.toNat_natCast, if_neg (by omega), Nat.sub_zero, Nat.sub_zero]
  first | rw [e] | (simp only [Nat.zero_mul]; cases A <;> rfl)
set_option maxRecDepth 100000 in
set_option maxHeartbeats 8000000 in
theorem Spare_any (g : GrT) (A : Option Addr) (n kk : Nat) (W : World) (hn : g.arcs.length = n) (hrd : RdA W A n g.arcs) (hlen : n * 24 ≤ 140737488351232) :
    Calls Tryz.prog 22 #[.agg #[.int .i64 g.n, .slice A n kk]] W fun e w' => ∃ A' c, e = .returned (.tuple #[.agg #[.int .i64 g.n, .slice A' n c], .slice A' (n + 2) c]) ∧ Own 54 3 encA w' W.heap.size (.slice A' (n + 2) c) (g.arcs ++ [sp41, sp42]) ∧ n + 2 ≤ c ∧ c ≤ maxLen ∧ Below W.heap.size W w' := by
  have HN := Lib.hid hn
  clear hn
  have hb1 := two_alG W (.cells #[.int .i64 g.n, .slice A n kk] 24) (.cells #[.int .i64 0, .slice none 0 0] 24)
  have hp := (cells_new W #[.int .i64 g.n, .slice A n kk] 24).below ((Below.refl _ _).alloc (Nat.le_refl _) (.cells #[.int .i64 0, .slice none 0 0] 24))
  have he := cells_new (W.alloc (.cells #[.int .i64 g.n, .slice A n kk] 24)) #[.int .i64 0, .slice none 0 0] 24
  have hz : ((W.alloc (.cells #[.int .i64 g.n, .slice A n kk] 24)).alloc (.cells #[.int .i64 0, .slice none 0 0] 24)).heap.size = W.heap.size + 1 + 1 := by simp
  rw [size_alloc] at he
  have HB1 := Lib.hid hb1
  have HP1 := Lib.hid hp
  have HG1 := Lib.hid he
  have HRD1 := Lib.hid (hrd.below hb1)
  clear hb1 hp he hrd
  go_enter Tryz.func22, Tryz.ntmps22
  go_upto_region 1 with fail
  generalize ((W.alloc (.cells #[.int .i64 g.n, .slice A n kk] 24)).alloc (.cells #[.int .i64 0, .slice none 0 0] 24)) = w1 at *
  have c0 := HP1.out.cell 0
  have c1 := HP1.out.cell 1
  obtain ⟨v2, w2, hmk, ho, hb2⟩ := make_spare n hlen w1
  have hw2 : IntKind.i64.wrap ((n : Int) + 2) = (n : Int) + 2 := by rw [IntKind.wrap_i64]; omega
  have HO2 := Lib.hid ho
  clear ho
  go_upto_region 2 with fail
  have HBx := Lib.hid hb2
  have HB2 := Lib.hid (HB1.out.trans (hb2.mono HB1.out.size))
  have HP2 := Lib.hid (HP1.out.below hb2)
  have HG2 := Lib.hid (HG1.out.below hb2)
  have HRD2 := Lib.hid (HRD1.out.below hb2)
  have hs2 := hb2.size
  clear hb2 c0 c1
  clear hmk
  have Pc0 : w2.cell? ⟨W.heap.size, 0, none⟩ = some (.int .i64 g.n) := HP2.out.cell 0
  have Pc1 : w2.cell? ⟨W.heap.size, 1, none⟩ = some (.slice A n kk) := HP2.out.cell 1
  have HLN : Hid (g.arcs.length = n) := HN
  go_wp2_with (at_builtin; go_loud (first
    | (refine wpList_append_rd rfl (.tmp 10) (.tmp 12) 22 rfl 54 (.agg #[.int .i64 0, .int .i64 0, .int .i64 0]) 24 Tryz.underlying22 info_arc rfl (by omega) (by omega) encA_len encA_one w1.heap.size _ [] rfl HO2.out A n kk g.arcs rfl HRD2.out (by simp; omega) (by omega) ?_; intro v3 w3 ho3 hg3 hat3; rw [List.nil_append] at ho3; have HO3 := Lib.hid ho3; have hb3 : Below w1.heap.size w1 w3 := below_own (B := w1.heap.size) (w0 := w1) HBx.out HO2.out hg3 (Nat.le_refl _) hs2; have HBy := Lib.hid hb3; have hs3 := hb3.size; have hb4 := (Below.refl w3.heap.size w3).alloc (Nat.le_refl _) (.cells #[.int .i64 41, .int .i64 0, .int .i64 0, .int .i64 42, .int .i64 0, .int .i64 0] 54); have hr4 : Rd 3 encA (w3.alloc (.cells #[.int .i64 41, .int .i64 0, .int .i64 0, .int .i64 42, .int .i64 0, .int .i64 0] 54)) (some ⟨w3.heap.size, 0, none⟩) 2 [sp41, sp42] := rd_new encA_len w3 54 [sp41, sp42]; have HR4 := Lib.hid hr4; have HBz := Lib.hid (hb3.trans (hb4.mono hs3)); have HO4 := Lib.hid (HO3.out.below hb4); have hs4 := hb4.size; clear ho3 hg3 hat3 hb3 hb4 hr4)
    | (refine wpList_append_rd rfl (.tmp 14) (.tmp 17) 22 rfl 54 (.agg #[.int .i64 0, .int .i64 0, .int .i64 0]) 24 Tryz.underlying22 info_arc rfl (by omega) (by omega) encA_len encA_one w1.heap.size _ g.arcs rfl HO4.out _ 2 2 [sp41, sp42] rfl HR4.out (by rw [HLN.out]; omega) (by omega) ?_; intro v5 w5 ho5 hg5 hat5; obtain ⟨A5, c5, rfl, h5c, h5m⟩ := ho5.form; have hl5 : (g.arcs ++ [sp41, sp42]).length = n + 2 := (by rw [List.length_append, HLN.out]; rfl); rw [hl5] at ho5 h5c ⊢; have HO5 := Lib.hid ho5; have H5C := Lib.hid h5c; have H5M := Lib.hid h5m; have HB5z : Hid (Below w1.heap.size w1 w5) := Lib.hid (below_own HBz.out HO4.out hg5 (Nat.le_refl _) (by omega)); have HP5 := Lib.hid (HP1.out.below HB5z.out); have HG5 := Lib.hid (HG1.out.below HB5z.out); have c0 := HP5.out.cell 0; have c1 := HP5.out.cell 1; have d0 := HG5.out.cell 0; have d1 := HG5.out.cell 1; have f0 := HG5.out.frozen 0; have f1 := HG5.out.frozen 1; have hsl := fun w => slice_arcs A5 n c5 w H5C.out H5M.out; clear ho5 hg5 hat5 h5c h5m hl5)))

  have HB5 := Lib.hid (HB1.out.trans (HB5z.out.mono HB1.out.size))
  have HP5 := Lib.hid (HP1.out.below HB5z.out)
  have HG5 := Lib.hid (HG1.out.below HB5z.out)
  have hs5 := HB5z.out.size
  have c0 := HP5.out.cell 0
  have c1 := HP5.out.cell 1
  have d0 := HG5.out.cell 0
  have d1 := HG5.out.cell 1
  have f0 := HG5.out.frozen 0
  have f1 := HG5.out.frozen 1
  have hsl := fun w => slice_arcs A5 n c5 w H5C.out H5M.out
  have hfin := (HG5.out.set_ 0 (.int .i64 g.n)).set_ 1 (.slice A5 n c5)
  simp only [List.setIfInBounds_toArray, List.set_cons_zero, List.set_cons_succ] at hfin
  have hkz : Kept (fun k => k = W.heap.size + 1) w5 ((w5.setCell ⟨W.heap.size + 1, 0, none⟩ (.int .i64 g.n)).setCell ⟨W.heap.size + 1, 1, none⟩ (.slice A5 n c5)) := ((Kept.refl (fun k => k = W.heap.size + 1) w5).set_ (p := ⟨W.heap.size + 1, 0, none⟩) (.inl rfl) _).set_ (p := ⟨W.heap.size + 1, 1, none⟩) (.inl rfl) _
  have hfd := hfin.below (Below.drew (Below.refl _ _))
  have hkd := hkz.trans (Kept.of_below (Below.drew (Below.refl _ _)))
  have HFIN := Lib.hid hfd
  have HKZ := Lib.hid hkd
  clear hfin hkz hfd hkd
  go_upto_region 4 with fail
  go_region
  all_goals
    generalize ((w5.setCell ⟨W.heap.size + 1, 0, none⟩ (.int .i64 g.n)).setCell ⟨W.heap.size + 1, 1, none⟩ (.slice A5 n c5)).drew = wz at *
    have r0 : wz.cell? ⟨W.heap.size + 1, 0, none⟩ = some (.int .i64 g.n) := HFIN.out.cell 0
    have r1 : wz.cell? ⟨W.heap.size + 1, 1, none⟩ = some (.slice A5 n c5) := HFIN.out.cell 1
    have hbz : Below W.heap.size W wz := HKZ.out.below HB5.out (fun k h => by omega) HB5.out.size
    have hoz : Own 54 3 encA wz W.heap.size (.slice A5 (n + 2) c5) (g.arcs ++ [sp41, sp42]) := (keptS_own HO5.out HKZ.out (fun k h => by have := (HO5.out.block h).1; omega)).mono HB1.out.size
    clear hsl
    go_wp2_with fail
    refine bodyPost_ret (v := .tuple #[.agg #[.int .i64 g.n, .slice A5 n c5], .slice A5 (n + 2) c5]) ?hres rfl ⟨A5, c5, rfl, hoz, H5C.out, H5M.out, hbz⟩
    case hres => simp [results, Tryz.results22, go_sem, r0, r1]
theorem slice_arcs2 (A : Option Addr) (n N c : Nat) (w : World) (hN : N = n + 2) (hc : N ≤ c) (hcm : c ≤ maxLen) : (Instr.slice 22 (.slice A N c) none (some (.int .i64 (n : Int))) none).run Tryz.prog w = .ok (.slice A n c) w := by
  subst hN
  exact slice_arcs A n c w hc hcm
set_option maxRecDepth 100000 in
set_option maxHeartbeats 8000000 in
theorem Kept_any (g : GrT) (A A' : Option Addr) (n N kk c : Nat) (W : World) (hn : g.arcs.length = n) (hN : N = n + 2) (hrd : RdA W A n g.arcs) (hrf : RdA W A' N (g.arcs ++ [sp41, sp42])) (hc : N ≤ c) (hcm : c ≤ maxLen) (hlen : n ≤ 5864062014805) :
    Calls Tryz.prog 23 #[.agg #[.int .i64 g.n, .slice A n kk], .slice A' N c] W (BoolBelow true W) := by
  have HN := Lib.hid hn
  have hb1 := (Below.refl W.heap.size W).alloc (Nat.le_refl _) (.cells #[.int .i64 g.n, .slice A n kk] 24)
  have hp1 := cells_new W #[.int .i64 g.n, .slice A n kk] 24
  have HB1 := Lib.hid hb1
  have HP1 := Lib.hid hp1
  have HRD1 := Lib.hid (hrd.below hb1)
  have hrf1 := hrf.below hb1
  have hsl := fun w => slice_arcs2 A' n N c w hN hc hcm
  have hw1 : IntKind.i64.wrap ((n : Int) + 1) = (n : Int) + 1 := by rw [IntKind.wrap_i64]; omega
  have hw2 : IntKind.i64.wrap ((n : Int) + 2) = (n : Int) + 2 := by rw [IntKind.wrap_i64]; omega
  have q1 : ((N : Int) == (n : Int) + 2) = true := by rw [beq_iff_eq]; omega
  have p1 : (n : Int) < (N : Int) := by omega
  have p2 : (n : Int) + 1 < (N : Int) := by omega
  have p3 : (0 : Int) ≤ (n : Int) + 1 := by omega
  have p4 : ((n : Int) + 1).toNat = n + 1 := by omega
  obtain ⟨ad, hA, cc⟩ := hrf1.2 (by omega)
  have e1 := arc_cells (j := n) (x := sp41) (fun i u hi => cc n sp41 i u (by rw [List.getElem?_append_right (by omega), hn, Nat.sub_self]; rfl) hi)
  have e2 := arc_cells (j := n + 1) (x := sp42) (fun i u hi => cc (n + 1) sp42 i u (by rw [List.getElem?_append_right (by omega), hn, show n + 1 - n = 1 by omega]; rfl) hi)
  obtain ⟨a0, a1, a2⟩ := e1
  obtain ⟨b0, b1, b2⟩ := e2
  have hrt : RdA (W.alloc (.cells #[.int .i64 g.n, .slice A n kk] 24)) A' n g.arcs := by
    have h := hrf1.take (k := n) (by omega)
    rw [List.take_left' hn] at h
    exact h
  have HRT1 := Lib.hid hrt
  subst hA
  unfold sp41 at a0 a1 a2
  unfold sp42 at b0 b1 b2
  dsimp only at a0 a1 a2 b0 b1 b2
  clear hb1 hp1 hrd hrf hrf1 cc hrt hn hN hc hcm
  go_enter Tryz.func23, Tryz.ntmps23
  go_upto_region 1 with fail
  generalize W.alloc (.cells #[.int .i64 g.n, .slice A n kk] 24) = w1 at *
  have c0 := HP1.out.cell 0
  have c1 : w1.cell? ⟨W.heap.size, 1, none⟩ = some (.slice A n kk) := HP1.out.cell 1
  go_upto_region 2 with fail
  have HX : Hid (Below w1.heap.size w1 w1) := Lib.hid (Below.refl _ _)
  have HS : Hid (∀ w, Below w1.heap.size w1 w → Calls Tryz.prog 37 #[.slice (some ad) n c, .slice A n kk] w (BoolBelow true w)) := Lib.hid (fun w hb => SameArcs_eq (some ad) A n c kk g.arcs w (HRT1.out.below hb) (HRD1.out.below hb) (by omega))
  go_region_held3 (fun w' => (w'.cell? ⟨W.heap.size, 1, none⟩ = some (.slice A n kk)) ∧ (w'.cell? (ad.add (n * 3)) = some (.int .i64 41) ∧ w'.cell? ⟨(ad.add (n * 3)).block, (ad.add (n * 3)).off + 1, none⟩ = some (.int .i64 0) ∧ w'.cell? ⟨(ad.add (n * 3)).block, (ad.add (n * 3)).off + 2, none⟩ = some (.int .i64 0)) ∧ (w'.cell? (ad.add ((n + 1) * 3)) = some (.int .i64 42) ∧ w'.cell? ⟨(ad.add ((n + 1) * 3)).block, (ad.add ((n + 1) * 3)).off + 1, none⟩ = some (.int .i64 0) ∧ w'.cell? ⟨(ad.add ((n + 1) * 3)).block, (ad.add ((n + 1) * 3)).off + 2, none⟩ = some (.int .i64 0))) (first | with_reducible exact ⟨c1, ⟨a0, a1, a2⟩, b0, b1, b2⟩ | go_keep) (first
    | (go_at_call 37; (with_reducible refine (HS.out _ (by first | exact HX.out | exact HX.out.drew)).mono ?_); rintro e v0 ⟨rfl, hb5⟩; have c1 := cell_below hb5 c1; have a0 := cell_below hb5 a0; have a1 := cell_below hb5 a1; have a2 := cell_below hb5 a2; have b0 := cell_below hb5 b0; have b1 := cell_below hb5 b1; have b2 := cell_below hb5 b2; have HX : Hid (Below w1.heap.size w1 v0) := Lib.hid (by first | exact HX.out.trans (hb5.mono HX.out.size) | exact HX.out.drew.trans (hb5.mono HX.out.drew.size)); clear hb5))
  all_goals
    go_wp2_with fail
    go_ret
    exact ⟨rfl, HB1.out.trans ((by first | exact HX.out | exact HX.out.drew : Below w1.heap.size w1 _).mono HB1.out.size)⟩
end Go.Proofs.YtngihiebkbheaaaGreatDoor
