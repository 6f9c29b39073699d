/- FaultMemory. -/
import Derived.Test.YtkncgpnnilcicaaDoorFaRecs
set_option linter.unusedSimpArgs false
set_option linter.unusedVariables false
namespace Go.Proofs.YtkncgpnnilcicaaDoor
open Go.RowKit Go.Extern.Stop Go.Stop Go.Extern

theorem flat_set2 : ∀ (l : List (Int × Int)) (j : Nat) (x : Int × Int), j < l.length → ((l.flatMap places).set (j * 2) (.int .i64 x.1)).set (j * 2 + 1) (.int .i64 x.2) = (l.set j x).flatMap places
  | [], _, _, h => by simp at h
  | y :: r, 0, x, _ => by simp
  | y :: r, j + 1, x, h => by
    have ih := flat_set2 r j x (by simpa using h)
    rw [show (j + 1) * 2 = j * 2 + 1 + 1 by omega]
    simp only [List.flatMap_cons, places, List.set_cons_succ, List.cons_append, List.nil_append]
    rw [ih]
theorem own_set2 {w : World} {base g cap : Nat} {l : List (Int × Int)} {n : Nat} (h : OwnP w base (.slice (some ⟨g, 0, none⟩) n cap) l) (j : Nat) (hj : j < l.length) (x : Int × Int) :
    OwnP ((w.setCell ⟨g, j * 2, none⟩ (.int .i64 x.1)).setCell ⟨g, j * 2 + 1, none⟩ (.int .i64 x.2)) base (.slice (some ⟨g, 0, none⟩) n cap) (l.set j x) := by
  have hn : n = l.length := by
    obtain ⟨A, c, hv, _⟩ := h.form
    injection hv
  subst hn
  have h2 := (World.ownsRow.stored (World.ownsRow.stored h (j * 2) (.int .i64 x.1)).1 (j * 2 + 1) (.int .i64 x.2)).1
  rw [flat_set2 l j x hj] at h2
  show World.ownsRow _ _ _ _ _ (l.set j x).length _
  rw [List.length_set]
  exact h2
theorem own_some {w : World} {base : Nat} {v : Value} {l : List (Int × Int)} (h : OwnP w base v l) (h0 : 0 < l.length) : ∃ g c, v = .slice (some ⟨g, 0, none⟩) l.length c ∧ base ≤ g ∧ l.length ≤ c ∧ c ≤ maxLen := by
  rcases h.2 with ⟨_, hz⟩ | ⟨g, cap, cur, hv, hb, _, hn, hm, _⟩
  · omega
  · exact ⟨g, cap, hv, hb, hn, hm⟩
theorem linkC_told {ps : List (Int × Int)} {E : Core} {c : Int} {other : Bool} (h : CoreIs c other E) : linkC ps E = toldC ps c := by
  unfold linkC toldC
  rw [h.code]
theorem Kept.of_grown {w w' : World} {row : Option Nat} (h : w.grownBy w' row) : Kept (fun k => row = some k) w w' :=
  ⟨h.1, h.2, h.3, h.4, fun k hk hs => h.5 k hk (fun e => hs e.symm)⟩
theorem Kept.grown {w w' : World} {row : Option Nat} (h : Kept (fun k => row = some k) w w') : w.grownBy w' row :=
  ⟨h.os, h.tape, h.output, h.size, fun k hk hs => h.block k hk (fun e => hs e.symm)⟩
theorem own_apart {α : Type} {w : World} {b : Nat} {e sz : Nat} {enc : α → List Value} {v v' : Value} {l : List α} (h : Own e sz enc w b v l) (hlt : ∀ k, v'.ownBlock = some k → k < b) : v.ownBlock = none ∨ v.ownBlock ≠ v'.ownBlock := by
  cases hv : v.ownBlock with
  | none => exact .inl rfl
  | some k => exact .inr fun hk => by have := (h.block hv).1; have := hlt k hk.symm; omega
theorem fieldErr1 (c : Int) (A : Option Addr) (n k : Nat) (w : World) : (Instr.field 46 (.agg #[.int .i64 c, .slice A n k]) 1).run Tryd.prog w = .ok (.slice A n k) w := by kernel_rfl
theorem fieldErr0 (c : Int) (A : Option Addr) (n k : Nat) (w : World) : (Instr.field 46 (.agg #[.int .i64 c, .slice A n k]) 0).run Tryd.prog w = .ok (.int .i64 c) w := by kernel_rfl
set_option maxRecDepth 100000 in
theorem FaultMemory_walk (a0 : Option Addr) (len0 cap0 : Nat) (z0 : List (Int × Int)) (a1 : Int) (W : World) (w0 : IsPlaces W a0 len0 cap0 z0) (w1 : (Lit.int .i64 a1).wf = true) (hg : ErrT W) (ht : Tab W) :
    Calls Tryd.prog 5 #[.slice a0 len0 cap0, .int .i64 a1] W fun e w' => e = .returned (.bool true) ∧ Below W.heap.size W w' := by
  obtain ⟨hrd, hin, hcap, hmax⟩ := w0
  simp only [maxLen] at hmax
  have HRD := Lib.hid hrd
  have HG := Lib.hid hg
  have HT := Lib.hid ht
  clear hrd hin hg ht w1
  have fE := fieldErr1
  obtain ⟨qs, hqs⟩ : ∃ qs, linkPs z0 = qs := ⟨_, rfl⟩
  have hql : qs.length ≤ 64 := by rw [← hqs]; exact linkPs_len z0
  generalize hn : qs.length = n at hql
  have HQS := Lib.hid hqs
  have HN := Lib.hid hn
  clear hqs hn
  go_enter Tryd.func5, Tryd.ntmps5
  go_wp2_with fail
  refine (awake_any HG.out HT.out).mono ?_
  rintro e w1 ⟨rfl, hb⟩
  have HB1 := Lib.hid hb
  clear hb
  go_wp2_with fail
  refine (Chain_any a0 len0 cap0 z0 a1 false w1 (HRD.out.below HB1.out) (by omega)).mono ?_
  rintro e w2 ⟨E, hE, v, rfl, hw, hb⟩
  have HE := Lib.hid hE
  have HW2 := Lib.hid hw
  have HB2 := Lib.hid (HB1.out.trans (hb.mono HB1.out.size))
  clear hE hw hb
  go_wp2_with fail
  refine (Told_any a0 len0 cap0 z0 a1 w2 (HRD.out.below HB2.out) hcap (by omega)).mono ?_
  rintro e w3 ⟨vw, rfl, how, hb⟩
  rw [HQS.out] at how
  obtain ⟨Aw, cw, rfl, hwc, hwm⟩ := how.form
  rw [HN.out] at how ⊢
  have HOW3 := Lib.hid how
  have HW3 := Lib.hid (HW2.out.keep hb)
  have HB3 := Lib.hid (HB2.out.trans (hb.mono HB2.out.size))
  clear how hb hwc hwm
  go_wp2_with fail
  refine (Places_any E v z0 HW3.out).mono ?_
  rintro e w4 ⟨pv, rfl, hop, hb⟩
  rw [HQS.out] at hop
  have HOP4 := Lib.hid hop
  have HB34 := Lib.hid hb
  have HW4 := Lib.hid (HW3.out.keep hb)
  have HB4 := Lib.hid (HB3.out.trans (hb.mono HB3.out.size))
  clear hop hb
  go_wp2_with fail
  refine (Places_any E v z0 HW4.out).mono ?_
  rintro e w5 ⟨qv, rfl, hoq, hb⟩
  rw [HQS.out] at hoq
  obtain ⟨Aq, cq, rfl, hqc, hqm⟩ := hoq.form
  rw [HN.out] at hoq ⊢
  have HOQ5 := Lib.hid hoq
  have HB45 := Lib.hid hb
  have hop5 := HOP4.out.below hb
  obtain ⟨Ap, cp, rfl, hpc, hpm⟩ := hop5.form
  rw [HN.out] at hop5 ⊢
  have HOP5 := Lib.hid hop5
  have HB35 := Lib.hid (HB34.out.trans (HB45.out.mono HB34.out.size) : Below w3.heap.size w3 w5)
  have HPB : Hid (∀ k, (Value.slice Ap n cp).ownBlock = some k → w3.heap.size ≤ k ∧ k < w4.heap.size) := Lib.hid fun k hk => by have h := HOP4.out; rw [HN.out] at h; exact h.block hk
  clear hoq hb hqc hqm hpc hpm hop5 HOP4
  go_wp2_with fail
  go_loopw [26] (fun iv wr => ∃ (j : Nat) (l : List (Int × Int)), j ≤ n ∧ l.length = n ∧ iv = .int .i64 j ∧ OwnP wr w3.heap.size (.slice Ap n cp) l ∧ Kept (fun k => (Value.slice Ap n cp).ownBlock = some k) w5 wr) (fun iv _ => n - (intOf iv).toNat)
  case atStart => exact ⟨0, qs, by omega, HN.out, rfl, HOP5.out, Kept.refl _ _⟩
  case round =>
    obtain ⟨j, l, hj, hl, rfl, ho, hk⟩ := hrel
    have HO := Lib.hid ho
    have HK := Lib.hid hk
    have HL := Lib.hid hl
    clear ho hk hl
    by_cases hlt : j < n
    · obtain ⟨g, c', hv, hbg, hlc, hcm⟩ := own_some HO.out (by have := HL.out; omega)
      injection hv with h1 h2 h3
      subst h1 h3
      have ho := HO.out
      have hh := HL.out
      rw [show n = l.length by omega] at ho
      have hnc : n ≤ cp := by have := HL.out; omega
      have e0 := (World.ownsRow.cellAt ho (j * 2) (by omega)).trans (flat_get (enc := places) places_len l j 0 (by omega))
      have e1 := (World.ownsRow.cellAt ho (j * 2 + 1) (by omega)).trans (flat_get (enc := places) places_len l j 1 (by omega))
      have f0 := World.ownsRow.frozenAt ho (j * 2)
      have f1 := World.ownsRow.frozenAt ho (j * 2 + 1)
      have hgx := List.getElem?_eq_getElem (show j < l.length by omega)
      generalize l[j]'(by omega) = x at hgx
      rw [hgx] at e0 e1
      replace e0 : wr.cell? ⟨g, j * 2, none⟩ = some (.int .i64 x.1) := e0
      replace e1 : wr.cell? ⟨g, j * 2 + 1, none⟩ = some (.int .i64 x.2) := e1
      clear hgx hh ho h2
      go_wp2_with fail
      go_roundw
      case rel => exact ⟨j + 1, l.set j (9, -9), by omega, by rw [List.length_set]; exact HL.out, by go_num, own_set2 HO.out j (by have := HL.out; omega) (9, -9), (HK.out.set_ (p := ⟨g, j * 2, none⟩) (.inl rfl) _).set_ (p := ⟨g, j * 2 + 1, none⟩) (.inl rfl) _⟩
      case measure => simp [intOf]; omega
    · obtain rfl : j = n := by omega
      have HS : Hid (w5.heap.size ≤ wr.heap.size) := Lib.hid HK.out.size
      have HB45S : Hid (w3.heap.size ≤ w5.heap.size) := Lib.hid HB35.out.size
      go_wp2_with (at_builtin; go_loud (refine wpList_append_rd rfl (.tmp 34) (.tmp 37) 23 rfl 34 (.agg #[.int .i64 0, .int .i64 0]) 16 Tryd.underlying23 info_place rfl (by omega) (by omega) places_len places_one w3.heap.size _ l rfl (HO.out.below ((Below.refl _ _).alloc (Nat.le_refl _) _)) _ 2 2 [((0, 0) : Int × Int), (0, 0)] rfl (rd_new places_len wr _ [((0, 0) : Int × Int), (0, 0)]) (by rw [HL.out]; omega) (by have := HS.out; have := HB45S.out; simp; omega) ?_; intro v6 w6 ho6 hg6 hat6; obtain ⟨A6, c6, rfl, h6c, h6m⟩ := ho6.form; have hl6 : (l ++ [((0, 0) : Int × Int), (0, 0)]).length = j + 2 := (by rw [List.length_append, HL.out]; rfl); rw [hl6] at ho6 ⊢; have HK6 : Hid (Kept (fun k => (Value.slice Ap j cp).ownBlock = some k) w5 w6) := Lib.hid ((HK.out.alloc _).trans (Kept.of_grown hg6)); clear ho6 hg6 hat6 h6c h6m hl6))
      have HB36 := Lib.hid (HK6.out.below HB35.out (fun k hk => (HPB.out k hk).1) HB35.out.size)
      have HOQ6 : Hid (OwnP w6 w4.heap.size (.slice Aq j cq) qs) := Lib.hid (HOQ5.out.kept HK6.out.grown (own_apart HOQ5.out fun k hk => (HPB.out k hk).2))
      have HOW6 : Hid (OwnP w6 w2.heap.size (.slice Aw j cw) qs) := Lib.hid (HOW3.out.below HB36.out)
      have HW6 := Lib.hid (HW3.out.keep HB36.out)
      have HB6 := Lib.hid (HB3.out.trans (HB36.out.mono HB3.out.size))
      refine (Alike_any Aq Aw j j cq cw qs qs w6 (HOQ6.out.rd places_len rfl) (HOW6.out.rd places_len rfl) (by omega) (by omega)).mono ?_
      rintro e w7 ⟨rfl, hb⟩
      rw [decide_eq_true rfl]
      have HOW7 := Lib.hid (HOW6.out.below hb)
      have HW7 := Lib.hid (HW6.out.keep hb)
      have HB7 := Lib.hid (HB6.out.trans (hb.mono HB6.out.size))
      clear hb
      go_wp2_with fail
      refine (Places_any E v z0 HW7.out).mono ?_
      rintro e w8 ⟨rv, rfl, hor, hb⟩
      rw [HQS.out] at hor
      obtain ⟨Ar, cr, rfl, hrc, hrm⟩ := hor.form
      rw [HN.out] at hor ⊢
      have HOR8 := Lib.hid hor
      have HOW8 := Lib.hid (HOW7.out.below hb)
      have HB8 := Lib.hid (HB7.out.trans (hb.mono HB7.out.size))
      clear hor hrc hrm hb
      go_wp2_with fail
      refine (Alike_any Ar Aw j j cr cw qs qs w8 (HOR8.out.rd places_len rfl) (HOW8.out.rd places_len rfl) (by omega) (by omega)).mono ?_
      rintro e w9 ⟨rfl, hb⟩
      rw [decide_eq_true rfl]
      have HB9 := Lib.hid (HB8.out.trans (hb.mono HB8.out.size))
      clear hb
      go_wp2_with fail
      go_ret
      exact ⟨rfl, HB9.out⟩
end Go.Proofs.YtkncgpnnilcicaaDoor
