/- The law StampAges: two stamps, with unlike first ages, answer alike for ever. -/
import Derived.Test.YteejmocdagdeeaaLaws2
import Derived.Deep.RegionHeld3
set_option linter.unusedSimpArgs false
set_option linter.unusedVariables false
namespace Go.Proofs.Yteejmocdagdeeaa
open Go.RowKit

structure OpT where
  kind : Int
  i : Int
  v : Int
abbrev encO (o : OpT) : List Value := [.int .u8 o.kind, .int .i64 o.i, .int .u64 o.v]
theorem encO_len : ∀ o, (encO o).length = 3 := fun _ => rfl
def OkOp (o : OpT) : Prop := (Lit.int .u8 o.kind).wf = true ∧ (Lit.int .i64 o.i).wf = true ∧ (Lit.int .u64 o.v).wf = true
theorem OkOp.i64 {o : OpT} (h : OkOp o) : -9223372036854775808 ≤ o.i ∧ o.i ≤ 9223372036854775807 := by
  simpa [Lit.wf, IntKind.min, IntKind.max, IntKind.signed, IntKind.bits] using h.2.1
/-- a script that came in -/
def IsOps (w : World) (a : Option Addr) (len cap : Nat) (l : List OpT) : Prop := Rd 3 encO w a len l ∧ (∀ o ∈ l, OkOp o) ∧ len ≤ cap ∧ cap ≤ maxLen

/-- what is set last at i by a piece of a script -/
def step (n : Nat) (i : Int) (acc : Option Int) (o : OpT) : Option Int := if o.kind = 1 ∧ o.i = i ∧ 0 ≤ i ∧ i < n then some o.v else acc
def hits (n : Nat) (i : Int) (s : List OpT) : Option Int := s.foldl (step n i) none
def stepM (m : List (Option Int)) (o : OpT) : List (Option Int) := if o.kind = 1 then put m o.i o.v else m
def sets (n : Nat) (s : List OpT) : List (Option Int) := s.foldl stepM (empty n)
theorem stepM_len (m : List (Option Int)) (o : OpT) : (stepM m o).length = m.length := by unfold stepM; split <;> simp [put_len]
theorem look_put (m : List (Option Int)) (k i v : Int) : look (put m k v) i = if k = i ∧ 0 ≤ i ∧ i < m.length then some v else look m i := by
  unfold look put
  by_cases hi : 0 ≤ i
  · by_cases hk : 0 ≤ k
    · rw [if_pos hk, if_pos hi, if_pos hi, List.getD_eq_getElem?_getD, List.getD_eq_getElem?_getD, List.getElem?_set]
      by_cases e : k = i
      · subst e
        by_cases hl : k.toNat < m.length
        · rw [if_pos rfl, if_pos hl, if_pos (by omega)]; rfl
        · rw [if_pos rfl, if_neg hl, if_neg (by omega), List.getElem?_eq_none (by omega)]
      · rw [if_neg (by omega), if_neg (by omega)]
    · rw [if_neg hk, if_pos hi, if_neg (by omega)]
  · rw [if_neg hi, if_neg hi, if_neg (by omega)]
theorem sets_fold (n : Nat) (i : Int) : ∀ (s : List OpT) (m : List (Option Int)), m.length = n → look (s.foldl stepM m) i = s.foldl (step n i) (look m i) ∧ (s.foldl stepM m).length = n
  | [], m, h => ⟨rfl, h⟩
  | o :: s, m, h => by
    simp only [List.foldl_cons]
    have hl : (stepM m o).length = n := by rw [stepM_len, h]
    have e : look (stepM m o) i = step n i (look m i) o := by
      unfold stepM step
      by_cases hk : o.kind = 1
      · rw [if_pos hk, look_put, h]
        by_cases hc : o.i = i ∧ 0 ≤ i ∧ i < n
        · rw [if_pos hc, if_pos ⟨hk, hc⟩]
        · rw [if_neg hc, if_neg (fun hh => hc hh.2)]
      · rw [if_neg hk, if_neg (fun hh => hk hh.1)]
    rw [← e]
    exact sets_fold n i s _ hl
theorem look_sets (n : Nat) (i : Int) (s : List OpT) : look (sets n s) i = hits n i s := by
  unfold sets hits
  rw [(sets_fold n i s (empty n) List.length_replicate).1, look_empty]
theorem sets_len (n : Nat) (s : List OpT) : (sets n s).length = n := (sets_fold n 0 s (empty n) List.length_replicate).2
theorem sets_snoc (n : Nat) (s : List OpT) (o : OpT) : sets n (s ++ [o]) = stepM (sets n s) o := by unfold sets; rw [List.foldl_append]; rfl
theorem hits_snoc (n : Nat) (i : Int) (s : List OpT) (o : OpT) : hits n i (s ++ [o]) = step n i (hits n i s) o := by unfold hits; rw [List.foldl_append]; rfl
theorem hits_out (n : Nat) (i : Int) (s : List OpT) (h : ¬ (0 ≤ i ∧ i < n)) : hits n i s = none := by
  unfold hits
  have : ∀ (s : List OpT), s.foldl (step n i) none = none := by
    intro s
    induction s with
    | nil => rfl
    | cons o s ih => rw [List.foldl_cons, show step n i none o = none by unfold step; rw [if_neg (fun hh => h hh.2.2)]]; exact ih
  exact this s
theorem take_seg {l : List OpT} {q j : Nat} (hq : q ≤ j) (hj : j < l.length) : (l.take (j + 1)).drop q = (l.take j).drop q ++ [l[j]] := by
  rw [List.take_succ_eq_append_getElem hj, List.drop_append_of_le_length (by rw [List.length_take]; omega)]

theorem Touch.cells {b g k : Nat} {w w' : World} (h : Touch b g w w') (h1 : k ≠ b) (h2 : k ≠ g) {cs : Array Value} {t : TypeId} (hc : Cells w k cs t) : Cells w' k cs t := (h.block k h1 h2).trans hc
/-- Two stamps which hold the same. -/
structure Pair (w0 w : World) (b g b' g' : Nat) (m : List (Option Int)) : Prop where
  s1 : St w b g m
  s2 : St w b' g' m
  bel : Below w0.heap.size w0 w
structure Apart2 (w0 : World) (b g b' g' : Nat) : Prop where
  lb : w0.heap.size ≤ b
  lg : w0.heap.size ≤ g
  lb' : w0.heap.size ≤ b'
  lg' : w0.heap.size ≤ g'
  bb : b ≠ b'
  bg : b ≠ g'
  gb : g ≠ b'
  gg : g ≠ g'
theorem Pair.below {w0 w w' : World} {b g b' g' : Nat} {m : List (Option Int)} (h : Pair w0 w b g b' g' m) (hb : Below w.heap.size w w') : Pair w0 w' b g b' g' m :=
  ⟨h.s1.below hb, h.s2.below hb, h.bel.trans (hb.mono h.bel.size)⟩

/-- A struct of three cells in a row, its cells spelt as the walk spells them. -/
theorem three_cells {w : World} {ad : Addr} {j : Nat} {o : OpT} (h : ∀ i u, (encO o)[i]? = some u → w.cell? (ad.add (j * 3 + i)) = some u) :
    w.cell? (ad.add (j * 3)) = some (.int .u8 o.kind) ∧ w.cell? ⟨(ad.add (j * 3)).block, (ad.add (j * 3)).off + 1, none⟩ = some (.int .i64 o.i) ∧ w.cell? ⟨(ad.add (j * 3)).block, (ad.add (j * 3)).off + 2, none⟩ = some (.int .u64 o.v) := by
  have h0 := h 0 _ rfl
  have h1 := h 1 _ rfl
  have h2 := h 2 _ rfl
  rw [← add_of_add] at h1 h2
  rw [Nat.add_zero] at h0
  exact ⟨h0, h1, h2⟩
set_option maxHeartbeats 4000000 in
set_option maxRecDepth 100000 in
theorem StampAges_walk (a0 a1 a2 : Int) (a3 : Option Addr) (len3 cap3 : Nat) (l3 : List OpT) (w : World) (w0 : (Lit.int .i64 a0).wf = true) (w1 : (Lit.int .u32 a1).wf = true) (w2 : (Lit.int .u32 a2).wf = true)
    (hz : IsOps w a3 len3 cap3 l3) :
    Calls Try.prog 3 #[.int .i64 a0, .int .u32 a1, .int .u32 a2, .slice a3 len3 cap3] w (BoolBelow true w) := by
  have h0 : -9223372036854775808 ≤ a0 ∧ a0 ≤ 9223372036854775807 := by simpa [Lit.wf, IntKind.min, IntKind.max, IntKind.signed, IntKind.bits] using w0
  have h1 : 0 ≤ a1 ∧ a1 ≤ 4294967295 := by simpa [Lit.wf, IntKind.min, IntKind.max, IntKind.signed, IntKind.bits] using w1
  have h2 : 0 ≤ a2 ∧ a2 ≤ 4294967295 := by simpa [Lit.wf, IntKind.min, IntKind.max, IntKind.signed, IntKind.bits] using w2
  obtain ⟨hr, hok, hlc, hcm⟩ := hz
  have hy : len3 ≤ 9223372036854775807 := by simp only [maxLen] at hcm; omega
  have HR := Lib.hid hr
  have HK := Lib.hid hok
  have HL := Lib.hid hr.1
  clear w0 w1 w2 hr hok
  by_cases hn : 1 ≤ a0 ∧ a0 ≤ 100
  · obtain ⟨n, rfl⟩ : ∃ n : Nat, a0 = n := ⟨a0.toNat, by omega⟩
    go_enter Try.func3, Try.ntmps3
    go_wp2_with fail
    refine (awake_any w).mono ?_
    rintro e w1 ⟨rfl, hb1⟩
    have B1 := Lib.hid hb1
    clear hb1
    go_wp2_with fail
    refine (New_ex n _ w1 (by omega) h1.1 h1.2).mono ?_
    rintro e w2 ⟨b, g, rfl, hs2, hb2, hlb, hlg⟩
    go_wp2_with fail
    refine (New_ex n _ w2 (by omega) h2.1 h2.2).mono ?_
    rintro e w3 ⟨b', g', rfl, hs3, hb3, hlb', hlg'⟩
    have HP : Hid (Pair w w3 b g b' g' (empty n) ∧ Apart2 w b g b' g') := Lib.hid (by
      have h12 : Below w.heap.size w w2 := B1.out.trans (hb2.mono B1.out.size)
      have h13 : Below w.heap.size w w3 := h12.trans (hb3.mono h12.size)
      have := hs2.lt
      have s1 := B1.out.size
      have s2 := h12.size
      exact ⟨⟨hs2.below hb3, hs3, h13⟩, by constructor <;> omega⟩)
    have HS := Lib.hid HP.out.1
    have HA := Lib.hid HP.out.2
    clear hs2 hb2 hlb hlg hs3 hb3 hlb' hlg' HP
    go_wp2_with fail
    go_loopw [13, 54] (fun t i wr => ∃ (j q : Nat), q ≤ j ∧ j ≤ len3 ∧ i = .int .i64 j ∧ t = .int .i64 q ∧ Pair w wr b g b' g' (sets n ((l3.take j).drop q))) (fun _ i _ => len3 - (intOf i).toNat)
    case atStart => exact ⟨0, 0, by omega, by omega, rfl, rfl, HS.out⟩
    case round =>
      obtain ⟨j, q, hqj, hj, rfl, rfl, hs⟩ := hrel
      clear HS
      have HS := Lib.hid hs
      clear hs
      by_cases hlt : j < len3
      · obtain ⟨ad, rfl, cc⟩ := (HR.out.below HS.out.bel).at_ hlt
        have hj3 : j < l3.length := by rw [HL.out]; exact hlt
        have hop := HK.out _ (List.getElem_mem hj3)
        have hseg := take_seg hqj hj3
        obtain ⟨c0, c1, c2⟩ := three_cells cc
        have HSEG := Lib.hid hseg
        have HOP := Lib.hid hop
        clear hseg hop cc
        generalize l3[j] = o at *
        obtain ⟨kd, oi, ov⟩ := o
        simp only [] at c0 c1 c2
        have hi64 := HOP.out.i64
        simp only [] at hi64
        obtain ⟨hi0, hi1⟩ := hi64
        have HV : Hid (Pair w (wr.alloc (.cells #[.int .u8 kd, .int .i64 oi, .int .u64 ov] 32)) b g b' g' (sets n (List.drop q (List.take j l3)))) := Lib.hid (HS.out.below ((Below.refl _ _).alloc (Nat.le_refl _) _))
        have HO : Hid (Cells (wr.alloc (.cells #[.int .u8 kd, .int .i64 oi, .int .u64 ov] 32)) wr.heap.size #[.int .u8 kd, .int .i64 oi, .int .u64 ov] 32) := Lib.hid (heap_alloc_new _ _)
        have HNE : Hid (wr.heap.size ≠ b ∧ wr.heap.size ≠ g ∧ wr.heap.size ≠ b' ∧ wr.heap.size ≠ g') := Lib.hid (by have a := HS.out.s1.lt; have b := HS.out.s2.lt; omega)
        have hlen : (sets n (List.drop q (List.take j l3))).length = n := sets_len _ _
        have HLEN := Lib.hid hlen
        clear hlen
        by_cases hk1 : kd = 1
        · subst hk1
          have HM : Hid (sets n (List.drop q (List.take (j + 1) l3)) = put (sets n (List.drop q (List.take j l3))) oi ov) := Lib.hid (by rw [HSEG.out, sets_snoc]; rfl)
          generalize sets n (List.drop q (List.take j l3)) = m at *
          clear HSEG
          by_cases hin : 0 ≤ oi ∧ oi < n
          · have g1 : decide (0 ≤ oi) = true := decide_eq_true hin.1
            have g2 : decide (oi < (n : Int)) = true := decide_eq_true hin.2
            go_wp2_with fail
            have d1 := HO.out.cell 1
            have d2 := HO.out.cell 2
            have HD : Hid (Pair w (wr.alloc (.cells #[.int .u8 1, .int .i64 oi, .int .u64 ov] 32)).drew b g b' g' m) := Lib.hid (HV.out.below ⟨rfl, rfl, rfl, Nat.le_refl _, fun _ _ => rfl⟩)
            have HOD : Hid (Cells (wr.alloc (.cells #[.int .u8 1, .int .i64 oi, .int .u64 ov] 32)).drew wr.heap.size #[.int .u8 1, .int .i64 oi, .int .u64 ov] 32) := Lib.hid HO.out
            go_region_held3 (fun w' => w'.cell? ⟨wr.heap.size, 1, none⟩ = some (.int .i64 oi) ∧ w'.cell? ⟨wr.heap.size, 2, none⟩ = some (.int .u64 ov)) (first | exact ⟨d1, d2⟩) (first
              | (go_at_call_of 8 (Value.pointer (some (Addr.mk b 0 none))); refine (Set_St HD.out.s1 oi ov (by rw [HLEN.out]; omega) hi0 hi1).mono ?_; rintro e w5 ⟨rfl, hs5, ht5⟩; rw [if_pos (by rw [HLEN.out]; exact hin)]; have HO5 := Lib.hid (ht5.cells HNE.out.1 HNE.out.2.1 HOD.out); have d1 := HO5.out.cell 1; have d2 := HO5.out.cell 2; have HV5 : Hid (St w5 b g (put m oi ov) ∧ St w5 b' g' m ∧ Below w.heap.size w w5) := Lib.hid ⟨hs5, HD.out.s2.touch ht5 HA.out.bb.symm HA.out.gb.symm HA.out.bg.symm HA.out.gg.symm, ht5.below HD.out.bel HA.out.lb HA.out.lg⟩; clear hs5 ht5)
              | (go_at_call_of 8 (Value.pointer (some (Addr.mk b' 0 none))); refine (Set_St HV5.out.2.1 oi ov (by rw [HLEN.out]; omega) hi0 hi1).mono ?_; rintro e w6 ⟨rfl, hs6, ht6⟩; rw [if_pos (by rw [HLEN.out]; exact hin)]; have HO6 := Lib.hid (ht6.cells HNE.out.2.2.1 HNE.out.2.2.2 HO5.out); have d1 := HO6.out.cell 1; have d2 := HO6.out.cell 2; have HV6 : Hid (Pair w w6 b g b' g' (put m oi ov)) := Lib.hid ⟨HV5.out.1.touch ht6 HA.out.bb HA.out.bg HA.out.gb HA.out.gg, hs6, ht6.below HV5.out.2.2 HA.out.lb' HA.out.lg'⟩; clear hs6 ht6))
            go_wp2_with (go_quiet (fail))
            go_roundw
            case rel => exact ⟨j + 1, q, by omega, by omega, by go_num, rfl, by rw [HM.out]; exact HV6.out.below ⟨rfl, rfl, rfl, Nat.le_refl _, fun _ _ => rfl⟩⟩
            case measure => simp [intOf]; omega
          · have hin' : (decide (0 ≤ oi) = true ∧ decide (oi < (n : Int)) = false) ∨ decide (0 ≤ oi) = false := by
              by_cases h : 0 ≤ oi
              · exact .inl ⟨decide_eq_true h, decide_eq_false (fun h2 => hin ⟨h, h2⟩)⟩
              · exact .inr (decide_eq_false h)
            have HIN := Lib.hid hin
            clear hin
            go_wp2_with fail
            have d1 := HO.out.cell 1
            have d2 := HO.out.cell 2
            have HD : Hid (Pair w (wr.alloc (.cells #[.int .u8 1, .int .i64 oi, .int .u64 ov] 32)).drew b g b' g' m) := Lib.hid (HV.out.below ⟨rfl, rfl, rfl, Nat.le_refl _, fun _ _ => rfl⟩)
            have HOD : Hid (Cells (wr.alloc (.cells #[.int .u8 1, .int .i64 oi, .int .u64 ov] 32)).drew wr.heap.size #[.int .u8 1, .int .i64 oi, .int .u64 ov] 32) := Lib.hid HO.out
            go_region_held3 (fun w' => w'.cell? ⟨wr.heap.size, 1, none⟩ = some (.int .i64 oi) ∧ w'.cell? ⟨wr.heap.size, 2, none⟩ = some (.int .u64 ov)) (first | exact ⟨d1, d2⟩) (first
              | (go_at_call_of 8 (Value.pointer (some (Addr.mk b 0 none))); refine (Set_St HD.out.s1 oi ov (by rw [HLEN.out]; omega) hi0 hi1).mono ?_; rintro e w5 ⟨rfl, hs5, ht5⟩; rw [if_neg (by rw [HLEN.out]; exact HIN.out)]; have HO5 := Lib.hid (ht5.cells HNE.out.1 HNE.out.2.1 HOD.out); have d1 := HO5.out.cell 1; have d2 := HO5.out.cell 2; have HV5 : Hid (St w5 b g (put m oi ov) ∧ St w5 b' g' m ∧ Below w.heap.size w w5) := Lib.hid ⟨hs5, HD.out.s2.touch ht5 HA.out.bb.symm HA.out.gb.symm HA.out.bg.symm HA.out.gg.symm, ht5.below HD.out.bel HA.out.lb HA.out.lg⟩; clear hs5 ht5)
              | (go_at_call_of 8 (Value.pointer (some (Addr.mk b' 0 none))); refine (Set_St HV5.out.2.1 oi ov (by rw [HLEN.out]; omega) hi0 hi1).mono ?_; rintro e w6 ⟨rfl, hs6, ht6⟩; rw [if_neg (by rw [HLEN.out]; exact HIN.out)]; have HO6 := Lib.hid (ht6.cells HNE.out.2.2.1 HNE.out.2.2.2 HO5.out); have d1 := HO6.out.cell 1; have d2 := HO6.out.cell 2; have HV6 : Hid (Pair w w6 b g b' g' (put m oi ov)) := Lib.hid ⟨HV5.out.1.touch ht6 HA.out.bb HA.out.bg HA.out.gb HA.out.gg, hs6, ht6.below HV5.out.2.2 HA.out.lb' HA.out.lg'⟩; clear hs6 ht6))
            rcases hin' with ⟨g1, g2⟩ | g1
            all_goals
              go_wp2_with (go_quiet (fail))
              go_roundw
              case rel => exact ⟨j + 1, q, by omega, by omega, by go_num, rfl, by rw [HM.out]; exact HV6.out.below ⟨rfl, rfl, rfl, Nat.le_refl _, fun _ _ => rfl⟩⟩
              case measure => simp [intOf]; omega
        · have hk1' : (kd == 1) = false := by rw [beq_eq_false_iff_ne]; exact hk1
          clear hk1
          by_cases hk3 : kd = 3
          · subst hk3
            clear HSEG
            go_wp2_with fail
            refine (Reset_St HV.out.s1 (by rw [HLEN.out]; omega)).mono ?_
            rintro e w5 ⟨rfl, hs5, ht5⟩
            have HV5 : Hid (St w5 b g (empty n) ∧ St w5 b' g' (sets n (List.drop q (List.take j l3))) ∧ Below w.heap.size w w5) := Lib.hid ⟨by rw [HLEN.out] at hs5; exact hs5, HV.out.s2.touch ht5 HA.out.bb.symm HA.out.gb.symm HA.out.bg.symm HA.out.gg.symm, ht5.below HV.out.bel HA.out.lb HA.out.lg⟩
            clear hs5 ht5
            go_wp2_with fail
            refine (Reset_St HV5.out.2.1 (by rw [HLEN.out]; omega)).mono ?_
            rintro e w6 ⟨rfl, hs6, ht6⟩
            have HV6 : Hid (Pair w w6 b g b' g' (empty n)) := Lib.hid ⟨HV5.out.1.touch ht6 HA.out.bb HA.out.bg HA.out.gb HA.out.gg, by rw [HLEN.out] at hs6; exact hs6, ht6.below HV5.out.2.2 HA.out.lb' HA.out.lg'⟩
            clear hs6 ht6
            have HE : Hid (sets n (List.drop (j + 1) (List.take (j + 1) l3)) = empty n) := Lib.hid (by rw [List.drop_eq_nil_of_le (by rw [List.length_take]; omega)]; rfl)
            go_wp2_with fail
            go_roundw
            case rel => exact ⟨j + 1, j + 1, by omega, by omega, by go_num, by go_num, by rw [HE.out]; exact HV6.out⟩
            case measure => simp [intOf]; omega
          · have hk3' : (kd == 3) = false := by rw [beq_eq_false_iff_ne]; exact hk3
            clear hk3
            have HM : Hid (sets n (List.drop q (List.take (j + 1) l3)) = sets n (List.drop q (List.take j l3))) := Lib.hid (by rw [HSEG.out, sets_snoc]; unfold stepM; rw [if_neg]; simpa using hk1')
            have HLK : Hid (look (sets n (List.drop q (List.take j l3))) oi = hits n oi (List.drop q (List.take j l3))) := Lib.hid (look_sets _ _ _)
            have HSL : Hid ((List.drop q (List.take j l3)).length = j - q) := Lib.hid (by rw [List.length_drop, List.length_take]; omega)
            have HSR : Hid (Rd 3 encO w (some (ad.add (q * 3))) (j - q) (List.drop q (List.take j l3))) := Lib.hid (by
              have h := (HR.out.take (k := j) (by omega)).drop (k := q) (cap := cap3) hqj (by omega)
              rw [if_neg (by omega)] at h
              exact h)
            clear HSEG
            generalize hS : sets n (List.drop q (List.take j l3)) = m at *
            have HSM := Lib.hid hS
            clear hS
            generalize List.drop q (List.take j l3) = seg at *
            go_wp2_with fail
            refine (Get_St HV.out.s1 oi (by rw [HLEN.out]; omega) hi0 hi1).mono ?_
            rintro e w5 ⟨rfl, hd5⟩
            have HV5 := Lib.hid (HV.out.below (hd5.below _))
            have HO5 := Lib.hid (HO.out.below (hd5.below _))
            have d1 := HO5.out.cell 1
            rw [HLK.out]
            clear hd5
            generalize hh : hits n oi seg = h at *
            have HH := Lib.hid hh
            clear hh
            obtain ⟨gx, gb, hg, hgx, hgb⟩ : ∃ (gx : Int) (gb : Bool), got h = .tuple #[.int .u64 gx, .bool gb] ∧ gx = h.getD 0 ∧ gb = h.isSome := by cases h <;> exact ⟨_, _, rfl, rfl, rfl⟩
            rw [hg]
            have HGX := Lib.hid hgx
            have HGB := Lib.hid hgb
            have HG := Lib.hid hg
            clear hgx hgb hg
            go_wp2_with fail
            refine (Get_St HV5.out.s2 oi (by rw [HLEN.out]; omega) hi0 hi1).mono ?_
            rintro e w6 ⟨rfl, hd6⟩
            have HV6 := Lib.hid (HV5.out.below (hd6.below _))
            have HO6 := Lib.hid (HO5.out.below (hd6.below _))
            rw [HLK.out, HG.out]
            obtain ⟨W0, rfl⟩ : ∃ W0 : World, W0 = wr := ⟨_, rfl⟩
            clear hd6 d1
            go_wp2_with fail
            go_loopw [22, 23, 80] (fun t z i W => ∃ r : Nat, r ≤ j - q ∧ i = .int .i64 r ∧ t = .bool (hits n oi (seg.take r)).isSome ∧ z = .int .u64 ((hits n oi (seg.take r)).getD 0) ∧ Below w6.heap.size w6 W) (fun _ _ i _ => j - q - (intOf i).toNat)
            case atStart => exact ⟨0, by omega, rfl, rfl, rfl, Below.refl _ _⟩
            case round =>
              obtain ⟨r, hr, rfl, rfl, rfl, hb⟩ := hrel
              have HB := Lib.hid hb
              clear hb
              by_cases hlt2 : r < j - q
              · obtain ⟨ad2, had2, cc⟩ := (HSR.out.below (HV6.out.bel.trans (HB.out.mono HV6.out.bel.size))).at_ hlt2
                injection had2 with had2
                subst had2
                have hrs : r < seg.length := by rw [HSL.out]; exact hlt2
                have HST := Lib.hid (show hits n oi (seg.take (r + 1)) = step n oi (hits n oi (seg.take r)) seg[r] by rw [List.take_succ_eq_append_getElem hrs, hits_snoc])
                obtain ⟨e0, e1, e2⟩ := three_cells cc
                clear cc
                generalize seg[r] = p at *
                obtain ⟨pk, pi, pv⟩ := p
                simp only [] at e0 e1 e2
                have HOW := Lib.hid (HO6.out.below HB.out)
                have o1 := (HOW.out.below ((Below.refl _ _).alloc (Nat.le_refl _) (.cells #[.int .u8 pk, .int .i64 pi, .int .u64 pv] 32))).cell 1
                have HOL := HOW.out.lt
                generalize hits n oi (seg.take r) = acc at *
                have BA : Hid (Below w6.heap.size w6 (wr.alloc (.cells #[.int .u8 pk, .int .i64 pi, .int .u64 pv] 32))) := Lib.hid (HB.out.alloc HB.out.size _)
                have hneg : ¬ (pk = 1 ∧ pi = oi ∧ 0 ≤ oi ∧ oi < (n : Int)) → Hid (hits n oi (seg.take (r + 1)) = acc) := fun h => Lib.hid (by rw [HST.out]; unfold step; rw [if_neg h])
                by_cases hc : pk = 1 ∧ pi = oi ∧ 0 ≤ oi ∧ oi < (n : Int)
                · have HN : Hid (hits n oi (seg.take (r + 1)) = some pv) := Lib.hid (by rw [HST.out]; unfold step; rw [if_pos hc])
                  obtain ⟨rfl, rfl, hc3, hc4⟩ := hc
                  have o2 := (cell_of_row _ _ 2 _ _ _ (heap_alloc_new wr (.cells #[.int .u8 1, .int .i64 pi, .int .u64 pv] 32))).trans (show _ = some (Value.int .u64 pv) from rfl)
                  have g1 : decide (0 ≤ pi) = true := decide_eq_true hc3
                  have g2 : decide (pi < (n : Int)) = true := decide_eq_true hc4
                  clear hneg HST
                  go_wp2_with (go_quiet (fail))
                  go_roundw
                  case rel => exact ⟨r + 1, by omega, by go_num, by rw [HN.out]; rfl, by rw [HN.out]; rfl, BA.out.trans ⟨rfl, rfl, rfl, Nat.le_refl _, fun _ _ => rfl⟩⟩
                  case measure => simp [intOf]; omega
                · have HN := hneg hc
                  have hcase : (pk == 1) = false ∨ (pk = 1 ∧ (pi == oi) = false) ∨ (pk = 1 ∧ pi = oi ∧ decide (0 ≤ oi) = false) ∨ (pk = 1 ∧ pi = oi ∧ decide (0 ≤ oi) = true ∧ decide (oi < (n : Int)) = false) := by
                    by_cases k1 : pk = 1
                    · by_cases k2 : pi = oi
                      · by_cases k3 : 0 ≤ oi
                        · exact .inr (.inr (.inr ⟨k1, k2, decide_eq_true k3, decide_eq_false fun k4 => hc ⟨k1, k2, k3, k4⟩⟩))
                        · exact .inr (.inr (.inl ⟨k1, k2, decide_eq_false k3⟩))
                      · exact .inr (.inl ⟨k1, by rw [beq_eq_false_iff_ne]; exact k2⟩)
                    · exact .inl (by rw [beq_eq_false_iff_ne]; exact k1)
                  clear hneg HST hc
                  rcases hcase with k1 | ⟨rfl, k2⟩ | ⟨rfl, rfl, k3⟩ | ⟨rfl, rfl, k3, k4⟩
                  all_goals
                    go_wp2_with fail
                    go_roundw
                    case rel => exact ⟨r + 1, by omega, by go_num, by rw [HN.out], by rw [HN.out], BA.out⟩
                    case measure => simp [intOf]; omega
              · obtain rfl : r = j - q := by omega
                have HF : Hid (hits n oi (seg.take (j - q)) = h) := Lib.hid (by rw [List.take_of_length_le (by rw [HSL.out]; omega)]; exact HH.out)
                rw [HF.out, ← HGX.out, ← HGB.out]
                go_wp2_with fail
                go_roundw
                case rel => exact ⟨j + 1, q, by omega, by omega, by go_num, rfl, by rw [HM.out]; exact HV6.out.below HB.out⟩
                case measure => simp [intOf]; omega
      · obtain rfl : j = len3 := by omega
        have HLEN : Hid ((sets n (List.drop q (List.take j l3))).length ≤ 65536) := Lib.hid (by rw [sets_len]; omega)
        generalize sets n (List.drop q (List.take j l3)) = m at *
        go_wp2_with fail
        refine (All_St HS.out.s1 HLEN.out).mono ?_
        rintro e w5 ⟨v5, rfl, ho5, hb5⟩
        obtain ⟨A5, c5, rfl, hc5, hm5⟩ := ho5.form
        have HS5 := Lib.hid (HS.out.below hb5)
        have HR5 := Lib.hid (ho5.rd i64s_len rfl)
        clear ho5 hb5 hc5 hm5
        go_wp2_with fail
        refine (All_St HS5.out.s2 HLEN.out).mono ?_
        rintro e w6 ⟨v6, rfl, ho6, hb6⟩
        obtain ⟨A6, c6, rfl, hc6, hm6⟩ := ho6.form
        have HS6 := Lib.hid (HS5.out.below hb6)
        have HR6 := Lib.hid (ho6.rd i64s_len rfl)
        have HR56 := Lib.hid (HR5.out.below hb6)
        clear ho6 hb6 hc6 hm6
        have HML : Hid ((marks m).length ≤ 65536) := Lib.hid (Nat.le_trans (picks_len _ _) HLEN.out)
        go_wp2_with fail
        refine (SameInts_any _ _ _ _ _ _ _ _ _ HR56.out HR6.out (by have := HML.out; omega)).mono ?_
        rintro e w7 ⟨rfl, hd7⟩
        rw [decide_eq_true rfl]
        have HS7 := Lib.hid (HS6.out.below (hd7.below _))
        clear hd7
        go_wp2_with fail
        refine (Len_St HS7.out.s1).mono ?_
        rintro e w8 ⟨rfl, rfl⟩
        go_wp2_with fail
        refine (Len_St HS7.out.s2).mono ?_
        rintro e w9 ⟨rfl, rfl⟩
        go_wp2
        go_ret
        exact ⟨by simp, HS7.out.bel⟩
  · go_enter Try.func3, Try.ntmps3
    go_wp2_with fail
    refine (awake_any w).mono ?_
    rintro e w1 ⟨rfl, hb1⟩
    have B1 := Lib.hid hb1
    clear hb1
    have hn' : decide (a0 < 1) = true ∨ (decide (a0 < 1) = false ∧ decide (100 < a0) = true) := by
      by_cases h : a0 < 1
      · exact .inl (decide_eq_true h)
      · exact .inr ⟨decide_eq_false h, decide_eq_true (by omega)⟩
    rcases hn' with hn' | ⟨hn', hn''⟩ <;> (go_wp2; go_ret; exact ⟨rfl, B1.out⟩)
end Go.Proofs.Yteejmocdagdeeaa
