/- A script played on a stamp and on the document's lists: each call is answered alike. -/
import Derived.Test.YteejmocdagdeeaaDoorDoor2
set_option linter.unusedSimpArgs false
set_option linter.unusedVariables false
namespace Go.Proofs.YteejmocdagdeeaaDoor
open Go.RowKit

theorem marks_len (m : List (Option Int)) : ((marks m).length : Int) = held m := by
  have h : ∀ j, j ≤ m.length → (picks (fun i => (m.getD i none).isSome) j).length = (m.take j).countP Option.isSome := by
    intro j
    induction j with
    | zero => intro _; simp [picks_zero]
    | succ j ih =>
      intro hj
      have hjm : j < m.length := by omega
      rw [picks_succ, List.length_append, ih (by omega), List.take_succ_eq_append_getElem hjm, List.countP_append]
      have e : m.getD j none = m[j] := by rw [List.getD_eq_getElem?_getD, List.getElem?_eq_getElem hjm]; rfl
      simp only [e]
      cases m[j] <;> simp
  unfold marks held
  rw [h _ (Nat.le_refl _), List.take_length]
def cOf (n : Nat) (i : Int) : Int := if 0 ≤ i ∧ i < n then 0 else 7
section
variable {w : World} {b g x y : Nat} {vs : List Int} {m : List (Option Int)}
theorem Set_c (h : St w b g m) {n : Nat} (hn : m.length = n) (i v : Int) (hm : n ≤ 65536) (h0 : -9223372036854775808 ≤ i) (h1 : i ≤ 9223372036854775807) :
    Calls Tryd.prog 13 #[.pointer (some ⟨b, 0, none⟩), .int .i64 i, .int .u64 v] w fun e w' => e = .returned (errV (cOf n i)) ∧ St w' b g (put m i v) ∧ Touch b g w w' := by
  refine (Set_St h i v (by omega) h0 h1).mono ?_
  rintro e w' ⟨rfl, hs, ht⟩
  refine ⟨?_, hs, ht⟩
  rw [hn]
  unfold cOf errV
  by_cases hc : 0 ≤ i ∧ i < n
  · rw [if_pos hc, if_pos hc]; rfl
  · rw [if_neg hc, if_neg hc]; rfl
theorem docSet_c (h : Doc w x y vs m) {n : Nat} (hn : m.length = n) (i v : Int) (hm : n ≤ 65536) (h0 : -9223372036854775808 ≤ i) (h1 : i ≤ 9223372036854775807) :
    Calls Tryd.prog 20 #[docV x y n, .int .i64 i, .int .u64 v] w fun e w' => e = .returned (toldV (cOf n i)) ∧ (∃ us, Doc w' x y us (put m i v)) ∧ Near x y w w' := by
  by_cases hc : 0 ≤ i ∧ i < n
  · obtain ⟨k, rfl⟩ : ∃ k : Nat, i = k := ⟨i.toNat, by omega⟩
    refine (docSet_in h hn (show k < n by omega) v hm).mono ?_
    rintro e w' ⟨rfl, hd, hnr⟩
    refine ⟨by unfold cOf; rw [if_pos hc]; rfl, ⟨vs.set k v, ?_⟩, hnr⟩
    unfold put
    rw [if_pos hc.1, Int.toNat_natCast]
    exact hd
  · refine (docSet_out h (by omega) v hm h0 h1).mono ?_
    rintro e w' ⟨rfl, hb⟩
    refine ⟨by unfold cOf; rw [if_neg hc], ⟨vs, ?_⟩, Near.of_below hb x y⟩
    have e : put m i v = m := by
      unfold put
      split
      · rw [List.set_eq_of_length_le (by omega)]
      · rfl
    rw [e]
    exact h.below hb
end
/-- where the two stamps lie, apart from what came in -/
structure Lie (w0 : World) (b g x y : Nat) : Prop where
  b0 : w0.heap.size ≤ b
  g0 : w0.heap.size ≤ g
  x0 : w0.heap.size ≤ x
  y0 : w0.heap.size ≤ y
  bx : b ≠ x
  bY : b ≠ y
  gx : g ≠ x
  gy : g ≠ y
/-- the two stamps hold the same; the box of the document's is there -/
structure Play (w0 w : World) (b g x y p : Nat) (m : List (Option Int)) (n : Nat) : Prop where
  st : St w b g m
  doc : ∃ vs, Doc w x y vs m
  bel : Below w0.heap.size w0 w
  box : Cells w p #[.slice (some ⟨x, 0, none⟩) n n, .slice (some ⟨y, 0, none⟩) n n] 33
theorem Play.below {w0 w w' : World} {b g x y p n : Nat} {m : List (Option Int)} (h : Play w0 w b g x y p m n) (hb : Below w.heap.size w w') : Play w0 w' b g x y p m n :=
  ⟨h.st.below hb, h.doc.imp fun _ hd => hd.below hb, h.bel.trans (hb.mono h.bel.size), h.box.below hb⟩
theorem Near.cells {x y k : Nat} {w w' : World} (h : Near x y w w') (h1 : k ≠ x) (h2 : k ≠ y) {cs : Array Value} {t : TypeId} (hc : Cells w k cs t) : Cells w' k cs t := (h.block k hc.lt h1 h2).trans hc

set_option maxHeartbeats 4000000 in
set_option maxRecDepth 100000 in
theorem play_any (w0 w : World) (b g x y n : Nat) (m : List (Option Int)) (vs : List Int) (a : Option Addr) (len cap : Nat) (l : List OpT) (hl : Lie w0 b g x y) (hs : St w b g m) (hd : Doc w x y vs m) (hbel : Below w0.heap.size w0 w)
    (hn : m.length = n) (hm : n ≤ 65536) (hz : Rd 3 encO w0 a len l) (hk : ∀ o ∈ l, OkOp o) (hlen : len ≤ maxLen) (hg : ErrT w0) :
    Calls Tryd.prog 10 #[.pointer (some ⟨b, 0, none⟩), docV x y n, .slice a len cap] w fun e w' => e = .returned (.bool true) ∧ Below w0.heap.size w0 w' := by
  have hlen2 : len ≤ 9223372036854775807 := by unfold maxLen at hlen; omega
  have HL := Lib.hid hl
  have HP : Hid (b < w.heap.size ∧ g < w.heap.size ∧ x < w.heap.size ∧ y < w.heap.size) := Lib.hid ⟨hs.lt.1, hs.lt.2, hd.nums.lt, hd.flags.lt⟩
  have HZ := Lib.hid hz
  have HK := Lib.hid hk
  have HG := Lib.hid hg
  have HS0 : Hid (Play w0 (w.alloc (.cells #[.slice (some ⟨x, 0, none⟩) n n, .slice (some ⟨y, 0, none⟩) n n] 33)) b g x y w.heap.size m n) :=
    Lib.hid ⟨hs.below ((Below.refl _ _).alloc (Nat.le_refl _) _), ⟨vs, hd.below ((Below.refl _ _).alloc (Nat.le_refl _) _)⟩, hbel.alloc hbel.size _, heap_alloc_new _ _⟩
  have HN := Lib.hid hn
  have HB0 := Lib.hid hbel
  have HM := Lib.hid hm
  clear hl hz hk hg hs hd hbel hn hlen hm
  unfold docV
  go_enter Tryd.func10, Tryd.ntmps10
  go_wp2_with fail
  go_loopw [15] (fun i wr => ∃ j : Nat, j ≤ len ∧ i = .int .i64 j ∧ ∃ m', m'.length = n ∧ Play w0 wr b g x y w.heap.size m' n) (fun i _ => len - (intOf i).toNat)
  case atStart => exact ⟨0, by omega, rfl, m, HN.out, HS0.out⟩
  case round =>
    obtain ⟨j, hj, rfl, m', hm', hp⟩ := hrel
    have HM' := Lib.hid hm'
    have HY := Lib.hid hp
    clear hm' hp HS0
    by_cases hlt : j < len
    · obtain ⟨ad, hA, cc⟩ := (HZ.out.below HY.out.bel).at_ hlt
      subst hA
      have hjl : j < l.length := by have := HZ.out.1; omega
      have hop := HK.out _ (List.getElem_mem hjl)
      obtain ⟨c0, c1, c2⟩ := three_cells cc
      have HOP := Lib.hid hop
      clear hop cc
      generalize l[j] = o at *
      obtain ⟨kd, oi, ov⟩ := o
      simp only [] at c0 c1 c2
      have hi64 := HOP.out.i64
      simp only [] at hi64
      obtain ⟨hi0, hi1⟩ := hi64
      have HO : Hid (Cells (wr.alloc (.cells #[.int .u8 kd, .int .i64 oi, .int .u64 ov] 67)) wr.heap.size #[.int .u8 kd, .int .i64 oi, .int .u64 ov] 67) := Lib.hid (heap_alloc_new _ _)
      have HV : Hid (Play w0 (wr.alloc (.cells #[.int .u8 kd, .int .i64 oi, .int .u64 ov] 67)) b g x y w.heap.size m' n) := Lib.hid (HY.out.below ((Below.refl _ _).alloc (Nat.le_refl _) _))
      have HSZ : Hid (w.heap.size < wr.heap.size) := Lib.hid HY.out.box.lt
      have HML : Hid (m'.length ≤ 65536) := Lib.hid (by rw [HM'.out]; exact HM.out)
      have HNE : Hid (wr.heap.size ≠ b ∧ wr.heap.size ≠ g ∧ wr.heap.size ≠ x ∧ wr.heap.size ≠ y) := Lib.hid (by have := HP.out; have := HSZ.out; omega)
      have HNP : Hid (w.heap.size ≠ b ∧ w.heap.size ≠ g ∧ w.heap.size ≠ x ∧ w.heap.size ≠ y) := Lib.hid (by have := HP.out; omega)
      by_cases k1 : kd = 1
      · subst k1
        go_wp2_with fail
        have d1 := HO.out.cell 1
        have d2 := HO.out.cell 2
        have d3 := HV.out.box.cell 0
        have d4 := HV.out.box.cell 1
        have HVD : Hid (Play w0 (wr.alloc (.cells #[.int .u8 1, .int .i64 oi, .int .u64 ov] 67)).drew b g x y w.heap.size m' n) := Lib.hid (HV.out.below ⟨rfl, rfl, rfl, Nat.le_refl _, fun _ _ => rfl⟩)
        have HOD : Hid (Cells (wr.alloc (.cells #[.int .u8 1, .int .i64 oi, .int .u64 ov] 67)).drew wr.heap.size #[.int .u8 1, .int .i64 oi, .int .u64 ov] 67) := Lib.hid HO.out
        go_region_held3 (fun w' => w'.cell? ⟨wr.heap.size, 1, none⟩ = some (.int .i64 oi) ∧ w'.cell? ⟨wr.heap.size, 2, none⟩ = some (.int .u64 ov) ∧ w'.cell? ⟨w.heap.size, 0, none⟩ = some (.slice (some ⟨x, 0, none⟩) n n) ∧ w'.cell? ⟨w.heap.size, 1, none⟩ = some (.slice (some ⟨y, 0, none⟩) n n)) (first | exact ⟨d1, d2, d3, d4⟩) (first
          | (go_at_call 13; refine (Set_c HVD.out.st HM'.out oi ov HM.out hi0 hi1).mono ?_; rintro e w5 ⟨rfl, hs5, ht5⟩; have HO5 := Lib.hid (ht5.cells HNE.out.1 HNE.out.2.1 HOD.out); have HX5 := Lib.hid (ht5.cells HNP.out.1 HNP.out.2.1 HVD.out.box); have HD5 := Lib.hid (HVD.out.doc.imp fun _ hd => hd.touch ht5 HL.out.bx.symm HL.out.gx.symm HL.out.bY.symm HL.out.gy.symm); have HB5 := Lib.hid (ht5.below HVD.out.bel HL.out.b0 HL.out.g0); have HS5 := Lib.hid hs5; have d1 := HO5.out.cell 1; have d2 := HO5.out.cell 2; have d3 := HX5.out.cell 0; have d4 := HX5.out.cell 1; clear hs5 ht5)
          | (go_at_call 20; obtain ⟨vs5, hd5⟩ := HD5.out; refine (docSet_c hd5 HM'.out oi ov HM.out hi0 hi1).mono ?_; rintro e w6 ⟨rfl, hd6, hn6⟩; have HO6 := Lib.hid (hn6.cells HNE.out.2.2.1 HNE.out.2.2.2 HO5.out); have HV6 : Hid (Play w0 w6 b g x y w.heap.size (put m' oi ov) n) := Lib.hid ⟨HS5.out.near hn6 HL.out.bx HL.out.bY HL.out.gx HL.out.gy, hd6, hn6.below HB5.out HL.out.x0 HL.out.y0 HB5.out.size, hn6.cells HNP.out.2.2.1 HNP.out.2.2.2 HX5.out⟩; have d1 := HO6.out.cell 1; have d2 := HO6.out.cell 2; have d3 := HV6.out.box.cell 0; have d4 := HV6.out.box.cell 1; clear hd6 hn6 hd5)
          | (go_at_call 8; refine (Same_told _ _ (HG.out.below HV6.out.bel)).mono ?_; rintro e w7 ⟨rfl, hb7⟩; have HO7 := Lib.hid (HO6.out.below hb7); have HV7 := Lib.hid (HV6.out.below hb7); have d1 := HO7.out.cell 1; have d2 := HO7.out.cell 2; have d3 := HV7.out.box.cell 0; have d4 := HV7.out.box.cell 1; clear hb7))
        go_wp2_with (go_quiet (fail))
        go_roundw
        case rel => exact ⟨j + 1, by omega, by go_num, _, by rw [put_len, HM'.out], HV7.out⟩
        case measure => simp [intOf]; omega
      · by_cases k2 : kd = 2
        · subst k2
          have hr := HM'.out
          cases hq : look m' oi with
          | none =>
            have HQ := Lib.hid hq
            clear hq k1 hr
            have o1 := HO.out.cell 1
            go_wp2_with fail
            refine (Get_St HV.out.st oi HML.out hi0 hi1).mono ?_
            rintro e w5 ⟨rfl, hd5⟩
            rw [HQ.out]
            simp only [got]
            have HO5 := Lib.hid (HO.out.below (hd5.below _))
            have HV5 := Lib.hid (HV.out.below (hd5.below _))
            clear hd5
            have o1 := HO5.out.cell 1
            have b0 := HV5.out.box.cell 0
            have b1 := HV5.out.box.cell 1
            go_wp2_with fail
            obtain ⟨vs5, hd5⟩ := HV5.out.doc
            refine (docGet_any hd5 HM'.out oi HM.out hi0 hi1).mono ?_
            rintro e w6 ⟨rfl, hb6⟩
            rw [HQ.out]
            simp only [got]
            have HV6 := Lib.hid (HV5.out.below hb6)
            clear hb6 hd5
            go_wp2_with (go_quiet (fail))
            go_roundw
            case rel => exact ⟨j + 1, by omega, by go_num, _, HM'.out, HV6.out⟩
            case measure => simp [intOf]; omega
          | some v =>
            have HQ := Lib.hid hq
            clear hq k1 hr
            have o1 := HO.out.cell 1
            go_wp2_with fail
            refine (Get_St HV.out.st oi HML.out hi0 hi1).mono ?_
            rintro e w5 ⟨rfl, hd5⟩
            rw [HQ.out]
            simp only [got]
            have HO5 := Lib.hid (HO.out.below (hd5.below _))
            have HV5 := Lib.hid (HV.out.below (hd5.below _))
            clear hd5
            have o1 := HO5.out.cell 1
            have b0 := HV5.out.box.cell 0
            have b1 := HV5.out.box.cell 1
            go_wp2_with fail
            obtain ⟨vs5, hd5⟩ := HV5.out.doc
            refine (docGet_any hd5 HM'.out oi HM.out hi0 hi1).mono ?_
            rintro e w6 ⟨rfl, hb6⟩
            rw [HQ.out]
            simp only [got]
            have HV6 := Lib.hid (HV5.out.below hb6)
            clear hb6 hd5
            go_wp2_with (go_quiet (fail))
            go_roundw
            case rel => exact ⟨j + 1, by omega, by go_num, _, HM'.out, HV6.out⟩
            case measure => simp [intOf]; omega
        · by_cases k3 : kd = 3
          · subst k3
            clear k1 k2
            go_wp2_with fail
            refine (Reset_St HV.out.st HML.out).mono ?_
            rintro e w5 ⟨rfl, hs5, ht5⟩
            have HX5 := Lib.hid (ht5.cells HNP.out.1 HNP.out.2.1 HV.out.box)
            have HD5 := Lib.hid (HV.out.doc.imp fun _ hd => hd.touch ht5 HL.out.bx.symm HL.out.gx.symm HL.out.bY.symm HL.out.gy.symm)
            have HB5 := Lib.hid (ht5.below HV.out.bel HL.out.b0 HL.out.g0)
            have HS5 := Lib.hid hs5
            clear hs5 ht5
            have b0 := HX5.out.cell 0
            have b1 := HX5.out.cell 1
            go_wp2_with fail
            obtain ⟨vs5, hd5⟩ := HD5.out
            refine (docReset_any hd5 HM'.out HM.out).mono ?_
            rintro e w6 ⟨rfl, hd6, hn6⟩
            have HV6 : Hid (Play w0 w6 b g x y w.heap.size (empty n) n) := Lib.hid ⟨by have e := HS5.out; rw [HM'.out] at e; exact e.near hn6 HL.out.bx HL.out.bY HL.out.gx HL.out.gy, ⟨_, hd6⟩, hn6.below HB5.out HL.out.x0 HL.out.y0 HB5.out.size, hn6.cells HNP.out.2.2.1 HNP.out.2.2.2 HX5.out⟩
            clear hd6 hn6 hd5
            go_wp2_with fail
            go_roundw
            case rel => exact ⟨j + 1, by omega, by go_num, _, List.length_replicate, HV6.out⟩
            case measure => simp [intOf]; omega
          · by_cases k4 : kd = 4
            · subst k4
              clear k1 k2 k3
              have HLM := Lib.hid (marks_len m')
              obtain ⟨L, hL⟩ : ∃ L, marks m' = L := ⟨_, rfl⟩
              have HLL := Lib.hid hL
              have g1 : (held m' != (L.length : Int)) = false := by rw [← hL, HLM.out]; simp
              clear hL
              go_wp2_with fail
              have d3 := HV.out.box.cell 0
              have d4 := HV.out.box.cell 1
              have HVD : Hid (Play w0 (wr.alloc (.cells #[.int .u8 4, .int .i64 oi, .int .u64 ov] 67)).drew b g x y w.heap.size m' n) := Lib.hid (HV.out.below ⟨rfl, rfl, rfl, Nat.le_refl _, fun _ _ => rfl⟩)
              go_region_held3 (fun w' => w'.cell? ⟨w.heap.size, 0, none⟩ = some (.slice (some ⟨x, 0, none⟩) n n) ∧ w'.cell? ⟨w.heap.size, 1, none⟩ = some (.slice (some ⟨y, 0, none⟩) n n)) (first | exact ⟨d3, d4⟩) (first
                | (go_at_call 11; refine (Len_St HVD.out.st).mono ?_; rintro e w5 ⟨rfl, rfl⟩)
                | (go_at_call 23; obtain ⟨vs5, hd5⟩ := HVD.out.doc; refine (docAll_any hd5 HM'.out HM.out).mono ?_; rintro e w6 ⟨v6, rfl, ho6, hb6⟩; rw [HLL.out] at ho6; obtain ⟨A6, c6, rfl, hc6, hm6⟩ := ho6.form; have HV6 := Lib.hid (HVD.out.below hb6); have d3 := HV6.out.box.cell 0; have d4 := HV6.out.box.cell 1; clear ho6 hb6 hc6 hm6 hd5))
              go_wp2_with (go_quiet (fail))
              go_roundw
              case rel => exact ⟨j + 1, by omega, by go_num, _, HM'.out, HV6.out⟩
              case measure => simp [intOf]; omega
            · by_cases k5 : kd = 5
              · subst k5
                clear k1 k2 k3 k4
                have HLN := Lib.hid (picks_len (fun i => (m'.getD i none).isSome) m'.length)
                obtain ⟨L, hL⟩ : ∃ L, marks m' = L := ⟨_, rfl⟩
                have HLL := Lib.hid hL
                have HLE : Hid (L.length ≤ 65536) := Lib.hid (by rw [← hL]; exact Nat.le_trans HLN.out HML.out)
                clear hL
                go_wp2_with fail
                have d3 := HV.out.box.cell 0
                have d4 := HV.out.box.cell 1
                have HVD : Hid (Play w0 (wr.alloc (.cells #[.int .u8 5, .int .i64 oi, .int .u64 ov] 67)).drew b g x y w.heap.size m' n) := Lib.hid (HV.out.below ⟨rfl, rfl, rfl, Nat.le_refl _, fun _ _ => rfl⟩)
                go_region_held3 (fun w' => w'.cell? ⟨w.heap.size, 0, none⟩ = some (.slice (some ⟨x, 0, none⟩) n n) ∧ w'.cell? ⟨w.heap.size, 1, none⟩ = some (.slice (some ⟨y, 0, none⟩) n n)) (first | exact ⟨d3, d4⟩) (first
                  | (go_at_call 17; refine (All_St HVD.out.st HML.out).mono ?_; rintro e w5 ⟨v5, rfl, ho5, hb5⟩; rw [HLL.out] at ho5; obtain ⟨A5, c5, rfl, hc5, hm5⟩ := ho5.form; have HV5 := Lib.hid (HVD.out.below hb5); have HR5 := Lib.hid (ho5.rd i64s_len rfl); have d3 := HV5.out.box.cell 0; have d4 := HV5.out.box.cell 1; clear ho5 hb5 hc5 hm5)
                  | (go_at_call 23; obtain ⟨vs5, hd5⟩ := HV5.out.doc; refine (docAll_any hd5 HM'.out HM.out).mono ?_; rintro e w6 ⟨v6, rfl, ho6, hb6⟩; rw [HLL.out] at ho6; obtain ⟨A6, c6, rfl, hc6, hm6⟩ := ho6.form; have HV6 := Lib.hid (HV5.out.below hb6); have HR5 := Lib.hid (HR5.out.below hb6); have HR6 := Lib.hid (ho6.rd i64s_len rfl); have d3 := HV6.out.box.cell 0; have d4 := HV6.out.box.cell 1; clear ho6 hb6 hc6 hm6 hd5)
                  | (go_at_call 16; refine (SameInts_any _ _ _ L _ _ _ L _ HR5.out HR6.out (by have := HLE.out; omega)).mono ?_; rintro e w7 ⟨rfl, hd7⟩; rw [decide_eq_true rfl]; have HV7 := Lib.hid (HV6.out.below (hd7.below _)); have d3 := HV7.out.box.cell 0; have d4 := HV7.out.box.cell 1; clear hd7))
                go_wp2_with (go_quiet (fail))
                go_roundw
                case rel => exact ⟨j + 1, by omega, by go_num, _, HM'.out, HV7.out⟩
                case measure => simp [intOf]; omega
              · have e1 : (kd == 1) = false := by simpa using k1
                have e2 : (kd == 2) = false := by simpa using k2
                have e3 : (kd == 3) = false := by simpa using k3
                have e4 : (kd == 4) = false := by simpa using k4
                have e5 : (kd == 5) = false := by simpa using k5
                clear k1 k2 k3 k4 k5
                go_wp2_with fail
                go_roundw
                case rel => exact ⟨j + 1, by omega, by go_num, _, HM'.out, HV.out⟩
                case measure => simp [intOf]; omega
    · obtain rfl : j = len := by omega
      go_wp2_with fail
      go_ret
      exact ⟨rfl, HY.out.bel⟩
end Go.Proofs.YteejmocdagdeeaaDoor
