/- The list of a chain's links; a chain made of places and a number. -/
import Derived.Test.YtkncgpnnilcicaaDoorFa1
set_option linter.unusedSimpArgs false
set_option linter.unusedVariables false
namespace Go.Proofs.YtkncgpnnilcicaaDoor
open Go.RowKit Go.Extern.Stop Go.Stop Go.Extern

theorem places_len : ∀ x, (places x).length = 2 := fun _ => rfl
theorem places_one : ∀ x, ∀ u ∈ places x, u.oneCell' = true := fun x u h => by
  simp at h
  rcases h with rfl | rfl <;> rfl
theorem info_place : (Tryd.prog.info? 34).map (fun i => (i.zero, i.size, i.bytes)) = some (some (.agg #[.int .i64 0, .int .i64 0]), 2, 16) := by kernel_rfl
abbrev OwnP (w : World) (base : Nat) (v : Value) (l : List (Int × Int)) : Prop := Own 34 2 places w base v l
def LinksIs (ps : List (Int × Int)) (E : Core) (W : World) (e : Ending) (w' : World) : Prop := ∃ v, e = .returned (.tuple #[v, .int .i64 (linkC ps E)]) ∧ OwnP w' W.heap.size v (linkPs ps) ∧ Below W.heap.size W w'
theorem rd_place (w : World) (x : Int × Int) : RdP (w.alloc (.cells #[.int .i64 x.1, .int .i64 x.2] 34)) (some ⟨w.heap.size, 0, none⟩) 1 [x] := rd_new places_len w _ [x]
theorem links_out {W w' : World} {ps : List (Int × Int)} {E : Core} {v : Value} {n : Int} (hn : n = linkC ps E) (hp : OwnP w' W.heap.size v (linkPs ps)) (hb : Below W.heap.size W w') : LinksIs ps E W (.returned (.tuple #[v, .int .i64 n])) w' := by
  subst hn
  exact ⟨v, rfl, hp, hb⟩
set_option maxRecDepth 100000 in
set_option maxHeartbeats 8000000 in
theorem links_any {W : World} (E : Core) (v : Value) (ps : List (Int × Int)) (h : Wrap W E v ps) :
    Calls Tryd.prog 37 #[v] W (LinksIs ps E W) := by
  have H0 := Lib.hid h
  clear h
  have tFF := asFF
  have tNF := asNF
  have tSF := asSF
  have tNN := asNN
  have tSN := asSN
  go_enter Tryd.func37, Tryd.ntmps37
  go_wp2_with fail
  go_loopw [0, 4, 5, 8] (fun ev pv nv kv wr => ∃ k : Nat, k ≤ 64 ∧ kv = .int .i64 k ∧ Below W.heap.size W wr ∧ ((k ≤ ps.length ∧ Wrap W E ev (ps.drop k) ∧ OwnP wr W.heap.size pv (ps.take k) ∧ nv = .int .i64 0) ∨ (ps.length < 64 ∧ ps.length < k ∧ ev = .nilIface ∧ OwnP wr W.heap.size pv ps ∧ nv = .int .i64 E.code))) (fun _ _ _ kv _ => 64 - (intOf kv).toNat)
  case atStart => exact ⟨0, by omega, rfl, Below.refl _ _, .inl ⟨by omega, H0.out, Own.nil _ _ _ _ _, rfl⟩⟩
  case round =>
    obtain ⟨k, hk, rfl, hb, hph⟩ := hrel
    have HB := Lib.hid hb
    clear hb H0
    by_cases hlt : k < 64
    · have g0 : decide ((k : Int) < 64) = true := decide_eq_true (by omega)
      have g00 : decide (k < 64) = true := decide_eq_true hlt
      rcases hph with ⟨hkp, hw, ho, rfl⟩ | ⟨hl1, hl2, rfl, ho, rfl⟩
      · by_cases hkl : k < ps.length
        · rw [List.drop_eq_getElem_cons hkl] at hw
          obtain ⟨b, o, v', rfl, e0, e1, e2, hrest⟩ := hw.cons
          have htk := List.take_succ_eq_append_getElem hkl
          generalize ps[k] = x at *
          obtain ⟨xk, xa⟩ := x
          dsimp only at e0 e1
          have c0 := cell_below HB.out e0
          have c1 := cell_below HB.out e1
          have C2 := Lib.hid e2
          have HR := Lib.hid hrest
          have HTK := Lib.hid htk
          have HL0 := Lib.hid hkl
          obtain ⟨A, c, hpv, hc, hcm⟩ := ho.form
          have htl : (ps.take k).length = k := by rw [List.length_take]; omega
          rw [htl] at hpv hc
          subst hpv
          have HO := Lib.hid ho
          have HTL := Lib.hid htl
          clear e0 e1 e2 hrest ho htk hw htl
          go_wp2_with (at_builtin; go_loud (refine wpList_append_rd rfl (.tmp 20) (.tmp 25) 23 rfl 34 (.agg #[.int .i64 0, .int .i64 0]) 16 Tryd.underlying23 info_place rfl (by omega) (by omega) places_len places_one W.heap.size (.slice A k c) (ps.take k) rfl (HO.out.below ((Below.refl _ _).alloc (Nat.le_refl _) _)) _ 1 1 [((xk, xa) : Int × Int)] rfl (rd_place wr (xk, xa)) (by rw [HTL.out]; omega) (by have := HB.out.size; simp at this ⊢; omega) ?_; intro v2 w2 ho2 hg2 hat2; have HO2 := Lib.hid ho2; have HB2 : Hid (Below W.heap.size W w2) := Lib.hid (below_own (HB.out.alloc HB.out.size _) (HO.out.below ((Below.refl _ _).alloc (Nat.le_refl _) _)) hg2 (Nat.le_refl _) (by have := HB.out.size; simp at this ⊢; omega)); clear ho2 hg2 hat2))
          refine (Unwrap_fault b o v' (cell_below HB2.out C2.out)).mono ?_
          rintro e w3 ⟨rfl, h⟩
          obtain rfl := h.symm
          clear h
          go_wp2_with fail
          go_roundw
          case rel => exact ⟨k + 1, by omega, by go_num, HB2.out, .inl ⟨by have := HL0.out; omega, HR.out, by rw [HTK.out]; exact HO2.out, rfl⟩⟩
          case measure => simp [intOf]; omega
        · obtain rfl : k = ps.length := by omega
          rw [List.drop_length] at hw
          obtain rfl := hw.nil
          rw [List.take_length] at ho
          have HO := Lib.hid ho
          clear hw ho hkl
          have hl64 : linkPs ps = ps := List.take_of_length_le (by omega)
          have HL64 := Lib.hid hl64
          clear hl64
          cases E with
          | none =>
            simp only [Core.val]
            have HC : Hid (linkC ps .none = 0) := Lib.hid (by unfold linkC; split <;> rfl)
            go_wp2_with fail
            go_ret2
            exact links_out HC.out.symm (by rw [HL64.out]; exact HO.out) HB.out
          | num c =>
            have HU := Unwrap_core (W := wr) (.num c) (by intro h; cases h)
            simp only [Core.val] at HU ⊢
            have HUU := Lib.hid HU
            clear HU
            by_cases hc0 : c = 0
            · subst hc0
              go_wp2_with fail
              refine HUU.out.mono ?_
              rintro e w3 ⟨rfl, h⟩
              obtain rfl := h.symm
              clear h
              go_wp2_with fail
              go_roundw
              case rel => exact ⟨ps.length + 1, by omega, by go_num, HB.out, .inr ⟨by omega, by omega, rfl, HO.out, rfl⟩⟩
              case measure => simp [intOf]; omega
            · have g1 : (c == 0) = false := by simp [hc0]
              clear hc0
              go_wp2_with fail
              refine HUU.out.mono ?_
              rintro e w3 ⟨rfl, h⟩
              obtain rfl := h.symm
              clear h
              go_wp2_with fail
              go_roundw
              case rel => exact ⟨ps.length + 1, by omega, by go_num, HB.out, .inr ⟨by omega, by omega, rfl, HO.out, rfl⟩⟩
              case measure => simp [intOf]; omega
          | other a =>
            have HU := Unwrap_core (W := wr) (.other a) (by intro h; cases h)
            simp only [Core.val] at HU ⊢
            have HUU := Lib.hid HU
            clear HU
            go_wp2_with fail
            refine HUU.out.mono ?_
            rintro e w3 ⟨rfl, h⟩
            obtain rfl := h.symm
            clear h
            go_wp2_with fail
            go_roundw
            case rel => exact ⟨ps.length + 1, by omega, by go_num, HB.out, .inr ⟨by omega, by omega, rfl, HO.out, rfl⟩⟩
            case measure => simp [intOf]; omega
          | nilp =>
            simp only [Core.val]
            have HC : Hid (linkC ps .nilp = 0) := Lib.hid (by unfold linkC; split <;> rfl)
            go_wp2_with fail
            go_ret2
            exact links_out HC.out.symm (by rw [HL64.out]; exact HO.out) HB.out
      · have HO := Lib.hid ho
        have HC : Hid (linkC ps E = E.code) := Lib.hid (by unfold linkC; rw [if_pos hl1])
        have HL64 : Hid (linkPs ps = ps) := Lib.hid (List.take_of_length_le (by omega))
        clear ho
        go_wp2_with fail
        go_ret2
        exact links_out HC.out.symm (by rw [HL64.out]; exact HO.out) HB.out
    · obtain rfl : k = 64 := by omega
      rcases hph with ⟨hkp, hw, ho, rfl⟩ | ⟨hl1, hl2, rfl, ho, rfl⟩
      · have HO := Lib.hid ho
        have HC : Hid (linkC ps E = 0) := Lib.hid (by unfold linkC; rw [if_neg (by omega)])
        clear ho hw
        go_wp2_with fail
        go_ret2
        exact links_out HC.out.symm HO.out HB.out
      · have HO := Lib.hid ho
        have HC : Hid (linkC ps E = E.code) := Lib.hid (by unfold linkC; rw [if_pos hl1])
        have HL64 : Hid (linkPs ps = ps) := Lib.hid (List.take_of_length_le (by omega))
        clear ho
        go_wp2_with fail
        go_ret2
        exact links_out HC.out.symm (by rw [HL64.out]; exact HO.out) HB.out
end Go.Proofs.YtkncgpnnilcicaaDoor
