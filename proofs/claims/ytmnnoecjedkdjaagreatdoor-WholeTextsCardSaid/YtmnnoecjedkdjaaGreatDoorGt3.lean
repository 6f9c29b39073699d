/- check, the words of a line, the rows of a text: the program's. -/
import Derived.Test.YtmnnoecjedkdjaaGreatDoorGt2
import Derived.Test.YtmnnoecjedkdjaaGreatDoorShelf
import Derived.Test.YtmnnoecjedkdjaaGreatDoorCells
import Derived.Test.YtmnnoecjedkdjaaGreatDoorBase
set_option linter.unusedSimpArgs false
set_option linter.unusedVariables false
namespace Go.Proofs.YtmnnoecjedkdjaaGreatDoor
open Go.RowKit Txt

theorem wp_named {P : Program} {c : Code} {Q : Exit → Act → World → Prop} {a : Act} {w : World} (h : ∀ Q0, Q0 = Q → c.wp P Q0 a w) : c.wp P Q a w := h Q rfl
theorem add_zero_off (g j : Nat) : (⟨g, 0, none⟩ : Addr).add j = ⟨g, j, none⟩ := by cases j <;> simp [Addr.add]
/-- the byte of a string at a place -/
theorem byte_at (s : ByteArray) {j : Nat} (hj : j < s.size) : ∃ b, s[j] = b ∧ s.data.toList.drop j = b :: s.data.toList.drop (j + 1) ∧ s.data.toList.take (j + 1) = s.data.toList.take j ++ [b] ∧ s.data.toList[j]? = some b := by
  have hl : j < s.data.toList.length := by rw [size_list]; exact hj
  refine ⟨s.data.toList[j], rfl, List.drop_eq_getElem_cons hl, ?_, List.getElem?_eq_getElem hl⟩
  rw [List.take_succ_eq_append_getElem hl]
def toB (l : Bs) : ByteArray := ⟨l.toArray⟩
theorem toB_list (l : Bs) : (toB l).data.toList = l := rfl
theorem toB_of {s : ByteArray} {l : Bs} (h : s.data.toList = l) : s = toB l := by
  unfold toB
  rw [← h, Array.toArray_toList]
theorem toB_size (l : Bs) : (toB l).size = l.length := by rw [← size_list]; rfl
abbrev encS (x : ByteArray) : List Value := [.string x]
theorem encS_len : ∀ x, (encS x).length = 1 := fun _ => rfl
theorem encS_one : ∀ x, ∀ u ∈ encS x, u.oneCell' = true := fun x u h => by simp at h; subst h; rfl
abbrev RdS (w : World) (A : Option Addr) (n : Nat) (l : List ByteArray) : Prop := Rd 1 encS w A n l
abbrev OwnSt (w : World) (base : Nat) (v : Value) (l : List ByteArray) : Prop := Own 9 1 encS w base v l
theorem rd_str {w : World} {k : Nat} {x : ByteArray} (hk : w.heap.size = k) : RdS (w.alloc (.cells #[.string x] 9)) (some ⟨k, 0, none⟩) 1 [x] := by
  subst hk
  exact rd_new encS_len w 9 [x]
theorem info_str : (Tryz.prog.info? 9).map (fun i => (i.zero, i.size, i.bytes)) = some (some (.string ⟨#[]⟩), 1, 16) := by kernel_rfl
set_option maxHeartbeats 1000000 in
theorem check_any (s : ByteArray) (w : World) (hs : s.size ≤ 140737488355328) :
    Calls Tryz.prog 70 #[.string s] w fun e w' => e = .returned (if s.data.toList.all goodU = true then .nilIface else .iface 27 (.int .i64 3)) ∧ w = w' := by
  go_enter Tryz.func70, Tryz.ntmps70
  refine wp_named ?_
  intro Q0 hQ0
  have HQ0 := Lib.hid hQ0
  clear hQ0
  go_wp2_with fail
  go_loop [6] (fun iv => ∃ j : Nat, j ≤ s.size ∧ iv = .int .i64 j ∧ (s.data.toList.take j).all goodU = true) (fun iv => s.size - (intOf iv).toNat)
  case atStart => exact ⟨0, by omega, rfl, by simp⟩
  case round =>
    obtain ⟨j, hj, rfl, hg⟩ := hrel
    by_cases hlt : j < s.size
    · have g0 : decide ((j : Int) < (s.size : Int)) = true := decide_eq_true (by omega)
      obtain ⟨b, hb, hdr, htk, hat⟩ := byte_at s hlt
      have HG := Lib.hid hg
      have HTK := Lib.hid htk
      have HAT := Lib.hid hat
      have hb8 : b.toNat < 256 := b.toNat_lt
      clear hg hdr htk hat
      by_cases h1 : b.toNat < 33
      · have q1 : decide (((b.toNat : Nat) : Int) < 33) = true := decide_eq_true (by omega)
        go_wp2_with fail
        rw [HQ0.out]
        go_ret
        refine ⟨?_, rfl⟩
        have hno : ¬ (s.data.toList.all goodU = true) := fun h => by
          have := List.all_eq_true.1 h b (List.mem_of_getElem? HAT.out)
          unfold goodU at this
          have := of_decide_eq_true this
          omega
        rw [if_neg hno]
        rfl
      · have q1 : decide (((b.toNat : Nat) : Int) < 33) = false := decide_eq_false (by omega)
        by_cases h2 : 126 < b.toNat
        · have q2 : decide ((126 : Int) < ((b.toNat : Nat) : Int)) = true := decide_eq_true (by omega)
          go_wp2_with fail
          rw [HQ0.out]
          go_ret
          refine ⟨?_, rfl⟩
          have hno : ¬ (s.data.toList.all goodU = true) := fun h => by
            have := List.all_eq_true.1 h b (List.mem_of_getElem? HAT.out)
            unfold goodU at this
            have := of_decide_eq_true this
            omega
          rw [if_neg hno]
          rfl
        · have q2 : decide ((126 : Int) < ((b.toNat : Nat) : Int)) = false := decide_eq_false (by omega)
          go_wp2_with fail
          go_round
          case rel =>
            refine ⟨j + 1, by omega, by go_num, ?_⟩
            rw [HTK.out, List.all_append, HG.out]
            simp only [List.all_cons, List.all_nil, Bool.and_true, Bool.true_and]
            unfold goodU
            exact decide_eq_true (by omega)
          case measure => simp [intOf]; omega
    · obtain rfl : j = s.size := by omega
      go_wp2_with fail
      rw [HQ0.out]
      go_ret
      refine ⟨?_, rfl⟩
      rw [List.take_of_length_le (by rw [size_list]; exact Nat.le_refl _)] at hg
      rw [if_pos hg]
      rfl
/-- the variable of the library's own holds some number -/
def MaxL (w : World) : Prop := ∃ m, w.cell? ⟨3, 0, none⟩ = some (.int .i64 m)
theorem MaxL.below {w w' : World} (h : MaxL w) (hb : Below w.heap.size w w') : MaxL w' := by
  obtain ⟨m, hm⟩ := h
  exact ⟨m, cell_below hb hm⟩
theorem drewN_below (w : World) (n : Nat) : Below w.heap.size w (w.drewN n) := ⟨rfl, rfl, rfl, Nat.le_refl _, fun _ _ => rfl⟩
theorem cut_any (s : ByteArray) (w : World) (hs : s.size < 4294967281) (hm : MaxL w) :
    Calls Tryz.prog 67 #[.string s, .string ⟨#[35]⟩] w fun e w' => (∃ t x y, e = .returned (.tuple #[.string t, x, y]) ∧ t.data.toList = cutHash s.data.toList) ∧ Below w.heap.size w w' := by
  obtain ⟨m, hm⟩ := hm
  refine (Tryz.strings_Cut s ⟨#[35]⟩ m w hs hm).mono ?_
  rintro e w' ⟨rfl, n, rfl⟩
  exact ⟨⟨_, _, _, rfl, cut_hash _⟩, drewN_below w n⟩
theorem parts_any (x : Nat) (w : World) : Calls Tryz.prog 69 #[.int .i32 (x : Int)] w fun e w' => e = .returned (.bool (partsR x)) ∧ w = w' := by
  have e1 : ∀ (c : Nat), (((x : Nat) : Int) == (c : Int)) = (x == c) := fun c => by
    by_cases h : x = c
    · subst h; simp
    · rw [beq_eq_false_iff_ne.2 h, beq_eq_false_iff_ne]; omega
  by_cases h1 : x = 32
  · subst h1
    go_enter Tryz.func69, Tryz.ntmps69
    go_wp2_with fail
    go_ret
    exact ⟨rfl, rfl⟩
  · by_cases h2 : x = 9
    · subst h2
      go_enter Tryz.func69, Tryz.ntmps69
      go_wp2_with fail
      go_ret
      exact ⟨rfl, rfl⟩
    · have q1 : (((x : Nat) : Int) == 32) = false := by rw [beq_eq_false_iff_ne]; omega
      have q2 : (((x : Nat) : Int) == 9) = false := by rw [beq_eq_false_iff_ne]; omega
      have hr : partsR x = (((x : Nat) : Int) == 13) := by
        unfold partsR
        rw [beq_eq_false_iff_ne.2 h1, beq_eq_false_iff_ne.2 h2, Bool.false_or, Bool.false_or]
        exact (e1 13).symm
      rw [hr]
      generalize hc : (((x : Nat) : Int) == 13) = c
      clear e1 hr
      go_enter Tryz.func69, Tryz.ntmps69
      go_wp2_with fail
      go_ret
      exact ⟨rfl, rfl⟩
theorem fields_any (s : ByteArray) (w : World) (hs : s.size ≤ 4294967296) :
    Calls Tryz.prog 68 #[.string s, .func (.func 69) #[] #[]] w fun e w' => ∃ A F, e = .returned (.slice (some ⟨A, 0, none⟩) F.length F.length) ∧ F.map (fun x => x.data.toList) = wordsL s.data.toList ∧ RdS w' (some ⟨A, 0, none⟩) F.length F ∧ Below w.heap.size w w' := by
  refine (Tryz.strings_FieldsFunc_runes 69 #[] (fun args w => by kernel_rfl) partsR s w hs (fun W x _ _ => (parts_any x W).mono fun e w' ⟨h1, h2⟩ => ⟨h1, 0, by rw [← h2]; rfl⟩)).mono ?_
  rintro e w' ⟨A, rfl, hA, ho, hb⟩
  have hl : (Lib.goFieldsP partsR s).flatMap encS = (Lib.goFieldsP partsR s).map Value.string := by
    generalize Lib.goFieldsP partsR s = L
    induction L with
    | nil => rfl
    | cons x r ih => simp [encS, ih]
  have ho2 : OwnSt w' w.heap.size (.slice (some ⟨A, 0, none⟩) (Lib.goFieldsP partsR s).length (Lib.goFieldsP partsR s).length) (Lib.goFieldsP partsR s) := by
    show World.ownsRow _ _ _ _ _ _ _
    rw [hl]
    exact ho
  exact ⟨A, _, rfl, fields_words s, ho2.rd encS_len rfl, hb⟩
theorem clone_any (s : ByteArray) (w : World) (hs : s.size ≤ 140737488355328) :
    Calls Tryz.prog 71 #[.string s] w fun e w' => e = .returned (.string s) ∧ Below w.heap.size w w' := by
  have H := Lib.hid (Tryz.stringslite_Clone s w (by omega))
  go_enter Tryz.func71, Tryz.ntmps71
  go_wp2_with fail
  refine H.out.mono ?_
  rintro e w' ⟨rfl, hb⟩
  have HB := Lib.hid hb
  clear hb
  go_wp2_with fail
  go_ret
  exact ⟨rfl, HB.out⟩
def WordsIs (r : Except Int (List Bs)) (W : World) (e : Ending) (w' : World) : Prop := Below W.heap.size W w' ∧ match r with
  | .error c => e = .returned (.tuple #[.slice none 0 0, .iface 27 (.int .i64 c)])
  | .ok ws => ∃ A c, e = .returned (.tuple #[.slice A ws.length c, .nilIface]) ∧ OwnSt w' W.heap.size (.slice A ws.length c) (ws.map toB)
set_option maxHeartbeats 2000000 in
theorem words_any (s : ByteArray) (W : World) (hs : s.size ≤ 1048576) (hm : MaxL W) :
    Calls Tryz.prog 50 #[.string s] W (WordsIs (lineT s.data.toList) W) := by
  have HM := Lib.hid hm
  have hlen := size_list s
  clear hm
  go_enter Tryz.func50, Tryz.ntmps50
  refine wp_named ?_
  intro Q0 hQ0
  have HQ0 := Lib.hid hQ0
  clear hQ0
  by_cases h200 : 200 < s.size
  · have g0 : decide ((200 : Int) < (s.size : Int)) = true := decide_eq_true (by omega)
    have hl : lineT s.data.toList = .error 2 := by unfold lineT; rw [if_pos (by omega)]
    go_wp2_with fail
    rw [HQ0.out, hl]
    go_ret2
    exact ⟨Below.refl _ _, rfl⟩
  · have g0 : decide ((200 : Int) < (s.size : Int)) = false := decide_eq_false (by omega)
    go_wp2_with fail
    refine (cut_any s W (by omega) HM.out).mono ?_
    rintro e w1 ⟨⟨t, x, y, rfl, ht⟩, hb⟩
    have HB1 := Lib.hid hb
    have hts : t.size ≤ 200 := by
      rw [← size_list, ht]
      have := cutHash_len s.data.toList
      omega
    have HT := Lib.hid ht
    clear hb ht
    go_wp2_with fail
    refine (fields_any t w1 (by omega)).mono ?_
    rintro e w2 ⟨FA, F, rfl, hF, hr, hb⟩
    have HB2 := Lib.hid (HB1.out.trans (hb.mono HB1.out.size))
    have HR2 := Lib.hid hr
    have hw2 := HB2.out.size
    have hFl : F.length ≤ 201 := by
      have h1 := congrArg List.length hF
      rw [List.length_map] at h1
      have := (wordsGo_len t.data.toList []).1
      rw [size_list] at this
      unfold wordsL at h1
      omega
    have hFx : ∀ x ∈ F, x.size ≤ 200 := fun x hx => by
      have h1 : x.data.toList ∈ wordsL t.data.toList := by rw [← hF]; exact List.mem_map_of_mem hx
      have := (wordsGo_len t.data.toList []).2 _ h1
      rw [size_list, size_list] at this
      simp at this
      omega
    have HF := Lib.hid hF
    have HFX := Lib.hid hFx
    clear hb hr HB1 hF hFx
    go_wp2_with fail
    go_loopw [4, 21] (fun sv iv wr => ∃ j : Nat, j ≤ F.length ∧ iv = .int .i64 j ∧ OwnSt wr w2.heap.size sv (F.take j) ∧ (∀ x ∈ F.take j, x.data.toList.all goodU = true) ∧ Below w2.heap.size w2 wr) (fun _ iv _ => F.length - (intOf iv).toNat)
    case atStart => exact ⟨0, by omega, rfl, Own.nil _ _ _ _ _, fun x hx => by simp at hx, Below.refl _ _⟩
    case round =>
      obtain ⟨j, hj, rfl, ho, hg, hb⟩ := hrel
      have HB := Lib.hid hb
      have HO := Lib.hid ho
      have HG := Lib.hid hg
      have hsb := hb.size
      clear ho hb hg
      by_cases hlt : j < F.length
      · have q0 : decide ((j : Int) < (F.length : Int)) = true := decide_eq_true (by omega)
        obtain ⟨ad, hA, cc⟩ := (HR2.out.below HB.out).at1 (f := Value.string) hlt
        obtain rfl := Option.some.inj hA
        rw [add_zero_off] at cc
        have htk := List.take_succ_eq_append_getElem hlt
        have hmem : F[j] ∈ F := List.getElem_mem hlt
        have hxs := HFX.out _ hmem
        generalize F[j] = x at *
        have HTK := Lib.hid htk
        have HME := Lib.hid hmem
        clear htk hmem hA
        go_wp2_with fail
        refine (check_any x wr (by omega)).mono ?_
        rintro e w3 ⟨rfl, rfl⟩
        cases hgd : x.data.toList.all goodU with
        | false =>
          have hl : lineT s.data.toList = .error 3 := by
            unfold lineT
            rw [if_neg (by omega), if_neg]
            rw [← wordsL_right, ← HT.out, ← HF.out, List.all_map]
            intro hh
            have := List.all_eq_true.1 hh x HME.out
            rw [Function.comp_apply, hgd] at this
            cases this
          clear cc
          go_wp2_with fail
          rw [HQ0.out, hl]
          go_ret2
          exact ⟨HB2.out.trans (HB.out.mono hw2), rfl⟩
        | true =>
          clear cc
          go_wp2_with fail
          refine (clone_any x wr (by omega)).mono ?_
          rintro e w4 ⟨rfl, hb⟩
          have HB4 := Lib.hid (HB.out.trans (hb.mono HB.out.size))
          have HO4 := Lib.hid (HO.out.below hb)
          have hs4 := HB4.out.size
          clear hb HB HO
          go_wp2_with (at_builtin; go_loud (refine wpList_append_rd rfl (.tmp 30) (.tmp 33) 60 rfl 9 (.string ⟨#[]⟩) 16 Tryz.underlying60 info_str rfl (by omega) (by omega) encS_len encS_one w2.heap.size _ (F.take j) rfl (HO4.out.below ((Below.refl _ _).alloc (Nat.le_refl _) _)) _ 1 1 [x] rfl (rd_str rfl) (by rw [List.length_take]; omega) (by simp; omega) ?_; intro v2 w5 ho2 hg2 hat2; have HO5 := Lib.hid ho2; have HB5 : Hid (Below w2.heap.size w2 w5) := Lib.hid (below_own (HB4.out.alloc HB4.out.size _) (HO4.out.below ((Below.refl _ _).alloc (Nat.le_refl _) _)) hg2 (Nat.le_refl _) (by simp; omega)); clear ho2 hg2 hat2))
          go_roundw
          case rel =>
            refine ⟨j + 1, by omega, by go_num, by rw [HTK.out]; exact HO5.out, fun z hz => ?_, HB5.out⟩
            rw [HTK.out] at hz
            rcases List.mem_append.1 hz with h | h
            · exact HG.out z h
            · rw [List.mem_singleton.1 h]; exact hgd
          case measure => simp [intOf]; omega
      · obtain rfl : j = F.length := by omega
        have htk : F.take F.length = F := List.take_of_length_le (Nat.le_refl _)
        rw [htk] at HO HG
        obtain ⟨A2, c2, rfl, _, _⟩ := HO.out.form
        have hl : lineT s.data.toList = .ok (F.map fun x => x.data.toList) := by
          unfold lineT
          rw [if_neg (by omega), if_pos, ← HT.out, ← HF.out]
          rw [← wordsL_right, ← HT.out, ← HF.out, List.all_map]
          exact List.all_eq_true.2 fun x hx => HG.out x hx
        clear htk
        go_wp2_with fail
        rw [HQ0.out, hl]
        go_ret2
        refine ⟨HB2.out.trans (HB.out.mono hw2), A2, c2, ?_, ?_⟩
        · rw [List.length_map]; rfl
        · have e : (F.map fun x => x.data.toList).map toB = F := by
            rw [List.map_map]
            conv => rhs; rw [← List.map_id F]
            exact List.map_congr_left fun x _ => (toB_of rfl).symm
          rw [e, List.length_map]
          exact Own.mono HO.out hw2
end Go.Proofs.YtmnnoecjedkdjaaGreatDoor
