/- The rows of a text: the program's. -/
import Derived.Test.YtmnnoecjedkdjaaGreatDoorGt3
import Derived.Test.YtmnnoecjedkdjaaGreatDoorBug
set_option linter.unusedSimpArgs false
set_option linter.unusedVariables false
namespace Go.Proofs.YtmnnoecjedkdjaaGreatDoor
open Go.RowKit Txt

/-- a row as it lies in memory -/
structure RowV where
  line : Int
  A : Option Addr
  k : Nat
  ws : List Bs
abbrev encRw (x : RowV) : List Value := [.int .i64 x.line, .slice x.A x.ws.length x.k]
theorem encRw_len : ∀ x, (encRw x).length = 2 := fun _ => rfl
theorem encRw_one : ∀ x, ∀ u ∈ encRw x, u.oneCell' = true := fun x u h => by
  simp only [encRw, List.mem_cons, List.not_mem_nil, or_false] at h
  rcases h with rfl | rfl <;> rfl
def RowV.t (x : RowV) : RowT := ⟨x.line, x.ws⟩
/-- the words of rows lie where they say -/
def WsIn (w : World) (L : List RowV) : Prop := ∀ x ∈ L, RdS w x.A x.ws.length (x.ws.map toB) ∧ 0 < x.ws.length ∧ x.ws.length ≤ x.k ∧ x.k ≤ maxLen
theorem WsIn.below {w w' : World} {L : List RowV} (h : WsIn w L) (hb : Below w.heap.size w w') : WsIn w' L := fun x hx => ⟨(h x hx).1.below hb, (h x hx).2⟩
/-- none of them in that block, all behind a base -/
def Off (v : Value) (B : Nat) (L : List RowV) : Prop := ∀ x ∈ L, ∀ ad, x.A = some ad → v.ownBlock ≠ some ad.block ∧ B ≤ ad.block
theorem rd_grown {w w' : World} {row : Option Nat} {A : Option Addr} {n : Nat} {l : List ByteArray} (h : RdS w A n l) (hg : w.grownBy w' row) (hne : ∀ ad, A = some ad → row ≠ some ad.block) : RdS w' A n l := by
  refine ⟨h.1, fun hp => ?_⟩
  obtain ⟨ad, hA, hc⟩ := h.2 hp
  refine ⟨ad, hA, fun j x i u hj hi => ?_⟩
  have h1 := hc j x i u hj hi
  have hlt : (ad.add (j * 1 + i)).block < w.heap.size := World.block_lt_of_cell? _ _ h1
  have hb : w'.heap[(ad.add (j * 1 + i)).block]? = w.heap[(ad.add (j * 1 + i)).block]? := hg.block _ hlt (by rw [block_of_add]; exact fun e => hne ad hA e.symm)
  unfold World.cell? at h1 ⊢
  rw [hb]
  exact h1
theorem rd_lt {w : World} {A : Option Addr} {n : Nat} {l : List ByteArray} (h : RdS w A n l) (hn : 0 < n) : ∀ ad, A = some ad → ad.block < w.heap.size := by
  intro ad hA
  obtain ⟨ad', hA', hc⟩ := h.at_ hn
  rw [hA] at hA'
  obtain rfl := Option.some.inj hA'
  have := World.block_lt_of_cell? _ _ (hc 0 _ rfl)
  rwa [block_of_add] at this
structure RdRow (w : World) (A : Option Addr) (n : Nat) (L : List RowV) : Prop where
  rows : Rd 2 encRw w A n L
  ws : WsIn w L
theorem RdRow.below {w w' : World} {A : Option Addr} {n : Nat} {L : List RowV} (h : RdRow w A n L) (hb : Below w.heap.size w w') : RdRow w' A n L := ⟨h.rows.below hb, h.ws.below hb⟩
theorem info_row : (Tryz.prog.info? 112).map (fun i => (i.zero, i.size, i.bytes)) = some (some (.agg #[.int .i64 0, .slice none 0 0]), 2, 32) := by kernel_rfl
theorem rd_row {w : World} {k : Nat} {x : RowV} (hk : w.heap.size = k) : Rd 2 encRw (w.alloc (.cells #[.int .i64 x.line, .slice x.A x.ws.length x.k] 112)) (some ⟨k, 0, none⟩) 1 [x] := by
  subst hk
  exact rd_new encRw_len w 112 [x]
def addRows (p : List RowT) (r : Except (Int × Int) (List RowT)) : Except (Int × Int) (List RowT) := match r with
  | .error e => .error e
  | .ok rs => .ok (p ++ rs)
def lineStep (p : List RowT) (n : Int) (ls : List Bs) : Except Int (List Bs) → Except (Int × Int) (List RowT)
  | .error c => .error (c, n)
  | .ok ws => addRows (if ws = [] then p else p ++ [⟨n, ws⟩]) (rowsGo (n + 1) ls)
theorem rows_step {p : List RowT} {n : Int} {l : Bs} {ls : List Bs} : addRows p (rowsGo n (l :: ls)) = lineStep p n ls (lineT l) := by
  show addRows p (rowPut n (lineT l) (rowsGo (n + 1) ls)) = _
  cases lineT l with
  | error c => rfl
  | ok ws =>
    dsimp only [lineStep]
    cases rowsGo (n + 1) ls with
    | error e => rfl
    | ok rs =>
      dsimp only [addRows, rowPut]
      by_cases h : ws = []
      · rw [if_pos h, if_pos h]
      · rw [if_neg h, if_neg h, List.append_assoc]; rfl
def RowsIs (r : Except Er (List RowT)) (W : World) (e : Ending) (w' : World) : Prop := Below W.heap.size W w' ∧ match r with
  | .error b => ∃ v, e = .returned (.tuple #[.slice none 0 0, v]) ∧ ProgX (some b) W.heap.size v w'
  | .ok rows => ∃ A k L, e = .returned (.tuple #[.slice A L.length k, .nilIface]) ∧ L.length ≤ k ∧ k ≤ maxLen ∧ L.length ≤ 1048577 ∧ RdRow w' A L.length L ∧ L.map RowV.t = rows
theorem split_any (s : ByteArray) (w : World) (hs : s.size < 4294967281) (hm : MaxL w) :
    Calls Tryz.prog 49 #[.string s, .string ⟨#[10]⟩] w fun e w' => ∃ F : List ByteArray, e = .returned (.slice (some ⟨w.heap.size, 0, none⟩) F.length F.length) ∧ F.map (fun x => x.data.toList) = linesL s.data.toList ∧ RdS w' (some ⟨w.heap.size, 0, none⟩) F.length F ∧ Below w.heap.size w w' := by
  obtain ⟨m, hm⟩ := hm
  refine (Tryz.strings_Split s ⟨#[10]⟩ m w hs hm (by decide)).mono ?_
  rintro e w' ⟨rfl, rfl⟩
  have hl : (Lib.splitB ⟨#[10]⟩ 0 (Lib.countB s ⟨#[10]⟩) s).length = Lib.countB s ⟨#[10]⟩ + 1 := Lib.splitB_all ⟨#[10]⟩ (by decide) 0 _ s rfl
  refine ⟨_, by rw [hl], split_text s, ?_, (Below.refl _ _).alloc (Nat.le_refl _) _⟩
  generalize Lib.splitB ⟨#[10]⟩ 0 (Lib.countB s ⟨#[10]⟩) s = F
  have e : F.map Value.string = F.flatMap encS := by
    induction F with
    | nil => rfl
    | cons x r ih => simp [encS, ih]
  rw [e]
  exact rd_new encS_len w _ F
set_option maxHeartbeats 4000000 in
theorem Rows_any (s : ByteArray) (W : World) (hs : s.size ≤ 140737488355328) (hm : MaxL W) :
    Calls Tryz.prog 26 #[.string s] W (RowsIs (rowsT s.data.toList) W) := by
  have HM := Lib.hid hm
  have hlen := size_list s
  clear hm
  go_enter Tryz.func26, Tryz.ntmps26
  refine wp_named ?_
  intro Q0 hQ0
  have HQ0 := Lib.hid hQ0
  clear hQ0
  by_cases h200 : 1048576 < s.size
  · have g0 : decide ((1048576 : Int) < (s.size : Int)) = true := decide_eq_true (by omega)
    have hl : rowsT s.data.toList = .error (2, none) := by unfold rowsT; rw [if_pos (by omega)]
    go_wp2_with fail
    rw [HQ0.out, hl]
    go_ret2
    exact ⟨Below.refl _ _, _, rfl, rfl⟩
  · have g0 : decide ((1048576 : Int) < (s.size : Int)) = false := decide_eq_false (by omega)
    have hT : rowsT s.data.toList = lineEr (rowsGo 1 (linesL s.data.toList)) := by unfold rowsT; rw [if_neg (by omega)]
    have HT := Lib.hid hT
    clear hT
    go_wp2_with fail
    refine (split_any s W (by omega) HM.out).mono ?_
    rintro e w1 ⟨F, rfl, hF, hr, hb⟩
    have HB1 := Lib.hid hb
    have HR1 := Lib.hid hr
    have HM1 := Lib.hid (HM.out.below hb)
    have hFl : F.length ≤ 1048577 := by
      have h1 := congrArg List.length hF
      rw [List.length_map] at h1
      have := lines_len s.data.toList
      omega
    have hFx : ∀ x ∈ F, x.size ≤ 1048576 := fun x hx => by
      have h1 : x.data.toList ∈ linesL s.data.toList := by rw [← hF]; exact List.mem_map_of_mem hx
      have := lines_sum s.data.toList _ h1
      rw [size_list] at this
      omega
    have HFX := Lib.hid hFx
    rw [← hF] at HT
    have hw1 := hb.size
    clear hb hr hF hFx
    go_wp2_with fail
    go_loopw [4, 16] (fun sv iv wr => ∃ (j : Nat) (L : List RowV), j ≤ F.length ∧ iv = .int .i64 j ∧ L.length ≤ j ∧ Own 112 2 encRw wr w1.heap.size sv L ∧ WsIn wr L ∧ Off sv w1.heap.size L ∧ rowsGo 1 (F.map fun x => x.data.toList) = addRows (L.map RowV.t) (rowsGo ((j : Int) + 1) ((F.drop j).map fun x => x.data.toList)) ∧ Below w1.heap.size w1 wr) (fun _ iv _ => F.length - (intOf iv).toNat)
    case atStart => exact ⟨0, [], by omega, rfl, by simp, Own.nil _ _ _ _ _, fun x hx => by simp at hx, fun x hx => by simp at hx, by simp only [List.map_nil, List.drop_zero]; show rowsGo 1 _ = addRows [] (rowsGo 1 _); cases rowsGo 1 (F.map fun x => x.data.toList) <;> rfl, Below.refl _ _⟩
    case round =>
      obtain ⟨j, L, hj, rfl, hLj, ho, hws, hof, hst, hb⟩ := hrel
      have HOF := Lib.hid hof
      clear hof
      have HB := Lib.hid hb
      have HO := Lib.hid ho
      have HWS := Lib.hid hws
      have HST := Lib.hid hst
      have hsb := hb.size
      clear ho hb hws hst
      by_cases hlt : j < F.length
      · have q0 : decide ((j : Int) < (F.length : Int)) = true := decide_eq_true (by omega)
        obtain ⟨ad, hA, cc⟩ := (HR1.out.below HB.out).at1 (f := Value.string) hlt
        obtain rfl := Option.some.inj hA
        rw [add_zero_off] at cc
        have hdr := List.drop_eq_getElem_cons hlt
        have hxs := HFX.out _ (List.getElem_mem hlt)
        generalize F[j] = x at *
        have hst := HST.out
        rw [hdr, List.map_cons, rows_step] at hst
        have hwrap : IntKind.i64.wrap ((j : Int) + 1) = (j : Int) + 1 := by rw [IntKind.wrap_i64]; omega
        clear hA hdr
        go_wp2_with fail
        refine (words_any x wr hxs (HM1.out.below HB.out)).mono ?_
        rintro e w3 ⟨hb3, he⟩
        have HB3 := Lib.hid (HB.out.trans (hb3.mono hsb))
        have HO3 := Lib.hid (HO.out.below hb3)
        have HWS3 := Lib.hid (HWS.out.below hb3)
        have hs3 := HB3.out.size
        cases hl : lineT x.data.toList with
        | error c =>
          rw [hl] at he hst
          dsimp only [lineStep] at he hst
          subst he
          have HST2 := Lib.hid hst
          clear hst hb3 cc
          go_wp2_with fail
          refine (FaultAt_any 1 ((j : Int) + 1) c w3).mono ?_
          rintro e w4 ⟨rfl, hc, hb4⟩
          have HEND : Hid (RowsIs (rowsT s.data.toList) W (.returned (.tuple #[.slice none 0 0, .iface 50 (.pointer (some ⟨w3.heap.size, 0, none⟩))])) w4) := Lib.hid (by
            rw [HT.out, HST2.out]
            have hB := HB1.out.trans ((HB3.out.trans (hb4.mono hs3)).mono hw1)
            exact ⟨hB, _, rfl, _, rfl, hc, by omega⟩)
          clear hc hb4
          go_wp2_with fail
          rw [HQ0.out]
          go_ret2
          exact HEND.out
        | ok ws =>
          rw [hl] at he hst
          dsimp only [lineStep] at he hst
          obtain ⟨A3, c3, rfl, ho3⟩ := he
          obtain ⟨A3', c3', hv3, hc31, hc32⟩ := ho3.form
          rw [List.length_map] at hv3 hc31
          injection hv3 with hv31 hv32 hv33
          subst hv31 hv33
          have hrw := ho3.rd encS_len rfl
          have HRW := Lib.hid hrw
          have hcast : ((j + 1 : Nat) : Int) = (j : Int) + 1 := by omega
          by_cases hws : ws = []
          · subst hws
            rw [if_pos rfl] at hst
            have HST2 := Lib.hid hst
            clear hst hb3 cc ho3 hrw
            go_wp2_with fail
            go_roundw
            case rel => exact ⟨j + 1, L, by omega, by go_num, by omega, HO3.out, HWS3.out, HOF.out, by rw [hcast]; exact HST2.out, HB3.out⟩
            case measure => simp [intOf]; omega
          · rw [if_neg hws] at hst
            have HST2 := Lib.hid hst
            have hpos : 0 < ws.length := List.length_pos_iff.2 hws
            have hA3 : ∀ ad, A3 = some ad → wr.heap.size ≤ ad.block := fun ad hA => (ho3.block (k := ad.block) (by rw [hA]; rfl)).1
            have HA3 := Lib.hid hA3
            clear hA3
            have q1 : decide ((0 : Int) < (ws.length : Int)) = true := decide_eq_true (by omega)
            clear hst hb3 cc ho3 hrw hv32
            go_wp2_with (at_builtin; go_loud (refine wpList_append_rd rfl (.tmp 35) (.tmp 40) 65 rfl 112 (.agg #[.int .i64 0, .slice none 0 0]) 32 Tryz.underlying65 info_row rfl (by omega) (by omega) encRw_len encRw_one w1.heap.size _ L rfl (HO3.out.below ((Below.refl _ _).alloc (Nat.le_refl _) _)) _ 1 1 [(⟨(j : Int) + 1, A3, c3, ws⟩ : RowV)] rfl (rd_row rfl) (by omega) (by simp; omega) ?_; intro v2 w5 ho2 hg2 hat2; have HO5 := Lib.hid ho2; have hb5 := below_own (HB3.out.alloc hs3 _) (HO3.out.below ((Below.refl _ _).alloc (Nat.le_refl _) _)) hg2 (Nat.le_refl _) (by simp; omega); have HB5 : Hid (Below w1.heap.size w1 w5) := Lib.hid hb5; have HG5 := Lib.hid hg2; have HAT := Lib.hid hat2; clear ho2 hg2 hat2 hb5))
            go_roundw
            case rel =>
              refine ⟨j + 1, L ++ [⟨(j : Int) + 1, A3, c3, ws⟩], by omega, by go_num, by simp; omega, HO5.out, fun z hz => ?_, fun z hz ad hA => ?_, by rw [hcast, List.map_append]; exact HST2.out, HB5.out⟩
              · have hrd3 : RdS w3 z.A z.ws.length (z.ws.map toB) ∧ 0 < z.ws.length ∧ z.ws.length ≤ z.k ∧ z.k ≤ maxLen := by
                  rcases List.mem_append.1 hz with h | h
                  · exact HWS3.out z h
                  · rw [List.mem_singleton.1 h]
                    exact ⟨HRW.out, hpos, hc31, hc32⟩
                refine ⟨rd_grown (hrd3.1.below ((Below.refl _ _).alloc (Nat.le_refl _) _)) HG5.out fun ad hA => ?_, hrd3.2⟩
                rcases List.mem_append.1 hz with h | h
                · exact (HOF.out z h ad hA).1
                · rw [List.mem_singleton.1 h] at hA
                  intro e
                  have h1 := (HO.out.block e).2
                  have h2 := HA3.out ad hA
                  omega
              · have hlt3 : ad.block < w3.heap.size := by
                  rcases List.mem_append.1 hz with h | h
                  · exact rd_lt (HWS3.out z h).1 (HWS3.out z h).2.1 ad hA
                  · rw [List.mem_singleton.1 h] at hA
                    exact rd_lt HRW.out hpos ad hA
                refine ⟨?_, ?_⟩
                rotate_left
                · rcases List.mem_append.1 hz with h | h
                  · exact (HOF.out z h ad hA).2
                  · rw [List.mem_singleton.1 h] at hA
                    have h2 := HA3.out ad hA
                    omega
                rcases HAT.out with e | e
                · rw [e]
                  rcases List.mem_append.1 hz with h | h
                  · exact (HOF.out z h ad hA).1
                  · rw [List.mem_singleton.1 h] at hA
                    intro e
                    have h1 := (HO.out.block e).2
                    have h2 := HA3.out ad hA
                    omega
                · rw [e, size_alloc]
                  intro h
                  have := Option.some.inj h
                  omega
            case measure => simp [intOf]; omega
      · obtain rfl : j = F.length := by omega
        have hst := HST.out
        rw [List.drop_length, List.map_nil, rowsGo] at hst
        obtain ⟨A2, c2, rfl, hc1, hc2⟩ := HO.out.form
        have HEND : Hid (RowsIs (rowsT s.data.toList) W (.returned (.tuple #[.slice A2 L.length c2, .nilIface])) wr) := Lib.hid (by
          rw [HT.out, hst]
          exact ⟨HB1.out.trans (HB.out.mono hw1), A2, c2, L, rfl, hc1, hc2, by omega, ⟨HO.out.rd encRw_len rfl, HWS.out⟩, by simp⟩)
        clear hst
        go_wp2_with fail
        rw [HQ0.out]
        go_ret2
        exact HEND.out
end Go.Proofs.YtmnnoecjedkdjaaGreatDoor
