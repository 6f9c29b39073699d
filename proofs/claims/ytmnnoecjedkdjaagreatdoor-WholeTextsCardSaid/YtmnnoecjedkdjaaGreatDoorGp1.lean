/- A graph's text that is written, in plain words: what is wrong with a graph, the text that it is, and that this text is read as the graph again. -/
import Derived.Test.YtmnnoecjedkdjaaGreatDoorGt2
import Derived.Lib.ItoaLen
set_option linter.unusedVariables false
namespace Go.Proofs.YtmnnoecjedkdjaaGreatDoor.Txt
open Go.Lib

/-! ### what is wrong with a graph -/
def arcBug (a : ArcT) (n : Int) : Option Int := if a.f < 0 ∨ n ≤ a.f ∨ a.t < 0 ∨ n ≤ a.t then some 7 else if a.w < 0 ∨ 2147483647 < a.w then some 8 else none
def arcsBug (n : Int) : Nat → List ArcT → Option Er
  | _, [] => none
  | i, a :: r => match arcBug a n with
    | some c => some (c, some (4, (i : Int)))
    | none => arcsBug n (i + 1) r
def chkT (g : GrT) : Option Er := if g.n < 0 ∨ 65536 < g.n ∨ 262144 < g.arcs.length then some (9, none) else arcsBug g.n 0 g.arcs
theorem arcsBug_none {n : Int} : ∀ {l : List ArcT} {i : Nat}, arcsBug n i l = none → ∀ a ∈ l, arcBug a n = none
  | [], _, _, a, ha => by cases ha
  | x :: r, i, h, a, ha => by
    rw [arcsBug] at h
    cases hx : arcBug x n with
    | some c => rw [hx] at h; cases h
    | none =>
      rw [hx] at h
      rcases List.mem_cons.1 ha with rfl | ha
      · exact hx
      · exact arcsBug_none h a ha
theorem arcsBug_of {n : Int} : ∀ {l : List ArcT} {i : Nat}, (∀ a ∈ l, arcBug a n = none) → arcsBug n i l = none
  | [], _, _ => rfl
  | x :: r, i, h => by
    rw [arcsBug, h x (by simp)]
    exact arcsBug_of fun a ha => h a (by simp [ha])
theorem arcBug_none {a : ArcT} {n : Int} : arcBug a n = none ↔ 0 ≤ a.f ∧ a.f < n ∧ 0 ≤ a.t ∧ a.t < n ∧ 0 ≤ a.w ∧ a.w ≤ 2147483647 := by
  unfold arcBug
  split
  · constructor
    · intro h; cases h
    · intro h; omega
  · split
    · constructor
      · intro h; cases h
      · intro h; omega
    · constructor
      · intro _; omega
      · intro _; rfl
theorem chkT_none {g : GrT} : chkT g = none ↔ 0 ≤ g.n ∧ g.n ≤ 65536 ∧ g.arcs.length ≤ 262144 ∧ ∀ a ∈ g.arcs, arcBug a g.n = none := by
  unfold chkT
  split
  · constructor
    · intro h; cases h
    · intro h; omega
  · constructor
    · intro h; exact ⟨by omega, by omega, by omega, arcsBug_none h⟩
    · intro h; exact arcsBug_of h.2.2.2

/-! ### a row's text -/
/-- words with a blank between -/
def joinW : List Bs → Bs
  | [] => []
  | w :: ws => w ++ ws.flatMap (32 :: ·)
def textOf (L : List (List Bs)) : Bs := L.flatMap fun ws => joinW ws ++ [10]
def goodW (w : Bs) : Prop := w ≠ [] ∧ ∀ b ∈ w, goodU b = true ∧ b ≠ 35
theorem goodU_solid {b : UInt8} (h : goodU b = true) : blankU b = false := by
  have h' : 33 ≤ b.toNat ∧ b.toNat ≤ 126 := by simpa [goodU] using h
  unfold blankU
  rw [Bool.or_eq_false_iff, Bool.or_eq_false_iff, beq_eq_false_iff_ne, beq_eq_false_iff_ne, beq_eq_false_iff_ne]
  refine ⟨⟨?_, ?_⟩, ?_⟩ <;> (rintro rfl; revert h'; decide)
theorem wordsGo_join : ∀ (ws : List Bs) (w : Bs), w ≠ [] → (∀ x ∈ ws, goodW x) → wordsGo w (ws.flatMap (32 :: ·)) = w :: ws
  | [], w, hw, _ => by simp [wordsGo, hw]
  | x :: ws, w, hw, h => by
    have hx := h x (by simp)
    rw [List.flatMap_cons, List.cons_append, wordsGo, if_pos (show blankU 32 = true from rfl), if_neg hw, wordsGo_solid _ _ _ (fun b hb => goodU_solid (hx.2 b hb).1), List.nil_append, wordsGo_join ws x hx.1 (fun y hy => h y (by simp [hy]))]
theorem wordsL_join {ws : List Bs} (h : ∀ x ∈ ws, goodW x) : wordsL (joinW ws) = ws := by
  cases ws with
  | nil => rfl
  | cons w ws =>
    have hw := h w (by simp)
    unfold wordsL joinW
    rw [wordsGo_solid _ _ _ (fun b hb => goodU_solid (hw.2 b hb).1), List.nil_append, wordsGo_join ws w hw.1 (fun y hy => h y (by simp [hy]))]
theorem joinW_mem {ws : List Bs} (h : ∀ x ∈ ws, goodW x) : ∀ b ∈ joinW ws, (b = 32 ∨ goodU b = true) ∧ b ≠ 35 := by
  intro b hb
  cases ws with
  | nil => cases hb
  | cons w ws =>
    rcases List.mem_append.1 hb with hb | hb
    · exact ⟨.inr ((h w (by simp)).2 b hb).1, ((h w (by simp)).2 b hb).2⟩
    · obtain ⟨x, hx, hb⟩ := List.mem_flatMap.1 hb
      rcases List.mem_cons.1 hb with rfl | hb
      · exact ⟨.inl rfl, by decide⟩
      · exact ⟨.inr ((h x (by simp [hx])).2 b hb).1, ((h x (by simp [hx])).2 b hb).2⟩
theorem cutHash_of {l : Bs} (h : ∀ b ∈ l, b ≠ 35) : cutHash l = l := by
  unfold cutHash
  induction l with
  | nil => rfl
  | cons b l ih => rw [List.takeWhile_cons_of_pos (by simpa using h b (by simp)), ih fun c hc => h c (by simp [hc])]
theorem lineT_join {ws : List Bs} (h : ∀ x ∈ ws, goodW x) (hl : (joinW ws).length ≤ 200) : lineT (joinW ws) = .ok ws := by
  unfold lineT
  rw [if_neg (by omega), cutHash_of (fun b hb => (joinW_mem h b hb).2), if_pos, wordsL_join h]
  unfold rightB
  rw [List.all_eq_true]
  intro b hb
  rcases (joinW_mem h b hb).1 with rfl | hg
  · rfl
  · rw [hg, Bool.or_true]
theorem linesL_line : ∀ (x r : Bs), (∀ b ∈ x, b ≠ 10) → linesL (x ++ 10 :: r) = x :: linesL r
  | [], r, _ => by rw [List.nil_append, linesL, if_pos rfl]
  | b :: x, r, h => by
    rw [List.cons_append, linesL, if_neg (h b (by simp)), linesL_line x r (fun c hc => h c (by simp [hc]))]
    rfl
theorem join_nl {ws : List Bs} (h : ∀ x ∈ ws, goodW x) : ∀ b ∈ joinW ws, b ≠ 10 := by
  intro b hb
  rcases (joinW_mem h b hb).1 with rfl | hg
  · decide
  · rintro rfl; revert hg; decide
theorem linesL_text : ∀ {L : List (List Bs)}, (∀ ws ∈ L, ∀ x ∈ ws, goodW x) → linesL (textOf L) = L.map joinW ++ [[]]
  | [], _ => rfl
  | ws :: L, h => by
    unfold textOf
    rw [List.flatMap_cons, List.append_assoc, List.singleton_append, linesL_line _ _ (join_nl (h ws (by simp)))]
    have ih := linesL_text (L := L) fun x hx => h x (by simp [hx])
    unfold textOf at ih
    rw [ih]
    rfl
/-- rows with their numbers -/
def numbered : Int → List (List Bs) → List RowT
  | _, [] => []
  | n, ws :: L => ⟨n, ws⟩ :: numbered (n + 1) L
theorem rowsGo_text : ∀ (L : List (List Bs)) (n : Int), (∀ ws ∈ L, ws ≠ [] ∧ (∀ x ∈ ws, goodW x) ∧ (joinW ws).length ≤ 200) → rowsGo n (L.map joinW ++ [[]]) = .ok (numbered n L)
  | [], n, _ => rfl
  | ws :: L, n, h => by
    obtain ⟨h1, h2, h3⟩ := h ws (by simp)
    rw [List.map_cons, List.cons_append, rowsGo, lineT_join h2 h3, rowsGo_text L (n + 1) (fun x hx => h x (by simp [hx]))]
    show Except.ok (if ws = [] then _ else _) = _
    rw [if_neg h1]
    rfl
theorem rowsT_text {L : List (List Bs)} (h : ∀ ws ∈ L, ws ≠ [] ∧ (∀ x ∈ ws, goodW x) ∧ (joinW ws).length ≤ 200) (hl : (textOf L).length ≤ 1048576) : rowsT (textOf L) = .ok (numbered 1 L) := by
  unfold rowsT
  rw [if_neg (by omega), linesL_text (fun ws hw => (h ws hw).2.1), rowsGo_text L 1 h]
  rfl

/-! ### numbers -/
theorem valN_snoc (l : Bs) (b : UInt8) : valN (l ++ [b]) = 10 * valN l + (b.toNat - 48) := by
  unfold valN
  rw [List.foldl_append]
  rfl
theorem dig_toNat {k : Nat} (h : k < 10) : (UInt8.ofNat (48 + k)).toNat = 48 + k := by
  rw [UInt8.toNat_ofNat']
  omega
theorem valN_dec (u : Nat) : valN (decDigits u) = u := by
  induction u using Nat.strongRecOn with
  | _ u ih =>
    rw [decDigits]
    split
    · rename_i h
      unfold valN
      rw [List.foldl_cons, List.foldl_nil, dig_toNat h]
      omega
    · rename_i h
      rw [valN_snoc, ih (u / 10) (by omega), dig_toNat (Nat.mod_lt _ (by decide))]
      omega
theorem digit_dec (u : Nat) : ∀ b ∈ decDigits u, digitU b = true := by
  induction u using Nat.strongRecOn with
  | _ u ih =>
    intro b hb
    rw [decDigits] at hb
    have one : ∀ k, k < 10 → digitU (UInt8.ofNat (48 + k)) = true := fun k hk => by
      unfold digitU
      rw [dig_toNat hk]
      exact decide_eq_true (by omega)
    split at hb
    · rename_i h
      rw [List.mem_singleton.1 hb]
      exact one u h
    · rename_i h
      rcases List.mem_append.1 hb with hb | hb
      · exact ih _ (by omega) b hb
      · rw [List.mem_singleton.1 hb]
        exact one _ (Nat.mod_lt _ (by decide))
theorem head_dec (u : Nat) (h : 0 < u) : (decDigits u).head? ≠ some 48 := by
  induction u using Nat.strongRecOn with
  | _ u ih =>
    rw [decDigits]
    split
    · rename_i h1
      intro hh
      have h2 : UInt8.ofNat (48 + u) = 48 := by simpa using hh
      have h3 := dig_toNat h1
      rw [h2] at h3
      have : (48 : UInt8).toNat = 48 := rfl
      omega
    · rename_i h1
      have := ih (u / 10) (by omega) (by omega)
      rw [List.head?_append]
      cases e : (decDigits (u / 10)).head? with
      | none =>
        have hl := decDigits_length (u / 10)
        have hp := nDigits_pos (u / 10)
        rw [List.head?_eq_none_iff] at e
        rw [e] at hl
        simp at hl
        omega
      | some c =>
        rw [e] at this
        simpa using this
theorem formB_dec (u : Nat) : formB (decDigits u) = true := by
  unfold formB
  rw [List.all_eq_true.2 (digit_dec u), Bool.true_and]
  by_cases h : u < 10
  · rw [decDigits, dif_pos h]
    rfl
  · have hl := decDigits_length u
    rw [nDigits_big h] at hl
    have hp := nDigits_pos (u / 10)
    rw [Bool.or_eq_true]
    exact .inr (decide_eq_true ⟨by omega, head_dec u (by omega)⟩)
def numB (x : Int) : Bs := Lib.itoa x
theorem numB_nat {x : Int} (h : 0 ≤ x) : numB x = decDigits x.toNat := by
  unfold numB Lib.itoa
  rw [if_neg (by omega)]
theorem numE_numB {x most : Int} (h0 : 0 ≤ x) (h1 : x ≤ most) (b : Int) : numE (numB x) most b = .ok x.toNat := by
  rw [numB_nat h0]
  unfold numE
  rw [if_pos (formB_dec _), valN_dec, if_neg (by omega)]
theorem digit_good {b : UInt8} (h : digitU b = true) : goodU b = true ∧ b ≠ 35 := by
  have h' : 48 ≤ b.toNat ∧ b.toNat ≤ 57 := by simpa [digitU] using h
  refine ⟨?_, ?_⟩
  · unfold goodU
    exact decide_eq_true (by omega)
  · rintro rfl; revert h'; decide
theorem goodW_numB {x : Int} (h : 0 ≤ x) : goodW (numB x) := by
  rw [numB_nat h]
  refine ⟨fun e => ?_, fun b hb => digit_good (digit_dec _ b hb)⟩
  have hl := decDigits_length x.toNat
  have hp := nDigits_pos x.toNat
  rw [e] at hl
  simp at hl
  omega
theorem numB_len {x : Int} (h0 : 0 ≤ x) (h1 : x ≤ 9223372036854775807) : (numB x).length ≤ 21 := itoa_length_le x (by omega) h1

/-! ### the text that a graph is -/
def arcW4 (a : ArcT) : List Bs := [arcW, numB a.f, numB a.t, numB a.w]
def graphL (g : GrT) : List (List Bs) := [graphW, numB g.n, numB g.arcs.length] :: (g.arcs.map arcW4 ++ [[endW]])
def printB (g : GrT) : Bs := textOf (graphL g)
def printT (g : GrT) : Except Er Bs := match chkT g with
  | some e => .error e
  | none => .ok (printB g)
theorem goodW_of {w : Bs} (h1 : w ≠ []) (h2 : (w.all fun b => goodU b && (b != 35)) = true) : goodW w := by
  refine ⟨h1, fun b hb => ?_⟩
  have h := List.all_eq_true.1 h2 b hb
  rw [Bool.and_eq_true] at h
  exact ⟨h.1, by simpa using h.2⟩
theorem goodW_graph : goodW graphW := goodW_of (by decide) (by decide)
theorem goodW_arc : goodW arcW := goodW_of (by decide) (by decide)
theorem goodW_end : goodW endW := goodW_of (by decide) (by decide)
/-- such a row may stand in a text -/
def RowOk (ws : List Bs) : Prop := ws ≠ [] ∧ (∀ x ∈ ws, goodW x) ∧ (joinW ws).length ≤ 200
theorem rowOk_arc {a : ArcT} {n : Int} (hn : n ≤ 65536) (h : arcBug a n = none) : RowOk (arcW4 a) := by
  obtain ⟨h1, h2, h3, h4, h5, h6⟩ := arcBug_none.1 h
  have l1 := numB_len h1 (by omega)
  have l2 := numB_len h3 (by omega)
  have l3 := numB_len h5 (by omega)
  refine ⟨by simp [arcW4], fun x hx => ?_, ?_⟩
  · simp only [arcW4, List.mem_cons, List.not_mem_nil, or_false] at hx
    rcases hx with rfl | rfl | rfl | rfl
    · exact goodW_arc
    · exact goodW_numB h1
    · exact goodW_numB h3
    · exact goodW_numB h5
  · simp [arcW4, joinW, arcW]
    omega
theorem rowOk_head {n : Int} {m : Nat} (h0 : 0 ≤ n) (hn : n ≤ 65536) (hm : m ≤ 262144) : RowOk [graphW, numB n, numB m] := by
  have l1 := numB_len h0 (by omega)
  have l2 := numB_len (x := (m : Int)) (by omega) (by omega)
  refine ⟨by simp, fun x hx => ?_, ?_⟩
  · simp only [List.mem_cons, List.not_mem_nil, or_false] at hx
    rcases hx with rfl | rfl | rfl
    · exact goodW_graph
    · exact goodW_numB h0
    · exact goodW_numB (by omega)
  · simp [joinW, graphW]
    omega
theorem rowOk_end : RowOk [endW] := ⟨by simp, fun x hx => by rw [List.mem_singleton.1 hx]; exact goodW_end, by decide⟩
theorem graphL_ok {g : GrT} (h : chkT g = none) : ∀ ws ∈ graphL g, RowOk ws := by
  obtain ⟨h1, h2, h3, h4⟩ := chkT_none.1 h
  intro ws hw
  unfold graphL at hw
  rcases List.mem_cons.1 hw with rfl | hw
  · exact rowOk_head h1 h2 h3
  · rcases List.mem_append.1 hw with hw | hw
    · obtain ⟨a, ha, rfl⟩ := List.mem_map.1 hw
      exact rowOk_arc h2 (h4 a ha)
    · rw [List.mem_singleton.1 hw]
      exact rowOk_end
theorem numbered_append : ∀ (L M : List (List Bs)) (n : Int), numbered n (L ++ M) = numbered n L ++ numbered (n + L.length) M
  | [], M, n => by simp [numbered]
  | x :: L, M, n => by
    rw [List.cons_append, numbered, numbered, numbered_append L M (n + 1), List.cons_append]
    congr 3
    simp
    omega
theorem arcR_row {a : ArcT} {n : Nat} {ln : Int} (h : arcBug a n = none) : arcR ⟨ln, arcW4 a⟩ n = .ok a := by
  obtain ⟨h1, h2, h3, h4, h5, h6⟩ := arcBug_none.1 h
  unfold arcR
  rw [show formR ⟨ln, arcW4 a⟩ arcW 4 = none from rfl]
  show (match numE (numB a.f) ((n : Int) - 1) 7 with | .error c => _ | .ok x => _) = _
  rw [numE_numB h1 (by omega)]
  show (match numE (numB a.t) ((n : Int) - 1) 7 with | .error c => _ | .ok x => _) = _
  rw [numE_numB h3 (by omega)]
  show (match numE (numB a.w) 2147483647 8 with | .error c => _ | .ok x => _) = _
  rw [numE_numB h5 h6]
  show Except.ok _ = Except.ok _
  congr 1
  cases a
  simp only [ArcT.mk.injEq] at *
  omega
/-- the arcs' rows are read as the arcs, whatever stands behind them -/
theorem arcsGo_rows {n : Nat} : ∀ (al : List ArcT) (ln k : Int) (rs : List RowT), (∀ a ∈ al, arcBug a n = none) → ∃ ln', arcsGo n al.length ln (numbered k (al.map arcW4) ++ rs) = .ok (al, ln', rs) ∧ (ln' = if al = [] then ln else k + al.length - 1)
  | [], ln, k, rs, _ => ⟨ln, rfl, rfl⟩
  | a :: al, ln, k, rs, h => by
    obtain ⟨ln', h1, h2⟩ := arcsGo_rows al k (k + 1) rs (fun x hx => h x (by simp [hx]))
    refine ⟨ln', ?_, ?_⟩
    · rw [List.map_cons, numbered, List.length_cons, List.cons_append, arcsGo, arcR_row (h a (by simp)), h1]
    · rw [if_neg (by simp), h2]
      split
      · rename_i he; subst he; simp
      · simp; omega
theorem parse_text {L : List (List Bs)} (h : ∀ ws ∈ L, RowOk ws) (hl : (textOf L).length ≤ 1048576) : parseT (textOf L) = lineEr (graphT (numbered 1 L)) := by
  unfold parseT
  rw [rowsT_text h hl]
/-- the head of a graph's rows -/
theorem graphT_head {n : Int} {m : Nat} {ln : Int} {rs : List RowT} (h0 : 0 ≤ n) (hn : n ≤ 65536) (hm : m ≤ 262144) :
    graphT (⟨ln, [graphW, numB n, numB m]⟩ :: rs) = match arcsGo n.toNat m ln rs with
      | .error e => .error e
      | .ok (al, ln', rs') => endR n.toNat al ln' rs' := by
  unfold graphT
  dsimp only
  rw [show formR ⟨ln, [graphW, numB n, numB m]⟩ graphW 3 = none from rfl]
  dsimp only
  rw [show ([graphW, numB n, numB m] : List Bs).getD 1 [] = numB n from rfl, numE_numB h0 hn]
  dsimp only
  rw [show ([graphW, numB n, numB m] : List Bs).getD 2 [] = numB m from rfl, numE_numB (by omega) (by omega)]
  rfl
/-- **what is written is read again** -/
theorem parse_print {g : GrT} (h : chkT g = none) (hl : (printB g).length ≤ 1048576) : parseT (printB g) = .ok g := by
  obtain ⟨h1, h2, h3, h4⟩ := chkT_none.1 h
  unfold printB at hl ⊢
  rw [parse_text (graphL_ok h) hl]
  unfold graphL
  rw [numbered, graphT_head h1 h2 h3, numbered_append]
  have hn : ((g.n.toNat : Nat) : Int) = g.n := by omega
  obtain ⟨ln', e1, -⟩ := arcsGo_rows (n := g.n.toNat) g.arcs 1 (1 + 1) (numbered (1 + 1 + (g.arcs.map arcW4).length) [[endW]]) (fun a ha => by rw [hn]; exact h4 a ha)
  rw [e1]
  show lineEr (Except.ok (GrT.mk _ _)) = _
  unfold lineEr
  rw [hn]
end Go.Proofs.YtmnnoecjedkdjaaGreatDoor.Txt
