/- What is read is right; a text blown up by blanks, comments and empty lines is the same graph; a written graph with a row left out, doubled, or with a word more. -/
import Derived.Test.YtngihiebkbheaaaGreatDoorGp1
set_option linter.unusedVariables false
namespace Go.Proofs.YtngihiebkbheaaaGreatDoor.Txt
open Go.Lib

/-! ### what is read is right -/
theorem numE_most {w : Bs} {most b : Int} {v : Nat} (h : numE w most b = .ok v) : (v : Int) ≤ most := by
  unfold numE at h
  split at h
  · split at h
    · cases h
    · injection h with h
      omega
  · cases h
theorem arcR_ok {r : RowT} {n : Nat} {a : ArcT} (h : arcR r n = .ok a) : arcBug a n = none := by
  unfold arcR at h
  split at h
  · cases h
  split at h
  · cases h
  rename_i x hx
  split at h
  · cases h
  rename_i y hy
  split at h
  · cases h
  rename_i z hz
  injection h with h
  subst h
  have h1 := numE_most hx
  have h2 := numE_most hy
  have h3 := numE_most hz
  exact arcBug_none.2 ⟨by simp only; omega, by simp only; omega, by simp only; omega, by simp only; omega, by simp only; omega, by simp only; omega⟩
theorem arcsGo_ok {n : Nat} : ∀ (m : Nat) (ln : Int) (rs : List RowT) (al : List ArcT) (ln' : Int) (rs' : List RowT), arcsGo n m ln rs = .ok (al, ln', rs') → al.length = m ∧ ∀ a ∈ al, arcBug a n = none
  | 0, ln, rs, al, ln', rs', h => by
    unfold arcsGo at h
    injection h with h
    injection h with h1 h2
    subst h1
    exact ⟨rfl, fun a ha => by cases ha⟩
  | m + 1, ln, [], al, ln', rs', h => by cases h
  | m + 1, ln, r :: rs, al, ln', rs', h => by
    rw [arcsGo] at h
    split at h
    · cases h
    rename_i a ha
    split at h
    · cases h
    rename_i bl l2 q hb
    injection h with h
    injection h with h1 h2
    subst h1
    obtain ⟨i1, i2⟩ := arcsGo_ok m _ rs bl l2 q hb
    refine ⟨by rw [List.length_cons, i1], fun x hx => ?_⟩
    rcases List.mem_cons.1 hx with rfl | hx
    · exact arcR_ok ha
    · exact i2 x hx
theorem endR_ok {n : Nat} {al : List ArcT} {ln : Int} {rs : List RowT} {g : GrT} (h : endR n al ln rs = .ok g) : g = ⟨n, al⟩ := by
  cases rs with
  | nil => cases h
  | cons q qs =>
    unfold endR at h
    dsimp only at h
    split at h
    · cases h
    cases qs with
    | nil => injection h with h; exact h.symm
    | cons z zs => cases h
theorem graphT_ok {rs : List RowT} {g : GrT} (h : graphT rs = .ok g) : chkT g = none := by
  cases rs with
  | nil => cases h
  | cons r rs =>
    unfold graphT at h
    dsimp only at h
    split at h
    · cases h
    split at h
    · cases h
    rename_i n hn
    split at h
    · cases h
    rename_i m hm
    split at h
    · cases h
    rename_i al ln rs' ha
    obtain ⟨h1, h2⟩ := arcsGo_ok _ _ _ _ _ _ ha
    have hg := endR_ok h
    subst hg
    have := numE_most hn
    have := numE_most hm
    exact chkT_none.2 ⟨by simp only; omega, by simp only; omega, by simp only; omega, h2⟩
theorem parse_ok {t : Bs} {g : GrT} (h : parseT t = .ok g) : chkT g = none := by
  unfold parseT at h
  split at h
  · cases h
  rename_i rows hr
  unfold lineEr at h
  split at h
  · cases h
  rename_i x hx
  injection h with h
  subst h
  exact graphT_ok hx

/-! ### the words of the rows alone tell the graph -/
theorem arcR_ws {r r' : RowT} (h : r.ws = r'.ws) (n : Nat) : arcR r n = arcR r' n := by
  cases r
  cases r'
  simp only at h
  subst h
  rfl
theorem formR_ws {r r' : RowT} (h : r.ws = r'.ws) (w : Bs) (c : Nat) : formR r w c = formR r' w c := by
  cases r
  cases r'
  simp only at h
  subst h
  rfl
theorem arcsGo_ws {n : Nat} : ∀ (m : Nat) (ln ln2 : Int) (rs rs2 : List RowT) (al : List ArcT) (l' : Int) (q : List RowT), rs.map RowT.ws = rs2.map RowT.ws → arcsGo n m ln rs = .ok (al, l', q) → ∃ l2 q2, arcsGo n m ln2 rs2 = .ok (al, l2, q2) ∧ q.map RowT.ws = q2.map RowT.ws
  | 0, ln, ln2, rs, rs2, al, l', q, he, h => by
    unfold arcsGo at h
    injection h with h
    injection h with h1 h2
    injection h2 with h2 h3
    subst h1 h3
    exact ⟨ln2, rs2, rfl, he⟩
  | m + 1, ln, ln2, [], rs2, al, l', q, he, h => by cases h
  | m + 1, ln, ln2, r :: rs, [], al, l', q, he, h => by cases he
  | m + 1, ln, ln2, r :: rs, r2 :: rs2, al, l', q, he, h => by
    rw [List.map_cons, List.map_cons] at he
    injection he with he1 he2
    rw [arcsGo] at h
    split at h
    · cases h
    rename_i a ha
    split at h
    · cases h
    rename_i bl lb qb hb
    injection h with h
    injection h with h1 h2
    injection h2 with h2 h3
    subst h1 h2 h3
    obtain ⟨l2, q2, e1, e2⟩ := arcsGo_ws m _ r2.line rs rs2 bl lb qb he2 hb
    refine ⟨l2, q2, ?_, e2⟩
    rw [arcsGo, ← arcR_ws he1, ha]
    dsimp only
    rw [e1]
theorem endR_ws {n : Nat} {al : List ArcT} {ln ln2 : Int} {q q2 : List RowT} {g : GrT} (he : q.map RowT.ws = q2.map RowT.ws) (h : endR n al ln q = .ok g) : endR n al ln2 q2 = .ok g := by
  match q, q2, he with
  | [], [], _ => cases h
  | r :: q, r2 :: q2, he =>
    rw [List.map_cons, List.map_cons] at he
    injection he with he1 he2
    unfold endR at h ⊢
    dsimp only at h ⊢
    rw [← formR_ws he1]
    split at h
    · cases h
    rename_i hf
    match q, q2, he2 with
    | [], [], _ => exact h
    | z :: zs, _, _ => cases h
theorem graphT_ws {rs rs2 : List RowT} {g : GrT} (he : rs.map RowT.ws = rs2.map RowT.ws) (h : graphT rs = .ok g) : graphT rs2 = .ok g := by
  match rs, rs2, he with
  | [], [], _ => cases h
  | r :: rs, r2 :: rs2, he =>
    rw [List.map_cons, List.map_cons] at he
    injection he with he1 he2
    unfold graphT at h ⊢
    dsimp only at h ⊢
    rw [← formR_ws he1, ← he1]
    split at h
    · cases h
    split at h
    · cases h
    rename_i n hn
    split at h
    · cases h
    rename_i m hm
    split at h
    · cases h
    rename_i al ln rs' ha
    obtain ⟨l2, q2, e1, e2⟩ := arcsGo_ws m _ r2.line rs rs2 al ln rs' he2 ha
    rw [e1]
    exact endR_ws e2 h

/-! ### the rows of lines -/
def wordsOf (ls : List Bs) : List (List Bs) := ls.flatMap fun l => match lineT l with
  | .error _ => []
  | .ok ws => if ws = [] then [] else [ws]
theorem rowsGo_ok : ∀ (ls : List Bs) (n : Int) (rs : List RowT), rowsGo n ls = .ok rs → (∀ l ∈ ls, ∃ ws, lineT l = .ok ws) ∧ rs.map RowT.ws = wordsOf ls
  | [], n, rs, h => by
    injection h with h
    subst h
    exact ⟨(fun l hl => by cases hl), rfl⟩
  | l :: ls, n, rs, h => by
    rw [rowsGo] at h
    unfold rowPut at h
    split at h
    · cases h
    · cases h
    · rename_i ws rs' hw hr
      injection h with h
      obtain ⟨i1, i2⟩ := rowsGo_ok ls _ _ hr
      refine ⟨fun x hx => ?_, ?_⟩
      · rcases List.mem_cons.1 hx with rfl | hx
        · exact ⟨ws, hw⟩
        · exact i1 x hx
      · unfold wordsOf at i2 ⊢
        rw [List.flatMap_cons, hw, ← i2, ← h]
        dsimp only
        split <;> rfl
theorem rowsGo_all : ∀ (ls : List Bs) (n : Int), (∀ l ∈ ls, ∃ ws, lineT l = .ok ws) → ∃ rs, rowsGo n ls = .ok rs
  | [], n, _ => ⟨[], rfl⟩
  | l :: ls, n, h => by
    obtain ⟨ws, hw⟩ := h l (by simp)
    obtain ⟨rs, hr⟩ := rowsGo_all ls (n + 1) fun x hx => h x (by simp [hx])
    exact ⟨_, by rw [rowsGo, hw, hr]; rfl⟩

/-! ### a text blown up -/
def wideB (b : UInt8) : Bs := if b = 10 then [9, 10, 32, 32, 35, 32, 109, 111, 114, 101, 10] else if b = 32 then [32, 9] else [b]
def widenB (t : Bs) : Bs := t.flatMap wideB
def wideL (l : Bs) : Bs := l.flatMap fun b => if b = 32 then [32, 9] else [b]
def moreW : Bs := [32, 32, 35, 32, 109, 111, 114, 101]
def headW : Bs := [35, 32, 97, 32, 103, 114, 97, 112, 104, 10, 10]
def interW : List Bs → List Bs
  | [] => []
  | [x] => [wideL x]
  | x :: y :: r => (wideL x ++ [9]) :: moreW :: interW (y :: r)
def preLine (p : Bs) : List Bs → List Bs
  | [] => [p]
  | x :: xs => (p ++ x) :: xs
theorem linesL_ne (t : Bs) : ∃ y ys, linesL t = y :: ys := by
  cases t with
  | nil => exact ⟨[], [], rfl⟩
  | cons b r =>
    rw [linesL]
    split
    · exact ⟨_, _, rfl⟩
    · cases linesL r with
      | nil => exact ⟨_, _, rfl⟩
      | cons x xs => exact ⟨_, _, rfl⟩
theorem linesL_pre : ∀ (p X : Bs), (∀ c ∈ p, c ≠ 10) → linesL (p ++ X) = preLine p (linesL X)
  | [], X, _ => by
    obtain ⟨y, ys, h⟩ := linesL_ne X
    rw [List.nil_append, h]
    rfl
  | c :: p, X, h => by
    obtain ⟨y, ys, e⟩ := linesL_ne X
    rw [List.cons_append, linesL, if_neg (h c (by simp)), linesL_pre p X (fun d hd => h d (by simp [hd])), e]
    rfl
theorem lines_wide : ∀ t : Bs, linesL (widenB t) = interW (linesL t)
  | [] => rfl
  | b :: t => by
    have ih := lines_wide t
    obtain ⟨y, ys, hy⟩ := linesL_ne t
    unfold widenB at ih ⊢
    rw [List.flatMap_cons]
    by_cases hb : b = 10
    · subst hb
      show linesL ([9] ++ 10 :: (moreW ++ 10 :: List.flatMap wideB t)) = _
      rw [linesL_line [9] _ (by decide), linesL_line moreW _ (by decide), ih, linesL, if_pos rfl, hy]
      rfl
    · have hne : ∀ c ∈ wideB b, c ≠ 10 := by
        unfold wideB
        rw [if_neg hb]
        intro c hc
        split at hc
        · revert c; decide
        · rw [List.mem_singleton.1 hc]; exact hb
      rw [linesL_pre _ _ hne, ih, linesL, if_neg hb, hy]
      have hw : wideL (b :: y) = wideB b ++ wideL y := by
        unfold wideL wideB
        rw [List.flatMap_cons, if_neg hb]
      cases ys with
      | nil =>
        show [wideB b ++ wideL y] = [wideL (b :: y)]
        rw [hw]
      | cons z zs =>
        show (wideB b ++ (wideL y ++ [9])) :: moreW :: interW (z :: zs) = (wideL (b :: y) ++ [9]) :: moreW :: interW (z :: zs)
        rw [hw, List.append_assoc]
theorem wordsGo_wide : ∀ (c w : Bs), wordsGo w (wideL c) = wordsGo w c
  | [], w => rfl
  | b :: c, w => by
    unfold wideL
    rw [List.flatMap_cons]
    have ih := wordsGo_wide c
    unfold wideL at ih
    by_cases hb : b = 32
    · subst hb
      rw [if_pos rfl]
      show wordsGo w (32 :: 9 :: List.flatMap (fun b => if b = 32 then [32, 9] else [b]) c) = _
      rw [wordsGo, if_pos (show blankU 32 = true from rfl), wordsGo, if_pos (show blankU 9 = true from rfl), if_pos rfl, ih, wordsGo, if_pos (show blankU 32 = true from rfl)]
    · rw [if_neg hb, List.singleton_append, wordsGo, wordsGo, ih, ih]
theorem wordsGo_tab : ∀ (c w : Bs), wordsGo w (c ++ [9]) = wordsGo w c
  | [], w => by
    show wordsGo w [9] = wordsGo w []
    by_cases hw : w = [] <;> simp [wordsGo, hw, blankU]
  | b :: c, w => by rw [List.cons_append, wordsGo, wordsGo, wordsGo_tab c, wordsGo_tab c]
theorem right_wide (c : Bs) : rightB (wideL c) = rightB c := by
  unfold rightB wideL
  rw [List.all_flatMap]
  congr 1
  funext b
  by_cases hb : b = 32
  · subst hb; rfl
  · rw [if_neg hb]; simp
theorem cut_wide : ∀ l : Bs, cutHash (wideL l) = wideL (cutHash l)
  | [] => rfl
  | b :: l => by
    have ih := cut_wide l
    unfold cutHash wideL at ih ⊢
    rw [List.flatMap_cons]
    by_cases hb : b = 35
    · subst hb; rfl
    · rw [List.takeWhile_cons_of_pos (a := b) (by simpa using hb), List.flatMap_cons]
      by_cases h2 : b = 32
      · subst h2
        rw [if_pos rfl]
        show (32 :: 9 :: List.flatMap (fun b => if b = 32 then [32, 9] else [b]) l : Bs).takeWhile (fun x => x != 35) = _
        rw [List.takeWhile_cons_of_pos (by decide), List.takeWhile_cons_of_pos (by decide), ih]
        rfl
      · rw [if_neg h2, List.singleton_append, List.takeWhile_cons_of_pos (by simpa using hb), ih]
        rfl
theorem cut_tab (l : Bs) : cutHash (l ++ [9]) = cutHash l ∨ cutHash (l ++ [9]) = cutHash l ++ [9] := by
  unfold cutHash
  induction l with
  | nil => exact .inr rfl
  | cons b l ih =>
    rw [List.cons_append]
    by_cases hb : b = 35
    · subst hb; exact .inl rfl
    · rw [List.takeWhile_cons_of_pos (by simpa using hb), List.takeWhile_cons_of_pos (by simpa using hb)]
      rcases ih with h | h
      · exact .inl (by rw [h])
      · exact .inr (by rw [h]; rfl)
theorem lineT_parts {l : Bs} {ws : List Bs} (h : lineT l = .ok ws) : rightB (cutHash l) = true ∧ wordsL (cutHash l) = ws := by
  unfold lineT at h
  split at h
  · cases h
  split at h
  · rename_i hr
    injection h with h
    exact ⟨hr, h⟩
  · cases h
theorem lineT_of {l : Bs} {ws : List Bs} (hl : l.length ≤ 200) (hr : rightB (cutHash l) = true) (hw : wordsL (cutHash l) = ws) : lineT l = .ok ws := by
  unfold lineT
  rw [if_neg (by omega), if_pos hr, hw]
theorem lineT_wide {l : Bs} {ws : List Bs} (h : lineT l = .ok ws) (hl : (wideL l).length ≤ 200) : lineT (wideL l) = .ok ws := by
  obtain ⟨h1, h2⟩ := lineT_parts h
  refine lineT_of hl (by rw [cut_wide, right_wide, h1]) ?_
  rw [cut_wide]
  unfold wordsL at h2 ⊢
  rw [wordsGo_wide, h2]
theorem lineT_tab {l : Bs} {ws : List Bs} (h : lineT l = .ok ws) (hl : (l ++ [9]).length ≤ 200) : lineT (l ++ [9]) = .ok ws := by
  obtain ⟨h1, h2⟩ := lineT_parts h
  rcases cut_tab l with e | e
  · exact lineT_of hl (by rw [e, h1]) (by rw [e, h2])
  · refine lineT_of hl ?_ ?_
    · rw [e]
      unfold rightB at h1 ⊢
      rw [List.all_append, h1]
      rfl
    · rw [e]
      unfold wordsL at h2 ⊢
      rw [wordsGo_tab, h2]
theorem inter_ok : ∀ ls : List Bs, (∀ l ∈ ls, ∃ ws, lineT l = .ok ws) → (∀ l ∈ interW ls, l.length ≤ 200) → (∀ l ∈ interW ls, ∃ ws, lineT l = .ok ws) ∧ wordsOf (interW ls) = wordsOf ls
  | [], _, _ => ⟨(fun l hl => by cases hl), rfl⟩
  | [x], h, hl => by
    obtain ⟨ws, hw⟩ := h x (by simp)
    have h1 := lineT_wide hw (hl (wideL x) (by simp [interW]))
    refine ⟨fun l hx => ?_, ?_⟩
    · rw [show interW [x] = [wideL x] from rfl] at hx
      rw [List.mem_singleton.1 hx]
      exact ⟨ws, h1⟩
    · unfold wordsOf
      rw [show interW [x] = [wideL x] from rfl, List.flatMap_cons, List.flatMap_cons, h1, hw]
  | x :: y :: r, h, hl => by
    rw [interW] at hl ⊢
    obtain ⟨ws, hw⟩ := h x (by simp)
    have l1 := hl (wideL x ++ [9]) (by simp)
    have h0 := lineT_wide hw (by rw [List.length_append] at l1; omega)
    have h1 := lineT_tab h0 l1
    have h2 : lineT moreW = .ok [] := rfl
    obtain ⟨i1, i2⟩ := inter_ok (y :: r) (fun l hx => h l (by simp at hx ⊢; rcases hx with rfl | hx <;> simp_all)) (fun l hx => hl l (by simp [hx]))
    refine ⟨fun l hx => ?_, ?_⟩
    · rcases List.mem_cons.1 hx with rfl | hx
      · exact ⟨ws, h1⟩
      · rcases List.mem_cons.1 hx with rfl | hx
        · exact ⟨_, h2⟩
        · exact i1 l hx
    · unfold wordsOf at i2 ⊢
      rw [List.flatMap_cons, List.flatMap_cons, List.flatMap_cons, h1, h2, hw, i2]
      rfl
/-- is a line of the text too long? -/
def longB (t : Bs) : Bool := (linesL t).any fun l => decide (200 < l.length)
theorem rows_wide {t : Bs} {rs : List RowT} {n : Int} (h : rowsGo n (linesL t) = .ok rs) (hn : longB (headW ++ widenB t) = false) : ∃ rs', rowsGo 1 (linesL (headW ++ widenB t)) = .ok rs' ∧ rs.map RowT.ws = rs'.map RowT.ws := by
  have e : linesL (headW ++ widenB t) = [35, 32, 97, 32, 103, 114, 97, 112, 104] :: [] :: interW (linesL t) := by
    rw [show headW ++ widenB t = [35, 32, 97, 32, 103, 114, 97, 112, 104] ++ 10 :: ([] ++ 10 :: widenB t) from rfl, linesL_line _ _ (by decide), linesL_line _ _ (by decide), lines_wide]
  unfold longB at hn
  rw [e] at hn ⊢
  obtain ⟨h1, h2⟩ := rowsGo_ok _ _ _ h
  rw [List.any_eq_false] at hn
  obtain ⟨i1, i2⟩ := inter_ok (linesL t) h1 (fun l hl => by have := hn l (by simp [hl]); simpa using this)
  obtain ⟨rs', hr⟩ := rowsGo_all ([35, 32, 97, 32, 103, 114, 97, 112, 104] :: [] :: interW (linesL t)) 1 (fun l hl => by
    rcases List.mem_cons.1 hl with rfl | hl
    · exact ⟨[], rfl⟩
    · rcases List.mem_cons.1 hl with rfl | hl
      · exact ⟨[], rfl⟩
      · exact i1 l hl)
  refine ⟨rs', hr, ?_⟩
  rw [h2, (rowsGo_ok _ _ _ hr).2, ← i2]
  rfl
theorem widenB_len : ∀ t : Bs, (widenB t).length ≤ 11 * t.length
  | [] => Nat.le_refl _
  | b :: t => by
    have ih := widenB_len t
    unfold widenB at ih ⊢
    rw [List.flatMap_cons, List.length_append, List.length_cons]
    have : (wideB b).length ≤ 11 := by
      unfold wideB
      split
      · decide
      · split <;> simp
    omega
theorem parse_rows {t : Bs} {g : GrT} (h : parseT t = .ok g) : ∃ rs, rowsGo 1 (linesL t) = .ok rs ∧ graphT rs = .ok g := by
  unfold parseT rowsT at h
  split at h
  · cases h
  rename_i rows hr
  split at hr
  · cases hr
  unfold lineEr at hr h
  split at hr
  · cases hr
  rename_i rs hx
  injection hr with hr
  subst hr
  split at h
  · cases h
  rename_i y hy
  injection h with h
  subst h
  exact ⟨rs, hx, hy⟩
/-- **a text blown up is the same graph, or has a line that is too long** -/
theorem parse_wide {t : Bs} {g : GrT} (h : parseT t = .ok g) (hl : t.length ≤ 2000) : (longB (headW ++ widenB t) = true ∧ ∃ e, parseT (headW ++ widenB t) = .error e) ∨ parseT (headW ++ widenB t) = .ok g := by
  obtain ⟨rs, h1, h2⟩ := parse_rows h
  have hlen := widenB_len t
  cases hb : longB (headW ++ widenB t) with
  | true =>
    refine .inl ⟨rfl, ?_⟩
    cases hp : parseT (headW ++ widenB t) with
    | error e => exact ⟨e, rfl⟩
    | ok g2 =>
      exfalso
      obtain ⟨rs2, h3, h4⟩ := parse_rows hp
      unfold longB at hb
      obtain ⟨l, hl1, hl2⟩ := List.any_eq_true.1 hb
      obtain ⟨ws, hw⟩ := (rowsGo_ok _ _ _ h3).1 l hl1
      unfold lineT at hw
      rw [if_pos (of_decide_eq_true hl2)] at hw
      cases hw
  | false =>
    refine .inr ?_
    obtain ⟨rs', h3, h4⟩ := rows_wide h1 hb
    unfold parseT rowsT
    rw [if_neg (by rw [List.length_append]; simp [headW]; omega), h3]
    show lineEr (graphT rs') = _
    rw [graphT_ws h4 h2]
    rfl

/-! ### a written graph with a row turned -/
/-- behind arcs' rows -/
theorem arcsGo_more {n : Nat} : ∀ (al : List ArcT) (j : Nat) (ln k : Int) (rs : List RowT), (∀ a ∈ al, arcBug a n = none) → ∃ ln', arcsGo n (al.length + j) ln (numbered k (al.map arcW4) ++ rs) = match arcsGo n j ln' rs with
    | .error e => .error e
    | .ok (bl, l, q) => .ok (al ++ bl, l, q)
  | [], j, ln, k, rs, _ => ⟨ln, by
    rw [List.length_nil, Nat.zero_add]
    show arcsGo n j ln rs = _
    cases arcsGo n j ln rs with
    | error e => rfl
    | ok x => rfl⟩
  | a :: al, j, ln, k, rs, h => by
    obtain ⟨ln', e⟩ := arcsGo_more al j k (k + 1) rs (fun x hx => h x (by simp [hx]))
    refine ⟨ln', ?_⟩
    rw [List.map_cons, numbered, List.length_cons, List.cons_append, show al.length + 1 + j = (al.length + j) + 1 by omega, arcsGo, arcR_row (h a (by simp))]
    dsimp only
    rw [e]
    cases arcsGo n j ln' rs with
    | error e => rfl
    | ok x => rfl
theorem textOf_len : ∀ L : List (List Bs), (∀ ws ∈ L, RowOk ws) → (textOf L).length ≤ 201 * L.length
  | [], _ => Nat.le_refl _
  | ws :: L, h => by
    have ih := textOf_len L fun x hx => h x (by simp [hx])
    have h1 := (h ws (by simp)).2.2
    unfold textOf at ih ⊢
    rw [List.flatMap_cons, List.length_append, List.length_append]
    simp only [List.length_cons, List.length_nil]
    omega
def headRow (g : GrT) : List Bs := [graphW, numB g.n, numB g.arcs.length]
theorem parse_head {g : GrT} (h : chkT g = none) (hm : g.arcs.length ≤ 200) {L : List (List Bs)} (hL : ∀ ws ∈ L, RowOk ws) (hlen : L.length ≤ 300) : parseT (textOf (headRow g :: L)) = lineEr (match arcsGo g.n.toNat g.arcs.length 1 (numbered 2 L) with
      | .error e => .error e
      | .ok (al, ln', rs') => endR g.n.toNat al ln' rs') := by
  obtain ⟨h1, h2, h3, h4⟩ := chkT_none.1 h
  have hall : ∀ ws ∈ headRow g :: L, RowOk ws := fun ws hw => by
    rcases List.mem_cons.1 hw with rfl | hw
    · exact rowOk_head h1 h2 h3
    · exact hL ws hw
  rw [parse_text hall (by have := textOf_len _ hall; rw [List.length_cons] at this; omega)]
  rw [numbered]
  unfold headRow
  rw [graphT_head h1 h2 h3]
  rfl
theorem rows_ok {g : GrT} (h : chkT g = none) {al : List ArcT} (hal : ∀ a ∈ al, a ∈ g.arcs) : ∀ ws ∈ al.map arcW4 ++ [[endW]], RowOk ws := by
  obtain ⟨h1, h2, h3, h4⟩ := chkT_none.1 h
  intro ws hw
  rcases List.mem_append.1 hw with hw | hw
  · obtain ⟨a, ha, rfl⟩ := List.mem_map.1 hw
    exact rowOk_arc h2 (h4 a (hal a ha))
  · rw [List.mem_singleton.1 hw]
    exact rowOk_end
theorem numbered_map_len (al : List ArcT) (k : Int) : k + (al.map arcW4).length = k + al.length := by rw [List.length_map]
theorem eraseIdx_map' {α β : Type} (f : α → β) : ∀ (l : List α) (j : Nat), (l.map f).eraseIdx j = (l.eraseIdx j).map f
  | [], _ => by simp
  | x :: l, 0 => rfl
  | x :: l, j + 1 => by
    rw [List.map_cons, List.eraseIdx_cons_succ, List.eraseIdx_cons_succ, eraseIdx_map' f l j, List.map_cons]
/-- **a row left out** -/
theorem parse_out {g : GrT} (h : chkT g = none) (hm : g.arcs.length ≤ 200) {k : Nat} (hk1 : 1 ≤ k) (hk2 : k ≤ g.arcs.length) : parseT (textOf ((graphL g).eraseIdx k)) = .error (3, some (1, (g.arcs.length : Int) + 1)) := by
  obtain ⟨h1, h2, h3, h4⟩ := chkT_none.1 h
  have hn : ((g.n.toNat : Nat) : Int) = g.n := by omega
  have e : (graphL g).eraseIdx k = headRow g :: ((g.arcs.eraseIdx (k - 1)).map arcW4 ++ [[endW]]) := by
    obtain ⟨j, rfl⟩ : ∃ j, k = j + 1 := ⟨k - 1, by omega⟩
    show _ :: List.eraseIdx (g.arcs.map arcW4 ++ [[endW]]) j = _
    rw [List.eraseIdx_append_of_lt_length (by rw [List.length_map]; omega), eraseIdx_map']
    rfl
  have hmem : ∀ a ∈ g.arcs.eraseIdx (k - 1), a ∈ g.arcs := fun a ha => List.mem_of_mem_eraseIdx ha
  have hl : (g.arcs.eraseIdx (k - 1)).length + 1 = g.arcs.length := by rw [List.length_eraseIdx_of_lt (by omega)]; omega
  rw [e, parse_head h hm (rows_ok h hmem) (by rw [List.length_append, List.length_map]; simp; omega), numbered_append]
  generalize g.arcs.eraseIdx (k - 1) = al at *
  obtain ⟨ln', e1⟩ := arcsGo_more (n := g.n.toNat) al 1 1 2 (numbered (2 + (al.map arcW4).length) [[endW]]) (fun a ha => by rw [hn]; exact h4 a (hmem a ha))
  rw [← hl, e1]
  show lineEr (Except.error (3, (2 : Int) + (al.map arcW4).length)) = _
  unfold lineEr
  simp only [List.length_map]
  congr 4
  omega
/-- **a row doubled** -/
theorem parse_twice {g : GrT} (h : chkT g = none) (hm : g.arcs.length ≤ 200) {k : Nat} (hk1 : 1 ≤ k) (hk2 : k ≤ g.arcs.length) : parseT (textOf ((graphL g).take (k + 1) ++ (graphL g).drop k)) = .error (3, some (1, (g.arcs.length : Int) + 2)) := by
  obtain ⟨h1, h2, h3, h4⟩ := chkT_none.1 h
  have hn : ((g.n.toNat : Nat) : Int) = g.n := by omega
  have e : (graphL g).take (k + 1) ++ (graphL g).drop k = headRow g :: ((g.arcs.take k ++ g.arcs.drop (k - 1)).map arcW4 ++ [[endW]]) := by
    obtain ⟨j, rfl⟩ : ∃ j, k = j + 1 := ⟨k - 1, by omega⟩
    show headRow g :: (List.take (j + 1) (g.arcs.map arcW4 ++ [[endW]])) ++ List.drop j (g.arcs.map arcW4 ++ [[endW]]) = _
    rw [List.take_append_of_le_length (by rw [List.length_map]; omega), List.drop_append_of_le_length (by rw [List.length_map]; omega), List.map_append, List.map_take, List.map_drop, List.append_assoc]
    rfl
  have hmem : ∀ a ∈ g.arcs.take k ++ g.arcs.drop (k - 1), a ∈ g.arcs := fun a ha => (List.mem_append.1 ha).elim List.mem_of_mem_take List.mem_of_mem_drop
  have hl : (g.arcs.take k ++ g.arcs.drop (k - 1)).length = g.arcs.length + 1 := by rw [List.length_append, List.length_take, List.length_drop]; omega
  rw [e, parse_head h hm (rows_ok h hmem) (by rw [List.length_append, List.length_map]; simp; omega)]
  generalize g.arcs.take k ++ g.arcs.drop (k - 1) = al at *
  have hne : al ≠ [] := fun e => by rw [e] at hl; simp at hl
  rw [← List.dropLast_concat_getLast hne] at hl hmem ⊢
  generalize al.dropLast = bl at *
  generalize al.getLast hne = z at *
  rw [List.length_append, List.length_singleton] at hl
  have hb : bl.length = g.arcs.length := by omega
  rw [List.map_append, List.append_assoc, numbered_append]
  obtain ⟨ln', e1⟩ := arcsGo_more (n := g.n.toNat) bl 0 1 2 (numbered (2 + (bl.map arcW4).length) ([z].map arcW4 ++ [[endW]])) (fun a ha => by rw [hn]; exact h4 a (hmem a (by simp [ha])))
  rw [← hb, ← Nat.add_zero bl.length, e1]
  show lineEr (Except.error (3, (2 : Int) + (bl.map arcW4).length)) = _
  unfold lineEr
  simp only [List.length_map]
  congr 4
  omega
/-- **a row with a word more** -/
theorem parse_more {g : GrT} (h : chkT g = none) (hm : g.arcs.length ≤ 200) {p q : List ArcT} {z : ArcT} (hp : g.arcs = p ++ z :: q) : parseT (textOf (headRow g :: (p.map arcW4 ++ (arcW4 z ++ [[48]]) :: (q.map arcW4 ++ [[endW]])))) = .error (6, some (1, (p.length : Int) + 2)) := by
  obtain ⟨h1, h2, h3, h4⟩ := chkT_none.1 h
  have hn : ((g.n.toNat : Nat) : Int) = g.n := by omega
  have hl : g.arcs.length = p.length + (q.length + 1) := by rw [hp]; simp
  have hz : arcBug z g.n = none := h4 z (by rw [hp]; simp)
  have hgood : goodW [48] := goodW_of (by decide) (by decide)
  have hzrow : RowOk (arcW4 z ++ [[48]]) := by
    obtain ⟨h1, h2', h3, h4, h5, h6⟩ := arcBug_none.1 hz
    have l1 := numB_len h1 (by omega)
    have l2 := numB_len h3 (by omega)
    have l3 := numB_len h5 (by omega)
    refine ⟨by simp [arcW4], fun x hx => ?_, ?_⟩
    · simp only [arcW4, List.mem_cons, List.mem_append, List.not_mem_nil, or_false] at hx
      rcases hx with (rfl | rfl | rfl | rfl) | rfl
      · exact goodW_arc
      · exact goodW_numB h1
      · exact goodW_numB h3
      · exact goodW_numB h5
      · exact hgood
    · simp [arcW4, joinW, arcW]
      omega
  have hrows : ∀ ws ∈ p.map arcW4 ++ (arcW4 z ++ [[48]]) :: (q.map arcW4 ++ [[endW]]), RowOk ws := fun ws hw => by
    rcases List.mem_append.1 hw with hw | hw
    · obtain ⟨a, ha, rfl⟩ := List.mem_map.1 hw
      exact rowOk_arc h2 (h4 a (by rw [hp]; simp [ha]))
    · rcases List.mem_cons.1 hw with rfl | hw
      · exact hzrow
      · exact rows_ok h (al := q) (fun a ha => by rw [hp]; simp [ha]) ws hw
  rw [parse_head h hm hrows (by simp; omega), numbered_append]
  obtain ⟨ln', e1⟩ := arcsGo_more (n := g.n.toNat) p (q.length + 1) 1 2 (numbered (2 + (p.map arcW4).length) ((arcW4 z ++ [[48]]) :: (q.map arcW4 ++ [[endW]]))) (fun a ha => by rw [hn]; exact h4 a (by rw [hp]; simp [ha]))
  rw [hl, e1]
  show lineEr (Except.error (6, (2 : Int) + (p.map arcW4).length)) = _
  unfold lineEr
  simp only [List.length_map]
  congr 4
  omega
end Go.Proofs.YtngihiebkbheaaaGreatDoor.Txt
