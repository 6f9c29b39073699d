/- A graph's text in plain words: lines, words, rows, numbers; the fields of a line by runes are its words by bytes. -/
import Derived.Lib.FieldsP
import Derived.Lib.MapLaws
import Derived.Lib.RuneCountTail
import Derived.Lib.RuneCount
import Derived.Test.YtmnnoecjedkdjaaGreatDoorRows
set_option linter.unusedVariables false
namespace Go.Proofs.YtmnnoecjedkdjaaGreatDoor.Txt

abbrev Bs := List UInt8
def blankU (b : UInt8) : Bool := b == 32 || b == 9 || b == 13
def goodU (b : UInt8) : Bool := decide (33 ≤ b.toNat ∧ b.toNat ≤ 126)
/-- the words of what is left, the word under way ahead -/
def wordsGo : Bs → Bs → List Bs
  | w, [] => if w = [] then [] else [w]
  | w, b :: r => if blankU b = true then (if w = [] then wordsGo [] r else w :: wordsGo [] r) else wordsGo (w ++ [b]) r
def wordsL (l : Bs) : List Bs := wordsGo [] l
def rightB (l : Bs) : Bool := l.all fun b => blankU b || goodU b
def cutHash (l : Bs) : Bs := l.takeWhile (· != 35)
/-- a line: its words, or what is wrong with it -/
def lineT (l : Bs) : Except Int (List Bs) := if 200 < l.length then .error 2 else if rightB (cutHash l) = true then .ok (wordsL (cutHash l)) else .error 3
def consLine (b : UInt8) : List Bs → List Bs
  | [] => [[b]]
  | x :: xs => (b :: x) :: xs
/-- the lines of a text (one more than it has line feeds) -/
def linesL : Bs → List Bs
  | [] => [[]]
  | b :: r => if b = 10 then [] :: linesL r else consLine b (linesL r)
structure RowT where
  line : Int
  ws : List Bs
/-- a line's row ahead of the others -/
def rowPut (n : Int) : Except Int (List Bs) → Except (Int × Int) (List RowT) → Except (Int × Int) (List RowT)
  | .error c, _ => .error (c, n)
  | .ok _, .error e => .error e
  | .ok ws, .ok rs => .ok (if ws = [] then rs else ⟨n, ws⟩ :: rs)
def rowsGo : Int → List Bs → Except (Int × Int) (List RowT)
  | _, [] => .ok []
  | n, l :: ls => rowPut n (lineT l) (rowsGo (n + 1) ls)
abbrev Er := Int × Option (Int × Int)
/-- an error gets its line -/
def lineEr {α : Type} : Except (Int × Int) α → Except Er α
  | .error e => .error (e.1, some (1, e.2))
  | .ok x => .ok x
def rowsT (t : Bs) : Except Er (List RowT) := if 1048576 < t.length then .error (2, none) else lineEr (rowsGo 1 (linesL t))
def digitU (b : UInt8) : Bool := decide (48 ≤ b.toNat ∧ b.toNat ≤ 57)
def formB (w : Bs) : Bool := w.all digitU && (decide (w.length = 1) || decide (1 < w.length ∧ w.head? ≠ some 48))
def valN (w : Bs) : Nat := w.foldl (fun v b => 10 * v + (b.toNat - 48)) 0
def numT (w : Bs) (most : Nat) : Except Int Nat := if formB w = true then (if most < valN w then .error 1 else .ok (valN w)) else .error 4
/-- a number of a row; what is above most is told by another error -/
def numE (w : Bs) (most : Int) (beyond : Int) : Except Int Nat := if formB w = true then (if most < (valN w : Int) then .error beyond else .ok (valN w)) else .error 4
def formR (r : RowT) (word : Bs) (cnt : Nat) : Option Int := if r.ws.head? ≠ some word then some 3 else if r.ws.length < cnt then some 5 else if cnt < r.ws.length then some 6 else none
def graphW : Bs := [103, 114, 97, 112, 104]
def arcW : Bs := [97, 114, 99]
def endW : Bs := [101, 110, 100]
structure ArcT where
  f : Int
  t : Int
  w : Int
structure GrT where
  n : Int
  arcs : List ArcT
def arcR (r : RowT) (n : Nat) : Except Int ArcT := match formR r arcW 4 with
  | some c => .error c
  | none => match numE (r.ws.getD 1 []) ((n : Int) - 1) 7 with
    | .error c => .error c
    | .ok a => match numE (r.ws.getD 2 []) ((n : Int) - 1) 7 with
      | .error c => .error c
      | .ok b => match numE (r.ws.getD 3 []) 2147483647 8 with
        | .error c => .error c
        | .ok w => .ok ⟨a, b, w⟩
/-- so many arcs from the rows; ln: the line of the row at hand -/
def arcsGo (n : Nat) : Nat → Int → List RowT → Except (Int × Int) (List ArcT × Int × List RowT)
  | 0, ln, rs => .ok ([], ln, rs)
  | _ + 1, ln, [] => .error (5, ln)
  | m + 1, ln, r :: rs => match arcR r n with
    | .error c => .error (c, r.line)
    | .ok a => match arcsGo n m r.line rs with
      | .error e => .error e
      | .ok (al, ln', rs') => .ok (a :: al, ln', rs')
def endR (n : Nat) (al : List ArcT) (ln : Int) : List RowT → Except (Int × Int) GrT
  | [] => .error (5, ln)
  | q :: qs => match formR q endW 1 with
    | some c => .error (c, q.line)
    | none => match qs with
      | [] => .ok ⟨n, al⟩
      | z :: _ => .error (6, z.line)
def graphT : List RowT → Except (Int × Int) GrT
  | [] => .error (5, 0)
  | r :: rs => match formR r graphW 3 with
    | some c => .error (c, r.line)
    | none => match numE (r.ws.getD 1 []) 65536 9 with
      | .error c => .error (c, r.line)
      | .ok n => match numE (r.ws.getD 2 []) 262144 9 with
        | .error c => .error (c, r.line)
        | .ok m => match arcsGo n m r.line rs with
          | .error e => .error e
          | .ok (al, ln, rs') => endR n al ln rs'
def parseT (t : Bs) : Except Er GrT := match rowsT t with
  | .error e => .error e
  | .ok rows => lineEr (graphT rows)

/-! ### fields by runes are words by bytes -/
theorem wordsGo_solid : ∀ (q w r : Bs), (∀ b ∈ q, blankU b = false) → wordsGo w (q ++ r) = wordsGo (w ++ q) r
  | [], w, r, _ => by simp
  | b :: q, w, r, h => by
    have hb := h b (by simp)
    rw [List.cons_append, wordsGo, if_neg (by rw [hb]; exact Bool.false_ne_true), wordsGo_solid q (w ++ [b]) r (fun x hx => h x (by simp [hx])), List.append_assoc]
    rfl
theorem blank_high {b : UInt8} (h : 128 ≤ b.toNat) : blankU b = false := by
  unfold blankU
  rw [Bool.or_eq_false_iff, Bool.or_eq_false_iff, beq_eq_false_iff_ne, beq_eq_false_iff_ne, beq_eq_false_iff_ne]
  refine ⟨⟨?_, ?_⟩, ?_⟩ <;> (rintro rfl; revert h; decide)
/-- which runes part words -/
def partsR (r : Nat) : Bool := r == 32 || r == 9 || r == 13
theorem dec_step (s : ByteArray) (pos : Nat) (h : pos < s.size) :
    ((s.get! pos).toNat < 128 ∧ Utf8.decode s pos = ((s.get! pos).toNat, 1)) ∨
    (128 ≤ (Utf8.decode s pos).1 ∧ 1 ≤ (Utf8.decode s pos).2 ∧ pos + (Utf8.decode s pos).2 ≤ s.size ∧ ∀ i, i < (Utf8.decode s pos).2 → 128 ≤ (s.get! (pos + i)).toNat) := by
  rw [Lib.decode_at]
  by_cases h0 : (s.get! pos).toNat < 128
  · refine .inl ⟨h0, ?_⟩
    unfold Lib.decodeN
    rw [if_pos h0]
  · refine .inr ?_
    rcases Lib.decodeN_shape (s.size - pos) (s.get! pos).toNat (s.get! (pos + 1)).toNat (s.get! (pos + 2)).toNat (s.get! (pos + 3)).toNat with ⟨h1, -⟩ | ⟨a1, a2, a3, a4, e⟩ | ⟨a1, a2, a3, a4, a5, a6, e⟩ | ⟨a1, a2, a3, a4, a5, a6, a7, e⟩ | e
    · exact absurd h1 h0
    · rw [e]
      refine ⟨a4, by simp, by simp only; omega, fun i hi => ?_⟩
      simp only at hi
      match i, hi with
      | 0, _ => exact Nat.le_of_not_lt h0
      | 1, _ => omega
    · rw [e]
      refine ⟨by simp only; omega, by simp, by simp only; omega, fun i hi => ?_⟩
      simp only at hi
      match i, hi with
      | 0, _ => exact Nat.le_of_not_lt h0
      | 1, _ => omega
      | 2, _ => omega
    · rw [e]
      refine ⟨by simp only; omega, by simp, by simp only; omega, fun i hi => ?_⟩
      simp only at hi
      match i, hi with
      | 0, _ => exact Nat.le_of_not_lt h0
      | 1, _ => omega
      | 2, _ => omega
      | 3, _ => omega
    · rw [e]
      refine ⟨by simp, by simp, by simp only; omega, fun i hi => ?_⟩
      simp only at hi
      match i, hi with
      | 0, _ => exact Nat.le_of_not_lt h0
theorem get_at (s : ByteArray) {i : Nat} (hi : i < s.data.toList.length) : s.get! i = s.data.toList[i] := by
  rw [← Lib.getD_get!' s i, List.getD_eq_getElem?_getD, List.getElem?_eq_getElem hi]
  rfl
theorem size_list (s : ByteArray) : s.data.toList.length = s.size := by rw [Array.length_toList]; rfl
theorem spans_words (s : ByteArray) : ∀ (f pos : Nat) (st : Option Nat) (acc : List (Nat × Nat)), s.size ≤ pos + f → pos ≤ s.size → (∀ a, st = some a → a < pos) →
    acc.map (fun p => Lib.pieceU s.data.toList p.1 p.2) ++ wordsGo (Lib.openPiece s.data.toList st pos) (s.data.toList.drop pos) = (Lib.closeSpans s (Lib.spansFromP partsR s f pos st acc)).map (fun p => Lib.pieceU s.data.toList p.1 p.2)
  | 0, pos, st, acc, h, hp, hst => by
    obtain rfl : pos = s.size := by omega
    have hd : s.data.toList.drop s.size = [] := List.drop_eq_nil_of_le (by rw [size_list]; exact Nat.le_refl _)
    rw [hd]
    cases st with
    | none => simp [Lib.spansFromP, Lib.closeSpans, Lib.openPiece, wordsGo]
    | some a =>
      have := Lib.pieceU_ne s.data.toList a s.size (hst a rfl) (by rw [size_list]; exact Nat.le_refl _)
      simp [Lib.spansFromP, Lib.closeSpans, Lib.openPiece, wordsGo, this]
  | f + 1, pos, st, acc, h, hp, hst => by
    by_cases hlt : pos < s.size
    · have hll : pos < s.data.toList.length := by rw [size_list]; exact hlt
      have hdr : s.data.toList.drop pos = s.data.toList[pos] :: s.data.toList.drop (pos + 1) := List.drop_eq_getElem_cons hll
      unfold Lib.spansFromP
      rw [if_pos hlt]
      rcases dec_step s pos hlt with ⟨h0, e⟩ | ⟨h1, h2, h3, h4⟩
      · rw [e]
        dsimp only
        rw [get_at s hll] at h0 ⊢
        have hpr : partsR (s.data.toList[pos]).toNat = blankU s.data.toList[pos] := by
          unfold partsR blankU
          have one : ∀ (x y : UInt8), (x.toNat == y.toNat) = (x == y) := fun x y => by
            by_cases hxy : x = y
            · subst hxy; simp
            · rw [beq_eq_false_iff_ne.2 hxy, beq_eq_false_iff_ne]
              exact fun hh => hxy (UInt8.toNat_inj.1 hh)
          exact congr (congrArg _ (congr (congrArg _ (one _ 32)) (one _ 9))) (one _ 13)
        rw [hpr, hdr, wordsGo]
        cases hb : blankU s.data.toList[pos] with
        | true =>
          rw [if_pos rfl, if_pos rfl]
          cases st with
          | none =>
            have ih := spans_words s f (pos + 1) none acc (by omega) (by omega) (fun a h => by cases h)
            simpa [Lib.openPiece] using ih
          | some a =>
            have hpn := Lib.pieceU_ne s.data.toList a pos (hst a rfl) (by omega)
            have ih := spans_words s f (pos + 1) none (acc ++ [(a, pos)]) (by omega) (by omega) (fun a h => by cases h)
            simpa [Lib.openPiece, hpn] using ih
        | false =>
          rw [if_neg Bool.false_ne_true, if_neg Bool.false_ne_true]
          have e1 : [s.data.toList[pos]] = (s.data.toList.drop pos).take 1 := by rw [hdr]; rfl
          cases st with
          | none =>
            have ih := spans_words s f (pos + 1) (some pos) acc (by omega) (by omega) (fun a h => by cases h; omega)
            have e2 : ([] : Bs) ++ [s.data.toList[pos]] = Lib.pieceU s.data.toList pos (pos + 1) := by
              unfold Lib.pieceU
              rw [List.nil_append, Nat.add_sub_cancel_left, e1]
            simp only [Lib.openPiece] at ih ⊢
            rw [e2]
            exact ih
          | some a =>
            have ih := spans_words s f (pos + 1) (some a) acc (by omega) (by omega) (fun b h => by cases h; have := hst a rfl; omega)
            simp only [Lib.openPiece] at ih ⊢
            rw [e1, Lib.pieceU_grow _ _ _ _ (by have := hst a rfl; omega)]
            exact ih
      · have hnp : partsR (Utf8.decode s pos).1 = false := by
          unfold partsR
          rw [Bool.or_eq_false_iff, Bool.or_eq_false_iff, beq_eq_false_iff_ne, beq_eq_false_iff_ne, beq_eq_false_iff_ne]
          omega
        rw [hnp]
        generalize (Utf8.decode s pos).2 = k at *
        have hsol : ∀ b ∈ (s.data.toList.drop pos).take k, blankU b = false := by
          intro b hb
          obtain ⟨i, hi, rfl⟩ := List.getElem_of_mem hb
          have hik : i < k := by rw [List.length_take] at hi; omega
          have hil : pos + i < s.data.toList.length := by rw [size_list]; omega
          have := h4 i hik
          rw [get_at s hil] at this
          refine blank_high ?_
          rw [List.getElem_take, List.getElem_drop]
          exact this
        have hcut : s.data.toList.drop pos = (s.data.toList.drop pos).take k ++ s.data.toList.drop (pos + k) := by
          rw [← List.drop_drop, List.take_append_drop]
        rw [if_neg Bool.false_ne_true, hcut, wordsGo_solid _ _ _ hsol]
        cases st with
        | none =>
          have ih := spans_words s f (pos + k) (some pos) acc (by omega) (by omega) (fun a h => by cases h; omega)
          have e2 : ([] : Bs) ++ (s.data.toList.drop pos).take k = Lib.pieceU s.data.toList pos (pos + k) := by
            unfold Lib.pieceU
            rw [List.nil_append, Nat.add_sub_cancel_left]
          simp only [Lib.openPiece] at ih ⊢
          rw [e2]
          exact ih
        | some a =>
          have ih := spans_words s f (pos + k) (some a) acc (by omega) (by omega) (fun b h => by cases h; have := hst a rfl; omega)
          simp only [Lib.openPiece] at ih ⊢
          rw [Lib.pieceU_grow _ _ _ _ (by have := hst a rfl; omega)]
          exact ih
    · obtain rfl : pos = s.size := by omega
      rw [Lib.spansFromP_end _ _ _ _ _ _ hlt]
      have hd : s.data.toList.drop s.size = [] := List.drop_eq_nil_of_le (by rw [size_list]; exact Nat.le_refl _)
      rw [hd]
      cases st with
      | none => simp [Lib.closeSpans, Lib.openPiece, wordsGo]
      | some a =>
        have := Lib.pieceU_ne s.data.toList a s.size (hst a rfl) (by rw [size_list]; exact Nat.le_refl _)
        simp [Lib.closeSpans, Lib.openPiece, wordsGo, this]
theorem extract_piece (s : ByteArray) (a b : Nat) : (s.extract a b).data.toList = Lib.pieceU s.data.toList a b := by
  unfold Lib.pieceU
  rw [ByteArray.data_extract, Array.toList_extract, List.extract_eq_take_drop]
/-- **the fields of a line are its words** -/
theorem fields_words (s : ByteArray) : (Lib.goFieldsP partsR s).map (fun x => x.data.toList) = wordsL s.data.toList := by
  have h := spans_words s s.size 0 none [] (by omega) (by omega) (fun a h => by cases h)
  unfold Lib.goFieldsP Lib.spansOfP
  rw [List.map_map]
  have e : ((fun x : ByteArray => x.data.toList) ∘ fun x : Nat × Nat => s.extract x.1 x.2) = fun p => Lib.pieceU s.data.toList p.1 p.2 := funext fun p => extract_piece s p.1 p.2
  rw [e, ← h]
  rfl
/-- all words are good where the line is right -/
theorem words_right : ∀ (l w : Bs), (wordsGo w l).all (fun x => x.all goodU) = (w.all goodU && l.all fun b => blankU b || goodU b)
  | [], w => by
    by_cases hw : w = []
    · subst hw; rfl
    · simp [wordsGo, hw]
  | b :: r, w => by
    rw [wordsGo]
    cases hb : blankU b with
    | true =>
      rw [if_pos rfl]
      by_cases hw : w = []
      · subst hw
        rw [if_pos rfl, words_right r []]
        simp [hb]
      · rw [if_neg hw, List.all_cons, words_right r []]
        simp [hb]
    | false =>
      rw [if_neg Bool.false_ne_true, words_right r (w ++ [b])]
      simp [hb, Bool.and_assoc]
theorem wordsL_right (l : Bs) : (wordsL l).all (fun x => x.all goodU) = rightB l := by
  unfold wordsL rightB
  rw [words_right l []]
  rfl
end Go.Proofs.YtmnnoecjedkdjaaGreatDoor.Txt
