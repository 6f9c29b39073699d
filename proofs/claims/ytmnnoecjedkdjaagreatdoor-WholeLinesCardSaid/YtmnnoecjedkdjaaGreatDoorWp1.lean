/- Lines that say nothing ahead of a text: the same graph; an error's line counted on by as many. -/
import Derived.Test.YtmnnoecjedkdjaaGreatDoorGt1
set_option linter.unusedVariables false
namespace Go.Proofs.YtmnnoecjedkdjaaGreatDoor.Txt

def emptyU : Bs := [35, 32, 10]
def wideL : Nat → Bs
  | 0 => []
  | k + 1 => emptyU ++ wideL k
theorem wideL_comm : ∀ k, wideL k ++ emptyU = emptyU ++ wideL k
  | 0 => rfl
  | k + 1 => by rw [wideL, List.append_assoc, wideL_comm k]
theorem wideL_succ (k : Nat) : wideL k ++ emptyU = wideL (k + 1) := wideL_comm k
theorem wideL_len : ∀ k, (wideL k).length = 3 * k
  | 0 => rfl
  | k + 1 => by rw [wideL, List.length_append, wideL_len k]; simp [emptyU]; omega
theorem lines_empty (t : Bs) : linesL (emptyU ++ t) = [35, 32] :: linesL t := by
  simp [emptyU, linesL, consLine]
theorem line_empty : lineT [35, 32] = .ok [] := by
  simp [lineT, cutHash, rightB, wordsL, wordsGo]
theorem rowsGo_wide (t : Bs) : ∀ (k : Nat) (n : Int), rowsGo n (linesL (wideL k ++ t)) = rowsGo (n + k) (linesL t)
  | 0, n => by simp [wideL]
  | k + 1, n => by
    rw [wideL, List.append_assoc, lines_empty, rowsGo, line_empty, rowsGo_wide t k (n + 1), show n + 1 + (k : Int) = n + ((k + 1 : Nat) : Int) by omega]
    generalize rowsGo (n + ((k + 1 : Nat) : Int)) (linesL t) = r
    cases r with
    | error e => rfl
    | ok rs => simp [rowPut]
def upRow (d : Int) (r : RowT) : RowT := ⟨r.line + d, r.ws⟩
def upRows (d : Int) : Except (Int × Int) (List RowT) → Except (Int × Int) (List RowT)
  | .error e => .error (e.1, e.2 + d)
  | .ok rs => .ok (rs.map (upRow d))
theorem rowsGo_up (d : Int) : ∀ (ls : List Bs) (n : Int), rowsGo (n + d) ls = upRows d (rowsGo n ls)
  | [], n => rfl
  | l :: ls, n => by
    rw [rowsGo, rowsGo, show n + d + 1 = n + 1 + d by omega, rowsGo_up d ls (n + 1)]
    generalize rowsGo (n + 1) ls = r
    cases lineT l with
    | error c => rfl
    | ok ws =>
      cases r with
      | error e => rfl
      | ok rs =>
        simp only [rowPut, upRows]
        split <;> simp [upRow]
theorem rowsGo_line : ∀ (ls : List Bs) (n : Int), match rowsGo n ls with
    | .error e => n ≤ e.2 ∧ e.2 < n + ls.length
    | .ok rs => ∀ r ∈ rs, n ≤ r.line ∧ r.line < n + ls.length
  | [], n => by simp [rowsGo]
  | l :: ls, n => by
    rw [rowsGo]
    have ih := rowsGo_line ls (n + 1)
    rw [List.length_cons]
    cases lineT l with
    | error c => simp only [rowPut]; omega
    | ok ws =>
      revert ih
      cases rowsGo (n + 1) ls with
      | error e => intro ih; simp only [rowPut] at ih ⊢; omega
      | ok rs =>
        intro ih
        simp only [rowPut] at ih ⊢
        intro r hr
        by_cases hw : ws = []
        · rw [if_pos hw] at hr
          have := ih r hr
          omega
        · rw [if_neg hw] at hr
          rcases List.mem_cons.1 hr with rfl | hr
          · simp only
            omega
          · have := ih r hr
            omega
theorem linesL_len : ∀ t : Bs, (linesL t).length ≤ t.length + 1
  | [] => by simp [linesL]
  | b :: r => by
    have ih := linesL_len r
    rw [linesL]
    split
    · simp only [List.length_cons]; omega
    · revert ih
      cases linesL r with
      | nil => simp [consLine]
      | cons x xs => simp only [consLine, List.length_cons]; omega
theorem formR_up (d : Int) (r : RowT) (w : Bs) (c : Nat) : formR (upRow d r) w c = formR r w c := rfl
theorem arcR_up (d : Int) (r : RowT) (n : Nat) : arcR (upRow d r) n = arcR r n := rfl
def upArcs (d : Int) : Except (Int × Int) (List ArcT × Int × List RowT) → Except (Int × Int) (List ArcT × Int × List RowT)
  | .error e => .error (e.1, e.2 + d)
  | .ok x => .ok (x.1, x.2.1 + d, x.2.2.map (upRow d))
theorem arcsGo_up (d : Int) (n : Nat) : ∀ (m : Nat) (ln : Int) (rs : List RowT), arcsGo n m (ln + d) (rs.map (upRow d)) = upArcs d (arcsGo n m ln rs)
  | 0, ln, rs => rfl
  | m + 1, ln, [] => rfl
  | m + 1, ln, r :: rs => by
    rw [List.map_cons, arcsGo, arcsGo, arcR_up]
    cases arcR r n with
    | error c => rfl
    | ok a =>
      dsimp only
      rw [show (upRow d r).line = r.line + d from rfl, arcsGo_up d n m r.line rs]
      generalize arcsGo n m r.line rs = x
      cases x with
      | error e => rfl
      | ok y => rfl
def upG (d : Int) : Except (Int × Int) GrT → Except (Int × Int) GrT
  | .error e => .error (e.1, e.2 + d)
  | .ok g => .ok g
theorem endR_up (d : Int) (n : Nat) (al : List ArcT) (ln : Int) : ∀ rs : List RowT, endR n al (ln + d) (rs.map (upRow d)) = upG d (endR n al ln rs)
  | [] => rfl
  | q :: qs => by
    rw [List.map_cons]
    unfold endR
    dsimp only
    rw [formR_up]
    cases formR q endW 1 with
    | some c => rfl
    | none => cases qs <;> rfl
theorem graphT_up (d : Int) (r : RowT) (rs : List RowT) : graphT ((r :: rs).map (upRow d)) = upG d (graphT (r :: rs)) := by
  rw [List.map_cons]
  unfold graphT
  dsimp only
  rw [formR_up, show (upRow d r).ws = r.ws from rfl, show (upRow d r).line = r.line + d from rfl]
  cases formR r graphW 3 with
  | some c => rfl
  | none =>
    dsimp only
    cases numE (r.ws.getD 1 []) 65536 9 with
    | error c => rfl
    | ok n =>
      dsimp only
      cases numE (r.ws.getD 2 []) 262144 9 with
      | error c => rfl
      | ok m =>
        dsimp only
        rw [arcsGo_up]
        generalize arcsGo n m r.line rs = x
        cases x with
        | error e => rfl
        | ok y => exact endR_up d n y.1 y.2.1 y.2.2
/-- the line of an error is the line of a row -/
theorem arcsGo_line {n : Nat} (P : Int → Prop) : ∀ (m : Nat) (ln : Int) (rs : List RowT), P ln → (∀ r ∈ rs, P r.line) → match arcsGo n m ln rs with
    | .error e => P e.2
    | .ok x => P x.2.1 ∧ ∀ r ∈ x.2.2, P r.line
  | 0, ln, rs, h, hr => ⟨h, hr⟩
  | m + 1, ln, [], h, hr => h
  | m + 1, ln, r :: rs, h, hr => by
    rw [arcsGo]
    have h1 := hr r (by simp)
    cases arcR r n with
    | error c => exact h1
    | ok a =>
      have ih := arcsGo_line (n := n) P m r.line rs h1 (fun x hx => hr x (by simp [hx]))
      dsimp only
      revert ih
      cases arcsGo n m r.line rs with
      | error e => exact id
      | ok y => exact id
theorem endR_line {n : Nat} (P : Int → Prop) {al : List ArcT} {ln : Int} {rs : List RowT} {e : Int × Int} (h : P ln) (hr : ∀ r ∈ rs, P r.line) (he : endR n al ln rs = .error e) : P e.2 := by
  cases rs with
  | nil => unfold endR at he; injection he with he; subst he; exact h
  | cons q qs =>
    unfold endR at he
    dsimp only at he
    split at he
    · injection he with he; subst he; exact hr q (by simp)
    · cases qs with
      | nil => cases he
      | cons z zs => injection he with he; subst he; exact hr z (by simp)
theorem graphT_line (P : Int → Prop) {r : RowT} {rs : List RowT} {e : Int × Int} (hr : ∀ x ∈ r :: rs, P x.line) (he : graphT (r :: rs) = .error e) : P e.2 := by
  have h1 := hr r (by simp)
  unfold graphT at he
  dsimp only at he
  split at he
  · injection he with he; subst he; exact h1
  split at he
  · injection he with he; subst he; exact h1
  rename_i n hn
  split at he
  · injection he with he; subst he; exact h1
  rename_i m hm
  have hl := arcsGo_line (n := n) P m r.line rs h1 (fun x hx => hr x (by simp [hx]))
  split at he
  · rename_i e2 h2
    rw [h2] at hl
    injection he with he
    subst he
    exact hl
  · rename_i al ln rs' h2
    rw [h2] at hl
    exact endR_line P hl.1 hl.2 he
/-- **lines that say nothing ahead of a text** -/
theorem parse_lines (s : Bs) (k : Nat) (hs : s.length ≤ 100000) (hk : k ≤ 255) :
    (∃ g, parseT s = .ok g ∧ parseT (wideL k ++ s) = .ok g) ∨
    ∃ c l, parseT s = .error (c, some (1, l)) ∧ 0 ≤ l ∧ l ≤ 100001 ∧ parseT (wideL k ++ s) = .error (c, some (1, if l = 0 then 0 else l + k)) := by
  have hll := linesL_len s
  have hl : (wideL k ++ s).length = 3 * k + s.length := by rw [List.length_append, wideL_len]
  unfold parseT rowsT
  rw [if_neg (by omega), if_neg (by omega), rowsGo_wide, rowsGo_up]
  have hline := rowsGo_line (linesL s) 1
  revert hline
  cases rowsGo 1 (linesL s) with
  | error e =>
    intro hline
    simp only at hline
    exact .inr ⟨e.1, e.2, rfl, by omega, by omega, by rw [if_neg (by omega)]; rfl⟩
  | ok rs =>
    intro hline
    simp only at hline
    cases rs with
    | nil => exact .inr ⟨5, 0, rfl, by omega, by omega, rfl⟩
    | cons r rs =>
      simp only [lineEr, upRows]
      rw [graphT_up]
      cases hg : graphT (r :: rs) with
      | error e =>
        have := graphT_line (fun x => 1 ≤ x ∧ x < 1 + (linesL s).length) hline hg
        exact .inr ⟨e.1, e.2, rfl, by omega, by omega, by rw [if_neg (by omega)]; rfl⟩
      | ok g => exact .inl ⟨g, rfl, rfl⟩
end Go.Proofs.YtmnnoecjedkdjaaGreatDoor.Txt
