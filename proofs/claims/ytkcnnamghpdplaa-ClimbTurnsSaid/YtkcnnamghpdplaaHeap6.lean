/- Pushed, removed, popped. -/
import Derived.Test.YtkcnnamghpdplaaHeap5
set_option linter.unusedSimpArgs false
set_option linter.unusedVariables false
namespace Go.Proofs.Ytkcnnamghpdplaa
open Go.RowKit

theorem take_flat : ∀ (xs : List It) (n : Nat), (xs.flatMap encI).take (n * 2) = (xs.take n).flatMap encI
  | [], n => by simp
  | x :: xs, 0 => by simp
  | x :: xs, n + 1 => by
    rw [List.flatMap_cons, List.take_succ_cons, List.flatMap_cons, ← take_flat xs n, show (n + 1) * 2 = n * 2 + 1 + 1 by omega]
    rfl
section
variable {w w' : World} {B b ga : Nat} {v : Value} {xs : List It} {ps : List Nat} {m : List (Option Int)}
theorem own_take {g c n : Nat} (h : Own 133 2 encI w B (.slice (some ⟨g, 0, none⟩) xs.length c) xs) (hn : n ≤ xs.length) : Own 133 2 encI w B (.slice (some ⟨g, 0, none⟩) n c) (xs.take n) := by
  have hl : (xs.take n).length = n := by rw [List.length_take]; omega
  unfold Own
  rw [hl]
  refine ⟨by rw [flat_len encI_len, hl], ?_⟩
  rcases h.2 with ⟨h0, _⟩ | ⟨g', cap, cur, hv, hg, hh, hnc, hm, hs, ht⟩
  · cases h0
  · simp only [Value.slice.injEq, Option.some.injEq, Addr.mk.injEq, and_true, true_and] at hv
    obtain ⟨rfl, rfl⟩ := hv
    refine .inr ⟨g, c, cur, rfl, hg, hh, by omega, hm, hs, ?_⟩
    rw [← take_flat, ← ht, List.take_take, Nat.min_eq_left (Nat.mul_le_mul_right _ hn)]
/-- the last thing is no longer there -/
theorem HP.shorter {g c n : Nat} (h : HP w B b ga (.slice (some ⟨g, 0, none⟩) xs.length c) xs ps) (hn : n ≤ xs.length) (id : Nat) :
    HP ((w.setCell ⟨b, 0, none⟩ (.slice (some ⟨g, 0, none⟩) n c)).setCell ⟨ga, id, none⟩ (.int .i64 0)) B b ga (.slice (some ⟨g, 0, none⟩) n c) (xs.take n) (ps.set id 0) := by
  have hb : b ≠ g := fun e => h.vb (by rw [e]; rfl)
  have hg : ga ≠ g := fun e => h.vg (by rw [e]; rfl)
  refine ⟨?_, ?_, ?_, h.lb, h.lg, h.ne, fun e => hb (by injection e with e; exact e.symm), fun e => hg (by injection e with e; exact e.symm)⟩
  · rw [List.length_set]
    have e := h.blk.set_ 0 (.slice (some ⟨g, 0, none⟩) n c)
    exact (by simpa using e : Cells (w.setCell ⟨b, 0, none⟩ (.slice (some ⟨g, 0, none⟩) n c)) b #[.slice (some ⟨g, 0, none⟩) n c, .slice (some ⟨ga, 0, none⟩) ps.length ps.length] 128).far _ _ h.ne
  · exact own_far2 (own_far2 (own_take h.own hn) (p := ⟨b, 0, none⟩) (fun e => hb (by injection e with e; exact e.symm)) _) (p := ⟨ga, id, none⟩) (fun e => hg (by injection e with e; exact e.symm)) _
  · have e := (h.row.far (k := b) 0 (.slice (some ⟨g, 0, none⟩) n c) h.ne.symm).set_ id (.int .i64 ((0 : Nat) : Int))
    rwa [atA_set] at e
end
def cId (n id : Nat) : Int := if id < n then 0 else 7
def errH7 (c : Int) : Value := if c = 0 then .nilIface else .iface 63 (.int .i64 c)
section
variable {w : World} {B b ga : Nat} {v : Value} {m : List (Option Int)}
theorem Set_any (h : Hp w B b ga v m) (id : Nat) (h1 : id ≤ 4294967295) (key : Int) (hB : B ≤ w.heap.size) :
    Calls Try.prog 63 #[.pointer (some ⟨b, 0, none⟩), .int .u32 id, .int .u64 key] w fun e w' => e = .returned (errH7 (cId m.length id)) ∧ After w B b ga v (m.set id (some key)) w' := by
  by_cases hi : id < m.length
  · have e : errH7 (cId m.length id) = .nilIface := by unfold cId errH7; rw [if_pos hi]; rfl
    rw [e]
    exact Set_in h hi key hB
  · have e : errH7 (cId m.length id) = .iface 63 (.int .i64 7) := by unfold cId errH7; rw [if_neg hi]; rfl
    rw [e, List.set_eq_of_length_le (by omega)]
    have HH := Lib.hid h
    obtain ⟨xs, ps, hp, hg, hh, hm⟩ := h
    have c1 : w.cell? ⟨b, 1, none⟩ = some (.slice (some ⟨ga, 0, none⟩) ps.length ps.length) := hp.blk.cell 1
    have C1 := Lib.hid c1
    have HI : Hid (ps.length ≤ id) := Lib.hid (by rw [hg.len]; omega)
    have HPL : Hid (ps.length ≤ 65536) := Lib.hid (by rw [hg.len]; exact hm)
    clear hp hg hh hm hi e
    go_enter Try.func63, Try.ntmps63
    go_wp2_with fail
    refine (check_out C1.out HPL.out HI.out h1).mono ?_
    rintro e w2 ⟨rfl, h⟩
    obtain rfl := h.symm
    clear h
    go_wp2_with fail
    go_ret
    exact ⟨rfl, _, HH.out, Kept.refl _ _, Fresh.refl _ _⟩
def pushM (m : List (Option Int)) (id : Nat) (key : Int) : List (Option Int) := match lookH m id with
  | some old => if old ≤ key then m else m.set id (some key)
  | none => m.set id (some key)
theorem pushM_len (m : List (Option Int)) (id : Nat) (key : Int) : (pushM m id key).length = m.length := by
  unfold pushM
  split
  · split <;> simp
  · simp
theorem look_lt {id : Nat} {k : Int} (h : lookH m id = some k) : id < m.length := by
  unfold lookH at h
  rw [List.getD_eq_getElem?_getD] at h
  cases hx : m[id]? with
  | none => rw [hx] at h; cases h
  | some o => exact lt_of_get hx
theorem Push_any (h : Hp w B b ga v m) (id : Nat) (h1 : id ≤ 4294967295) (key : Int) (hB : B ≤ w.heap.size) :
    Calls Try.prog 53 #[.pointer (some ⟨b, 0, none⟩), .int .u32 id, .int .u64 key] w fun e w' => e = .returned (errH7 (cId m.length id)) ∧ After w B b ga v (pushM m id key) w' := by
  have HH := Lib.hid h
  clear h
  cases hl : lookH m id with
  | none =>
    have HL := Lib.hid hl
    rw [show pushM m id key = m.set id (some key) by unfold pushM; rw [hl]]
    clear hl
    go_enter Try.func53, Try.ntmps53
    go_wp2_with fail
    refine (Key_any HH.out id h1).mono ?_
    rintro e w2 ⟨rfl, hd⟩
    rw [HL.out]
    simp only [gotH]
    have HD := Lib.hid hd
    have HH2 := Lib.hid (HH.out.below (hd.below _))
    clear hd
    go_wp2_with fail
    refine (Set_any HH2.out id h1 key (Nat.le_trans hB (HD.out.below w.heap.size).size)).mono ?_
    rintro e w3 ⟨rfl, v', h3, hk3, hf3⟩
    have HA : Hid (After w B b ga v (m.set id (some key)) w3) := Lib.hid ⟨v', h3, (Kept.of_below (HD.out.below _)).trans hk3, fun k hk => (hf3 k hk).imp (fun x => x) (fun x => Nat.le_trans (HD.out.below w.heap.size).size x)⟩
    clear h3 hk3 hf3
    go_wp2_with fail
    go_ret
    exact ⟨rfl, HA.out⟩
  | some old =>
    have HL := Lib.hid hl
    clear hl
    by_cases ho : old ≤ key
    · have g1 : decide (old ≤ key) = true := decide_eq_true ho
      rw [show pushM m id key = m by unfold pushM; rw [HL.out]; exact if_pos ho]
      have HO := Lib.hid ho
      clear ho
      go_enter Try.func53, Try.ntmps53
      go_wp2_with fail
      refine (Key_any HH.out id h1).mono ?_
      rintro e w2 ⟨rfl, hd⟩
      rw [HL.out]
      simp only [gotH]
      have HD := Lib.hid hd
      have HH2 := Lib.hid (HH.out.below (hd.below _))
      clear hd
      go_wp2_with fail
      go_ret
      exact ⟨by unfold cId errH7; rw [if_pos (look_lt HL.out)]; rfl, ⟨v, HH2.out, .of_below (HD.out.below _), Fresh.refl _ _⟩⟩
    · have g1 : decide (old ≤ key) = false := decide_eq_false ho
      rw [show pushM m id key = m.set id (some key) by unfold pushM; rw [HL.out]; exact if_neg ho]
      have HO := Lib.hid ho
      clear ho
      go_enter Try.func53, Try.ntmps53
      go_wp2_with fail
      refine (Key_any HH.out id h1).mono ?_
      rintro e w2 ⟨rfl, hd⟩
      rw [HL.out]
      simp only [gotH]
      have HD := Lib.hid hd
      have HH2 := Lib.hid (HH.out.below (hd.below _))
      clear hd
      go_wp2_with fail
      refine (Set_any HH2.out id h1 key (Nat.le_trans hB (HD.out.below w.heap.size).size)).mono ?_
      rintro e w3 ⟨rfl, v', h3, hk3, hf3⟩
      have HA : Hid (After w B b ga v (m.set id (some key)) w3) := Lib.hid ⟨v', h3, (Kept.of_below (HD.out.below _)).trans hk3, fun k hk => (hf3 k hk).imp (fun x => x) (fun x => Nat.le_trans (HD.out.below w.heap.size).size x)⟩
      clear h3 hk3 hf3
      go_wp2_with fail
      go_ret
      exact ⟨rfl, HA.out⟩
end
end Go.Proofs.Ytkcnnamghpdplaa
