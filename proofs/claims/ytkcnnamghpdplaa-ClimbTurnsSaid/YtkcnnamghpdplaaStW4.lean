/- What a stamp holds, as a list of perhaps-numbers; each call by it. The comparison of two lists of numbers. -/
import Derived.Test.YtkcnnamghpdplaaStW3
set_option linter.unusedSimpArgs false
set_option linter.unusedVariables false
namespace Go.Proofs.Ytkcnnamghpdplaa.Stp
open Go.RowKit

/-! ### what a stamp holds -/
def seen (age : Int) (cs : List (Int × Int)) : List (Option Int) := cs.map fun p => if p.2 = age then some p.1 else none
def St (w : World) (b g : Nat) (m : List (Option Int)) : Prop :=
  ∃ age cnt cs, Phys w b g m.length age cnt cs ∧ 1 ≤ age ∧ age ≤ 4294967295 ∧ (∀ p ∈ cs, 0 ≤ p.2 ∧ p.2 ≤ age) ∧ cnt = (m.countP Option.isSome : Nat) ∧ seen age cs = m
def look (m : List (Option Int)) (i : Int) : Option Int := if 0 ≤ i then m.getD i.toNat none else none
def put (m : List (Option Int)) (i v : Int) : List (Option Int) := if 0 ≤ i then m.set i.toNat (some v) else m
def got : Option Int → Value
  | some v => .tuple #[.int .u64 v, .bool true]
  | none => .tuple #[.int .u64 0, .bool false]
def empty (n : Nat) : List (Option Int) := List.replicate n none
def marks (m : List (Option Int)) : List Int := picks (fun i => (m.getD i none).isSome) m.length
def held (m : List (Option Int)) : Int := (m.countP Option.isSome : Nat)
theorem put_len (m : List (Option Int)) (i v : Int) : (put m i v).length = m.length := by unfold put; split <;> simp
section
variable {b g : Nat} {m : List (Option Int)} {w : World}
theorem held_empty (n : Nat) : held (empty n) = 0 := by simp [held, empty, List.countP_replicate]
theorem seen_none {age : Int} {cs : List (Int × Int)} (h : ∀ p ∈ cs, ¬ p.2 = age) : seen age cs = empty cs.length := by
  unfold seen empty
  rw [List.eq_replicate_iff]
  refine ⟨by simp, fun x hx => ?_⟩
  obtain ⟨p, hp, rfl⟩ := List.mem_map.1 hx
  rw [if_neg (h p hp)]
theorem St.below {w' : World} (h : St w b g m) (hb : Below w.heap.size w w') : St w' b g m := by
  obtain ⟨age, cnt, cs, hp, r⟩ := h
  exact ⟨age, cnt, cs, hp.below hb, r⟩
theorem St.touch {b' g' : Nat} {w' : World} (h : St w b g m) (ht : Touch b' g' w w') (h1 : b ≠ b') (h2 : b ≠ g') (h3 : g ≠ b') (h4 : g ≠ g') : St w' b g m := by
  obtain ⟨age, cnt, cs, hp, r⟩ := h
  exact ⟨age, cnt, cs, hp.touch ht h1 h2 h3 h4, r⟩
theorem St.drawn {w' : World} (h : St w b g m) (hd : Drawn w w') : St w' b g m := h.below (hd.below _)
theorem St.lt (h : St w b g m) : b < w.heap.size ∧ g < w.heap.size := by
  obtain ⟨age, cnt, cs, hp, r⟩ := h
  exact ⟨hp.blk.lt, hp.row.lt⟩
theorem Touch.below {w0 w' : World} {B : Nat} (h : Touch b g w w') (hb : Below B w0 w) (h1 : B ≤ b) (h2 : B ≤ g) : Below B w0 w' :=
  ⟨h.os.trans hb.os, h.tape.trans hb.tape, h.output.trans hb.output, by rw [h.size]; exact hb.size, fun k hk => (h.block k (by omega) (by omega)).trans (hb.block k hk)⟩

theorem New_St (n : Nat) (age : Int) (w : World) (hn : n ≤ 65536) (h0 : 0 ≤ age) (h1 : age ≤ 4294967295) :
    Calls Try.prog 51 #[.int .i64 n, .int .u32 age] w fun e w' => e = .returned (.tuple #[.pointer (some ⟨w.heap.size + 1, 0, none⟩), .nilIface]) ∧
      St w' (w.heap.size + 1) w.heap.size (empty n) ∧ Below w.heap.size w w' := by
  refine (New_phys n age w hn h0 h1).mono ?_
  rintro e w' ⟨rfl, hp, hb⟩
  have ha : 1 ≤ age1 age ∧ age1 age ≤ 4294967295 := by unfold age1; split <;> omega
  have hr : ∀ p ∈ List.replicate n ((0 : Int), (0 : Int)), p = (0, 0) := fun p hp => List.eq_of_mem_replicate hp
  refine ⟨rfl, ⟨_, _, _, by rw [empty, List.length_replicate]; exact hp, ha.1, ha.2, fun p hp => ?_, (held_empty n).symm, ?_⟩, hb⟩
  · rw [hr p hp]; exact ⟨by simp, by simp; omega⟩
  · rw [seen_none (fun p hp => by rw [hr p hp]; simp; omega), List.length_replicate]
theorem Set_St (h : St w b g m) (i v : Int) (hm : m.length ≤ 65536) (h0 : -9223372036854775808 ≤ i) (h1 : i ≤ 9223372036854775807) :
    Calls Try.prog 55 #[.pointer (some ⟨b, 0, none⟩), .int .i64 i, .int .u64 v] w fun e w' =>
      e = .returned (if 0 ≤ i ∧ i < m.length then .nilIface else .iface 63 (.int .i64 7)) ∧ St w' b g (put m i v) ∧ Touch b g w w' := by
  obtain ⟨age, cnt, cs, hp, ha, hb, hc, hcnt, hs⟩ := h
  by_cases hi : 0 ≤ i ∧ i < m.length
  · obtain ⟨k, rfl⟩ : ∃ k : Nat, i = k := ⟨i.toNat, by omega⟩
    have hk : k < m.length := by omega
    have hk' : k < cs.length := by have := hp.len; omega
    have hmk : m[k] = if cs[k].2 = age then some cs[k].1 else none := by
      have e : m[k]? = some (if cs[k].2 = age then some cs[k].1 else none) := by rw [← hs]; simp [seen, List.getElem?_eq_getElem hk']
      rw [List.getElem?_eq_getElem hk] at e
      exact Option.some.inj e
    have hle : m.countP Option.isSome ≤ m.length := List.countP_le_length
    refine (Set_in hp hk v hm (by omega) (by omega)).mono ?_
    rintro e w' ⟨rfl, hp', ht⟩
    refine ⟨by rw [if_pos hi], ⟨age, _, _, by rw [put_len]; exact hp', ha, hb, fun p hp => ?_, ?_, ?_⟩, ht⟩
    · rcases List.mem_or_eq_of_mem_set hp with h | h
      · exact hc p h
      · subst h; exact ⟨by simp; omega, by simp⟩
    · unfold put
      rw [if_pos hi.1, Int.toNat_natCast, List.countP_set hk]
      by_cases hx : cs[k].2 = age
      · rw [if_pos hx] at hmk ⊢
        have hpos : 0 < m.countP Option.isSome := List.countP_pos_iff.2 ⟨m[k], List.getElem_mem hk, by rw [hmk]; rfl⟩
        rw [hmk]
        simp
        omega
      · rw [if_neg hx] at hmk ⊢
        rw [hmk]
        simp
        omega
    · unfold put seen
      rw [if_pos hi.1, Int.toNat_natCast, List.map_set, if_pos rfl]
      congr 1
  · have hout : i < 0 ∨ (m.length : Int) ≤ i := by omega
    refine (Set_out hp hout v hm h0 h1).mono ?_
    rintro e w' ⟨rfl, rfl⟩
    have e : put m i v = m := by
      unfold put
      split
      · rw [List.set_eq_of_length_le (by omega)]
      · rfl
    rw [e]
    exact ⟨by rw [if_neg hi], ⟨age, cnt, cs, hp, ha, hb, hc, hcnt, hs⟩, Touch.refl _ _ _⟩
theorem Get_St (h : St w b g m) (i : Int) (hm : m.length ≤ 65536) (h0 : -9223372036854775808 ≤ i) (h1 : i ≤ 9223372036854775807) :
    Calls Try.prog 36 #[.pointer (some ⟨b, 0, none⟩), .int .i64 i] w fun e w' => e = .returned (got (look m i)) ∧ Drawn w w' := by
  obtain ⟨age, cnt, cs, hp, ha, hb, hc, hcnt, hs⟩ := h
  by_cases hi : 0 ≤ i ∧ i < m.length
  · obtain ⟨k, rfl⟩ : ∃ k : Nat, i = k := ⟨i.toNat, by omega⟩
    have hk : k < m.length := by omega
    have hk' : k < cs.length := by have := hp.len; omega
    refine (Get_in hp hk hm).mono ?_
    rintro e w' ⟨rfl, hd⟩
    refine ⟨?_, hd⟩
    have e : m[k]? = some (if cs[k].2 = age then some cs[k].1 else none) := by rw [← hs]; simp [seen, List.getElem?_eq_getElem hk']
    unfold look
    rw [if_pos hi.1, Int.toNat_natCast, List.getD_eq_getElem?_getD, e]
    by_cases hx : cs[k].2 = age
    · simp only [if_pos hx]; rfl
    · simp only [if_neg hx]; rfl
  · have hout : i < 0 ∨ (m.length : Int) ≤ i := by omega
    refine (Get_out hp hout hm h0 h1).mono ?_
    rintro e w' ⟨rfl, hd⟩
    refine ⟨?_, hd⟩
    have e : look m i = none := by
      unfold look
      split
      · rw [List.getD_eq_getElem?_getD, List.getElem?_eq_none (by omega)]; rfl
      · rfl
    rw [e]; rfl
theorem All_St (h : St w b g m) (hm : m.length ≤ 65536) :
    Calls Try.prog 35 #[.pointer (some ⟨b, 0, none⟩)] w (MadeI w (marks m)) := by
  obtain ⟨age, cnt, cs, hp, ha, hb, hc, hcnt, hs⟩ := h
  have e : picks (isAt cs age) m.length = marks m := by
    unfold marks picks
    congr 1
    refine List.filter_congr fun i hi => ?_
    have hi' : i < cs.length := by rw [hp.len]; exact List.mem_range.1 hi
    have e : m[i]? = some (if cs[i].2 = age then some cs[i].1 else none) := by rw [← hs]; simp [seen, List.getElem?_eq_getElem hi']
    rw [isAt_eq hi', List.getD_eq_getElem?_getD, e]
    by_cases hx : cs[i].2 = age <;> simp [hx]
  have := All_phys hp hm
  rwa [e] at this
end
end Go.Proofs.Ytkcnnamghpdplaa.Stp
