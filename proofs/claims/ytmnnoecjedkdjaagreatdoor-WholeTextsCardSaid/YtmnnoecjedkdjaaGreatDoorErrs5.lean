/- viaductseen.Same: true where the error is the chain that the document wants. -/
import Derived.Test.YtmnnoecjedkdjaaGreatDoorErrs4
set_option linter.unusedVariables false
set_option linter.unusedSimpArgs false
namespace Go.Proofs.YtmnnoecjedkdjaaGreatDoor
open Go.RowKit Go.Extern.Stop Go.Stop Go.Extern

theorem two_places {w : World} {ad : Addr} {j : Nat} {x : Int × Int} (h : ∀ i u, (places x)[i]? = some u → w.cell? (ad.add (j * 2 + i)) = some u) :
    w.cell? (ad.add (j * 2)) = some (.int .i64 x.1) ∧ w.cell? ⟨(ad.add (j * 2)).block, (ad.add (j * 2)).off + 1, none⟩ = some (.int .i64 x.2) := by
  have h0 := h 0 _ rfl
  have h1 := h 1 _ rfl
  rw [← add_of_add] at h1
  rw [Nat.add_zero] at h0
  exact ⟨h0, h1⟩
theorem chain_step {W : World} {E : Value} {x : Int × Int} {ps : List (Int × Int)} {c : Int} (h : Chain W E (x :: ps) c) :
    ∃ b o E', E = .iface 50 (.pointer (some ⟨b, o, none⟩)) ∧ W.cell? ⟨b, o, none⟩ = some (.int .i64 x.1) ∧ W.cell? ⟨b, o + 1, none⟩ = some (.int .i64 x.2) ∧ W.cell? ⟨b, o + 2, none⟩ = some E' ∧ Chain W E' ps c := by
  cases h with
  | wrap b o k a E' ps c h1 h2 h3 hc => exact ⟨b, o, E', rfl, h1, h2, h3, hc⟩
theorem chain_last {W : World} {E : Value} {c : Int} (h : Chain W E [] c) (hc : c ≠ 0) : E = .iface 27 (.int .i64 c) := by
  cases h with
  | none => exact absurd rfl hc
  | num c h => rfl

end Go.Proofs.YtmnnoecjedkdjaaGreatDoor
