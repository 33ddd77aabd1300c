/- The two ways of a place, one behind the other. -/
import Derived.Test.YtppbjmhllmaakaaGreatDoorX12
set_option linter.unusedVariables false
namespace Go.Proofs.YtppbjmhllmaakaaGreatDoor

def flagAt (d : Bool) (i : Nat) : Bool := if i = 0 then d else !d
def addIf (b : Bool) (k : Nat) (S : List Int) : List Int := if b then S ++ [(k : Int)] else S
theorem wayOne_eq (hv : List Int) (k : Nat) (S : List Int) : wayOne hv k S = addIf (flagAt (decide ((k : Int) ∈ hv)) 0) k S := rfl
theorem wayTwo_eq (hv : List Int) (k : Nat) (S : List Int) : wayTwo hv k S = addIf (flagAt (decide ((k : Int) ∈ hv)) 1) k S := by
  unfold wayTwo addIf flagAt
  cases decide ((k : Int) ∈ hv) <;> rfl
/-- They answer the same. -/
structure SameR (X R : Ran) : Prop where
  on : X.on = false
  found : X.found = R.found
  steps : X.steps = R.steps
  ins : X.found = true → X.ins = R.ins
/-- What is still to be shown ahead of way i of place k: j ways left, X is to be answered. -/
def Todo (run : Int → List Int → Ran) (d : Bool) (k m : Nat) (budget : Int) (S : List Int) (X : Ran) : Nat → Nat → Int → Prop
  | 0, _, s => X.on = true ∧ X.found = false ∧ X.steps = s ∧ X.ins = S
  | j + 1, i, s => (0 ≤ s ∧ s < budget) ∧ ((run s (addIf (flagAt d i) k S)).on = false → SameR X (run s (addIf (flagAt d i) k S))) ∧
      ((run s (addIf (flagAt d i) k S)).on = true → run s (addIf (flagAt d i) k S) = ⟨true, false, s + ((2 ^ m : Nat) : Int), addIf (flagAt d i) k S⟩ ∧ Todo run d k m budget S X j (i + 1) (s + ((2 ^ m : Nat) : Int)))
theorem todo_start {f : List Int → Bool} {hv : List Int} {n m : Nat} {budget s : Int} {S : List Int} (hs : 0 ≤ s) (hb : s < budget) :
    Todo (runS f hv n m budget) (decide (((n - (m + 1) : Nat) : Int) ∈ hv)) (n - (m + 1)) m budget S (runS f hv n (m + 1) budget s S) 2 0 s := by
  refine ⟨⟨hs, hb⟩, ?_, ?_⟩
  · rw [← wayOne_eq]
    intro h
    have e := runS_off h
    rw [e]
    exact ⟨h, rfl, rfl, fun _ => rfl⟩
  · rw [← wayOne_eq]
    intro h
    have h1 := runS_on h
    have h2 := runS_two h
    have hp := Nat.two_pow_pos m
    refine ⟨h1.1, ⟨⟨by omega, h1.2⟩, ?_, ?_⟩⟩
    · rw [← wayTwo_eq]
      intro h3
      exact ⟨by rw [← h2.1, h3], h2.2.1.symm, h2.2.2.1.symm, fun _ => (h2.2.2.2.1 (by rw [← h2.1, h3])).symm⟩
    · rw [← wayTwo_eq]
      intro h3
      have h4 := runS_on h3
      refine ⟨h4.1, ⟨by rw [← h2.1, h3], by rw [← h2.2.1, h4.1], by rw [← h2.2.2.1, h4.1], ?_⟩⟩
      exact h2.2.2.2.2 (by rw [← h2.1, h3])

end Go.Proofs.YtppbjmhllmaakaaGreatDoor
