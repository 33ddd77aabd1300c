/- The ops' texts in their order; an op at a text's begin. -/
import Derived.Test.YtppbjmhllmaakaaGreatDoorX21
set_option linter.unusedVariables false
namespace Go.Proofs.YtppbjmhllmaakaaGreatDoor

def opTab : List (List UInt8 × Int) := [([60, 61], 3), ([62, 61], 5), ([33, 61], 6), ([61], 1), ([60], 2), ([62], 4)]
def opNo (L : List UInt8) (k : Nat) : Prop := ∀ j, j < k → ∀ x, opTab[j]? = some x → x.1.isPrefixOf L = false
theorem opAt_find (L : List UInt8) : opAt L = (opTab.find? fun x => x.1.isPrefixOf L).map fun x => (x.2, x.1.length) := by
  unfold opAt opTab
  simp only [List.find?]
  cases [60, 61].isPrefixOf L <;> cases [62, 61].isPrefixOf L <;> cases [33, 61].isPrefixOf L <;> cases [61].isPrefixOf L <;> cases [60].isPrefixOf L <;> cases [62].isPrefixOf L <;> rfl
theorem find_first {α : Type} {p : α → Bool} : ∀ {l : List α} {k : Nat} {x : α}, (∀ j, j < k → ∀ y, l[j]? = some y → p y = false) → l[k]? = some x → p x = true → l.find? p = some x
  | [], k, x, _, hx, _ => by simp at hx
  | a :: r, 0, x, _, hx, hp => by
    simp at hx
    subst hx
    simp [List.find?, hp]
  | a :: r, k + 1, x, h, hx, hp => by
    have ha : p a = false := h 0 (by omega) a rfl
    simp only [List.find?, ha]
    exact find_first (k := k) (fun j hj y hy => h (j + 1) (Nat.succ_lt_succ hj) y (by simpa using hy)) (by simpa using hx) hp
theorem find_none {α : Type} {p : α → Bool} {l : List α} (h : ∀ j, j < l.length → ∀ y, l[j]? = some y → p y = false) : l.find? p = none := by
  rw [List.find?_eq_none]
  intro x hx
  obtain ⟨j, hj, rfl⟩ := List.getElem_of_mem hx
  rw [h j hj _ (by simp)]
  simp
theorem opAt_yes {L : List UInt8} {k : Nat} {x : List UInt8 × Int} (h : opNo L k) (hx : opTab[k]? = some x) (hp : x.1.isPrefixOf L = true) : opAt L = some (x.2, x.1.length) := by
  rw [opAt_find, find_first h hx hp]; rfl
theorem opAt_no {L : List UInt8} (h : opNo L 6) : opAt L = none := by
  rw [opAt_find, find_none (l := opTab) (p := fun x => x.1.isPrefixOf L) (fun j hj y hy => h j hj y hy)]; rfl
theorem opNo_succ {L : List UInt8} {k : Nat} {x : List UInt8 × Int} (h : opNo L k) (hx : opTab[k]? = some x) (hp : x.1.isPrefixOf L = false) : opNo L (k + 1) := fun j hj y hy => by
  by_cases e : j = k
  · subst e; rw [hx] at hy; cases hy; exact hp
  · exact h j (by omega) y hy
theorem indexAny_le (c : List UInt8) : ∀ l : List UInt8, Lib.indexAny l c ≤ l.length
  | [] => by simp [Lib.indexAny]
  | b :: l => by
    have ih := indexAny_le c l
    unfold Lib.indexAny
    split
    · simp; omega
    · split
      · simp; omega
      · simp; omega

end Go.Proofs.YtppbjmhllmaakaaGreatDoor
