/- A rune that isn't ASCII has no ASCII byte in it; where a text's first op's letter is. -/
import Derived.Test.YtppbjmhllmaakaaGreatDoorX21
import Derived.Laws.RangeAny
set_option linter.unusedVariables false
namespace Go.Proofs.YtppbjmhllmaakaaGreatDoor

theorem cont_high {s : ByteArray} {j : Nat} (h1 : j < s.size) (h2 : (s.get! j).toNat / 64 = 2) : ∃ hj : j < s.size, 128 ≤ (s[j]'hj).toNat := by
  refine ⟨h1, ?_⟩
  have e : s.get! j = s[j]'h1 := get_at s j h1
  rw [e] at h2
  omega
theorem decode_span (s : ByteArray) (i : Nat) (h : i < s.size) (ha : 128 ≤ (s[i]'h).toNat) : ∀ j, i ≤ j → j < i + (Utf8.decode s i).2 → ∃ hj : j < s.size, 128 ≤ (s[j]'hj).toNat := by
  have hn : ¬ (s[i]'h).toNat < 128 := by omega
  simp only [Utf8.decode, get_at s i h, hn, if_false]
  repeat' split
  all_goals
    intro j h1 h2
    simp only [Bool.and_eq_true, decide_eq_true_eq, beq_iff_eq] at *
    rcases Nat.lt_or_ge i j with hij | hij
    · first
        | omega
        | (have e : j = i + 1 := by omega
           subst e
           exact cont_high (by omega) (by omega))
        | (by_cases e1 : j = i + 1
           · subst e1; exact cont_high (by omega) (by omega)
           · by_cases e2 : j = i + 2
             · subst e2; exact cont_high (by omega) (by omega)
             · have e3 : j = i + 3 := by omega
               subst e3
               exact cont_high (by omega) (by omega))
    · have e : j = i := by omega
      subst e
      exact ⟨h, ha⟩
/-- Is it an op's letter? -/
def opc (c : UInt8) : Bool := [61, 60, 62, 33].contains c
theorem opFrom_at {s : ByteArray} {k : Nat} (hk : k < s.size) (h : ∀ j (hj : j < s.size), j < k → opc (s[j]'hj) = false) (h1 : opc (s[k]'hk) = true) : opFrom s = k := by
  unfold opFrom
  refine Lib.indexAny_hit (x := s[k]'hk) (fun j b hj hb => ?_) ?_ h1
  · have hjs : j < s.size := by omega
    have e : s.data.toList[j]? = some (s[j]'hjs) := by rw [Array.getElem?_toList]; exact Array.getElem?_eq_getElem hjs
    rw [e] at hb
    cases hb
    exact h j hjs hj
  · rw [Array.getElem?_toList]; exact Array.getElem?_eq_getElem hk
theorem opFrom_none {s : ByteArray} (h : ∀ j (hj : j < s.size), opc (s[j]'hj) = false) : opFrom s = -1 := by
  unfold opFrom
  refine Lib.indexAny_none fun j b hj hb => ?_
  have hjs : j < s.size := by rw [Array.length_toList] at hj; exact hj
  have e : s.data.toList[j]? = some (s[j]'hjs) := by rw [Array.getElem?_toList]; exact Array.getElem?_eq_getElem hjs
  rw [e] at hb
  cases hb
  exact h j hjs
theorem opc_high {c : UInt8} (h : 128 ≤ c.toNat) : opc c = false := by
  unfold opc
  rw [← Bool.not_eq_true]
  intro hc
  simp at hc
  rcases hc with rfl | rfl | rfl | rfl <;> revert h <;> decide

end Go.Proofs.YtppbjmhllmaakaaGreatDoor
