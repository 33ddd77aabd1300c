/- What slices.Compact leaves: the same members. -/
import Derived.Lib.SlicesCompact
set_option linter.unusedVariables false
namespace Go.Proofs.YtppbjmhllmaakaaGreatDoor
open Go.Lib

section
variable {α : Type} [Inhabited α] [DecidableEq α]
theorem mem_compactUpTo (d : Array α) : ∀ m j, j < m → d[j]! ∈ compactUpTo d m
  | 0, j, h => by omega
  | m + 1, j, h => by
    rw [compactUpTo_succ, List.mem_append]
    by_cases hj : j < m
    · exact .inl (mem_compactUpTo d m j hj)
    · have e : j = m := by omega
      subst e
      by_cases hk : keeps d j = true
      · right; simp [hk]
      · left
        by_cases h0 : j = 0
        · subst h0; exact absurd (keeps_lt_one d 0 (by omega)) hk
        · have he : d[j]! = d[j - 1]! := Classical.byContradiction fun hne => hk (keeps_pos hne)
          rw [he]
          exact mem_compactUpTo d j (j - 1) (by omega)
theorem compactUpTo_mem (d : Array α) : ∀ m x, x ∈ compactUpTo d m → ∃ j, j < m ∧ x = d[j]!
  | 0, x, h => by simp [compactUpTo] at h
  | m + 1, x, h => by
    rw [compactUpTo_succ, List.mem_append] at h
    rcases h with h | h
    · obtain ⟨j, hj, e⟩ := compactUpTo_mem d m x h
      exact ⟨j, by omega, e⟩
    · split at h
      · exact ⟨m, by omega, by simpa using h⟩
      · cases h
theorem mem_compact {zs : List α} {x : α} : x ∈ compact zs ↔ x ∈ zs := by
  unfold compact
  constructor
  · intro h
    obtain ⟨j, hj, rfl⟩ := compactUpTo_mem _ _ _ h
    rw [getElem!_pos zs.toArray j (by simpa using hj)]
    simp
  · intro h
    obtain ⟨j, hj, rfl⟩ := List.getElem_of_mem h
    have := mem_compactUpTo zs.toArray zs.length j hj
    rwa [getElem!_pos zs.toArray j (by simpa using hj)] at this
end

end Go.Proofs.YtppbjmhllmaakaaGreatDoor
