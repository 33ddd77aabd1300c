/- What the search answers, as the statements ask it, in plain Lean. -/
import Derived.Test.YtppbjmhllmaakaaGreatDoorX11
set_option linter.unusedVariables false
namespace Go.Proofs.YtppbjmhllmaakaaGreatDoor

theorem good_tgt {cat : List Pkg} {want : List Clause} {S : List Int} (h : good cat want S = true) : tgt cat.length S = true := by
  unfold good validP at h
  simp only [Bool.and_eq_true] at h
  exact h.1.1.1.2
/-- One that was found. -/
theorem runS_found {f : List Int → Bool} {hv : List Int} {n m : Nat} {budget s : Int} {S : List Int} (hm : m ≤ n) (hs : 0 ≤ s) (h : (runS f hv n m budget s S).found = true) :
    f (runS f hv n m budget s S).ins = true ∧ s + 1 ≤ (runS f hv n m budget s S).steps ∧ (runS f hv n m budget s S).steps ≤ budget ∧ (runS f hv n m budget s S).steps ≤ s + ((2 ^ m : Nat) : Int) := by
  unfold runS at h ⊢
  split at h
  · rename_i r hr
    split at h
    · rename_i hb
      simp only [if_pos hb]
      have h1 := (seek_some (i := r.1) (r := r.2) hm hr).1
      have h2 := seek_lt (i := r.1) (r := r.2) hr
      exact ⟨h1, by omega, by omega, by omega⟩
    · cases h
  · split at h <;> cases h
/-- What is answered is valid and grants what is wanted; where nothing is, nothing is answered. -/
theorem solve_sound {cat : List Pkg} {hv : List Int} {want : List Clause} {budget : Int} (hb : 1 ≤ budget) :
    ((solveS cat hv want budget).2.2 = 0 → good cat want (solveS cat hv want budget).1 = true ∧ 1 ≤ (solveS cat hv want budget).2.1 ∧ (solveS cat hv want budget).2.1 ≤ budget) ∧
    (¬ (solveS cat hv want budget).2.2 = 0 → (solveS cat hv want budget).1 = [] ∧ (solveS cat hv want budget).2.1 ≤ budget) := by
  unfold solveS
  split
  · split
    · split
      · exact ⟨fun h => by simp at h, fun _ => ⟨rfl, by simp only; omega⟩⟩
      · split
        · rename_i hf
          have := runS_found (Nat.le_refl _) (Int.le_refl 0) hf
          exact ⟨fun _ => ⟨this.1, by simp only; omega, by simp only; omega⟩, fun h => absurd rfl h⟩
        · split
          · rename_i hk
            exact ⟨fun h => by simp at h, fun _ => ⟨rfl, by simp only; omega⟩⟩
          · exact ⟨fun h => by simp at h, fun _ => ⟨rfl, by simp only; omega⟩⟩
    · exact ⟨fun h => by simp at h, fun _ => ⟨rfl, by simp only; omega⟩⟩
  · exact ⟨fun h => by simp at h, fun _ => ⟨rfl, by simp only; omega⟩⟩
theorem runS_not {f : List Int → Bool} {hv : List Int} {n m : Nat} {budget s : Int} {S : List Int} (h : ¬ (runS f hv n m budget s S).found = true) (hb : s + ((2 ^ m : Nat) : Int) ≤ budget) : seek f hv n m S = none := by
  unfold runS at h
  split at h
  · rename_i r hr
    have h2 := seek_lt (i := r.1) (r := r.2) hr
    rw [if_pos (by omega)] at h
    simp at h
  · assumption
/-- Where it is said that there is no way there is none. -/
theorem solve_none {cat : List Pkg} {hv : List Int} {want : List Clause} {budget : Int} (h : (solveS cat hv want budget).2.2 = 200) :
    (solveS cat hv want budget).2.1 = ((2 ^ cat.length : Nat) : Int) ∧ ∀ T, good cat want T = false := by
  unfold solveS at h ⊢
  split at h
  · rename_i h1
    rw [if_pos h1]
    split at h
    · rename_i h2
      rw [if_pos h2]
      split at h
      · simp at h
      · rename_i h3
        rw [if_neg h3]
        split at h
        · simp at h
        · rename_i h4
          rw [if_neg h4]
          split at h
          · rename_i h5
            rw [if_pos h5]
            refine ⟨rfl, fun T => ?_⟩
            have hs := runS_not h4 (by omega)
            cases hg : good cat want T
            · rfl
            · have := seek_all (Nat.le_refl _) hs T (by rw [Nat.sub_self]; exact tgt_up.1 (good_tgt hg))
              rw [List.nil_append, hg] at this
              cases this
          · simp at h
    · simp at h
  · simp at h
/-- A greater budget. -/
theorem runS_grow {f : List Int → Bool} {hv : List Int} {n m : Nat} {budget s more : Int} {S : List Int} (hm : 0 ≤ more) (h : (runS f hv n m budget s S).found = true) :
    (runS f hv n m (budget + more) s S).found = true ∧ (runS f hv n m (budget + more) s S).ins = (runS f hv n m budget s S).ins ∧ (runS f hv n m (budget + more) s S).steps = (runS f hv n m budget s S).steps := by
  unfold runS at h ⊢
  split at h
  · rename_i r hr
    split at h
    · rename_i hb
      simp only [if_pos hb]
      rw [if_pos (show s + (r.1 : Int) + 1 ≤ budget + more by omega)]
      exact ⟨rfl, rfl, rfl⟩
    · cases h
  · split at h <;> cases h
theorem runS_small {f : List Int → Bool} {hv : List Int} {n m : Nat} {budget s more : Int} {S : List Int} (hm : 0 ≤ more) (h : ¬ (runS f hv n m budget s S).found = true) (hf : (runS f hv n m (budget + more) s S).found = true) :
    budget < (runS f hv n m (budget + more) s S).steps := by
  unfold runS at h hf ⊢
  split at hf
  · rename_i r hr
    split at hf
    · rename_i hb
      simp only [hr, if_pos hb] at h ⊢
      split at h
      · simp at h
      · rename_i h5
        omega
    · cases hf
  · split at hf <;> cases hf
theorem solve_budgets {cat : List Pkg} {hv : List Int} {want : List Clause} {budget more : Int} (hn : cat.length ≤ 20) (hb : 1 ≤ budget) (hm : 0 ≤ more) (hx : budget + more ≤ 1048576) :
    ((solveS cat hv want budget).2.2 = 201 → (solveS cat hv want budget).2.1 = budget ∧ (¬ (solveS cat hv want (budget + more)).2.2 = 0 ∨ budget < (solveS cat hv want (budget + more)).2.1) ∧ (solveS cat hv want budget).1 = []) ∧
    (¬ (solveS cat hv want budget).2.2 = 201 → solveS cat hv want (budget + more) = solveS cat hv want budget) := by
  unfold solveS
  split
  · split
    · rw [if_neg (show ¬ (budget < 1 ∨ 1048576 < budget) by omega), if_neg (show ¬ (budget + more < 1 ∨ 1048576 < budget + more) by omega)]
      by_cases hf : (runS (good cat want) hv cat.length cat.length budget 0 []).found = true
      · have g := runS_grow hm hf
        rw [if_pos hf, if_pos g.1, g.2.1, g.2.2]
        exact ⟨fun h => by simp at h, fun _ => rfl⟩
      · rw [if_neg hf]
        by_cases hk : cat.length ≤ 20 ∧ ((2 ^ cat.length : Nat) : Int) ≤ budget
        · have hnone := runS_not hf (by omega)
          have hf2 : ¬ (runS (good cat want) hv cat.length cat.length (budget + more) 0 []).found = true := by
            rw [runS_none hnone]; simp
          rw [if_pos hk, if_neg hf2, if_pos ⟨hk.1, by omega⟩]
          exact ⟨fun h => by simp at h, fun _ => rfl⟩
        · rw [if_neg hk]
          refine ⟨fun _ => ⟨rfl, ?_, rfl⟩, fun h => absurd rfl h⟩
          by_cases hf2 : (runS (good cat want) hv cat.length cat.length (budget + more) 0 []).found = true
          · rw [if_pos hf2]
            exact Or.inr (runS_small hm hf hf2)
          · rw [if_neg hf2]
            left
            split <;> simp
    · exact ⟨fun h => by simp at h, fun _ => rfl⟩
  · exact ⟨fun h => by simp at h, fun _ => rfl⟩
/-- As many steps as there are targets. -/
theorem solve_enough {cat : List Pkg} {hv : List Int} {want : List Clause} (hn : cat.length ≤ 20) (hp : planOk cat = true) (ht : tgt cat.length hv = true) (hw : clausesOk want = true) :
    ((solveS cat hv want ((2 ^ cat.length : Nat) : Int)).2.2 = 0 ∧ (solveS cat hv want ((2 ^ cat.length : Nat) : Int)).2.1 ≤ ((2 ^ cat.length : Nat) : Int) ∧ (solveS cat hv want ((2 ^ cat.length : Nat) : Int)).1.length ≤ cat.length) ∨
    (¬ (solveS cat hv want ((2 ^ cat.length : Nat) : Int)).2.2 = 0 ∧ (solveS cat hv want ((2 ^ cat.length : Nat) : Int)).2.2 = 200 ∧ (solveS cat hv want ((2 ^ cat.length : Nat) : Int)).2.1 = ((2 ^ cat.length : Nat) : Int)) := by
  have h1 := Nat.two_pow_pos cat.length
  have h2 := pow_small hn
  unfold solveS
  rw [hp, ht, if_pos (by rfl), if_pos hw, if_neg (by omega)]
  split
  · rename_i hf
    have := runS_found (Nat.le_refl _) (Int.le_refl 0) hf
    exact Or.inl ⟨rfl, this.2.2.1, tgt_len (good_tgt this.1)⟩
  · rw [if_pos ⟨hn, by omega⟩]
    exact Or.inr ⟨by simp, rfl, rfl⟩

/-! ### What is there comes first -/
theorem filter_none {p : Int → Bool} : ∀ {l : List Int}, (∀ x ∈ l, p x = false) → l.filter p = []
  | [], _ => rfl
  | a :: r, h => by rw [List.filter_cons_of_neg (by simp [h a (List.mem_cons_self ..)]), filter_none fun x hx => h x (List.mem_cons_of_mem _ hx)]
theorem below_succ (k : Nat) : ∀ {l : List Int}, l.Pairwise (· < ·) → l.filter (fun x => decide (x < ((k + 1 : Nat) : Int))) = wayOne l k (l.filter fun x => decide (x < (k : Int)))
  | [], _ => by simp [wayOne]
  | a :: r, h => by
    have h3 := List.pairwise_cons.1 h
    have ih := below_succ k h3.2
    unfold wayOne at ih ⊢
    rcases Int.lt_trichotomy a k with hlt | heq | hgt
    · rw [List.filter_cons_of_pos (by simp; omega), List.filter_cons_of_pos (by simp; omega), ih]
      have e : decide ((k : Int) ∈ a :: r) = decide ((k : Int) ∈ r) := by
        rw [decide_eq_decide, List.mem_cons]
        constructor
        · rintro (h4 | h4)
          · omega
          · exact h4
        · exact Or.inr
      rw [e]
      split <;> rfl
    · subst heq
      rw [List.filter_cons_of_pos (by simp; omega), List.filter_cons_of_neg (by simp), filter_none (l := r) fun x hx => by have := h3.1 x hx; simp; omega, filter_none (l := r) fun x hx => by have := h3.1 x hx; simp; omega]
      simp
    · rw [List.filter_cons_of_neg (by simp; omega), List.filter_cons_of_neg (by simp; omega), filter_none (l := r) fun x hx => by have := h3.1 x hx; simp; omega, filter_none (l := r) fun x hx => by have := h3.1 x hx; simp; omega]
      have e : ¬ (k : Int) ∈ a :: r := by
        rw [List.mem_cons]
        rintro (h4 | h4)
        · omega
        · have := h3.1 _ h4; omega
      simp [e]
theorem seek_first {f : List Int → Bool} {hv : List Int} {n : Nat} (hu : Up n 0 hv) (hf : f hv = true) : ∀ {m : Nat}, m ≤ n → seek f hv n m (hv.filter fun x => decide (x < ((n - m : Nat) : Int))) = some (0, hv)
  | 0, _ => by
    have e : hv.filter (fun x => decide (x < ((n - 0 : Nat) : Int))) = hv := by
      rw [List.filter_eq_self]
      intro x hx
      have := hu.2 x hx
      simp; omega
    rw [e]
    simp [seek, hf]
  | m + 1, hm => by
    have ih := seek_first hu hf (m := m) (by omega)
    have e : (n - m : Nat) = (n - (m + 1)) + 1 := by omega
    rw [e, below_succ _ hu.1] at ih
    unfold seek
    rw [ih]
theorem solve_stays {cat : List Pkg} {hv : List Int} {want : List Clause} {budget : Int} (hb : 1 ≤ budget) (hx : budget ≤ 1048576) (hv' : validP cat hv = true) (hw : clausesOk want = true) :
    ((solveS cat hv want budget).2.1 = 1 ∧ (solveS cat hv want budget).2.2 = 0 ∧ (solveS cat hv want budget).1 = hv) ↔ grants cat hv want = true := by
  have hpt : planOk cat = true ∧ tgt cat.length hv = true := by
    unfold validP at hv'
    simp only [Bool.and_eq_true] at hv'
    exact hv'.1.1
  constructor
  · rintro ⟨h1, h2, h3⟩
    have := ((solve_sound hb).1 h2).1
    rw [h3] at this
    unfold good at this
    simp only [Bool.and_eq_true] at this
    exact this.2
  · intro hg
    have hgood : good cat want hv = true := by unfold good; rw [hv', hg]; rfl
    have hs := seek_first (tgt_up.1 hpt.2) hgood (Nat.le_refl cat.length)
    rw [Nat.sub_self, filter_none fun x hx => by have := (tgt_up.1 hpt.2).2 x hx; simp; omega] at hs
    have hr : runS (good cat want) hv cat.length cat.length budget 0 [] = ⟨false, true, 1, hv⟩ := by
      unfold runS
      rw [hs]
      simp only
      rw [if_pos (by omega)]
      rfl
    unfold solveS
    rw [hpt.1, hpt.2, if_pos (by rfl), if_pos hw, if_neg (by omega), hr]
    exact ⟨rfl, rfl, rfl⟩

end Go.Proofs.YtppbjmhllmaakaaGreatDoor
