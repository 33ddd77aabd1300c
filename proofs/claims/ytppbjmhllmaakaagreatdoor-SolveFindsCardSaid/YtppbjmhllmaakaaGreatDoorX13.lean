/- The targets in their order: the search finds the first that will do. -/
import Derived.Test.YtppbjmhllmaakaaGreatDoorX12
set_option linter.unusedVariables false
namespace Go.Proofs.YtppbjmhllmaakaaGreatDoor

/-- Is place i in the k-th target? -/
def inNth (hv : List Int) (n k : Nat) (i : Nat) : Bool := decide ((i : Int) ∈ hv) != k.testBit (n - 1 - i)
/-- The first t places of the k-th target. -/
def nthTo (hv : List Int) (n k t : Nat) : List Int := ((List.range t).filter (inNth hv n k)).map fun i : Nat => (i : Int)
def nthS (hv : List Int) (n k : Nat) : List Int := nthTo hv n k n
theorem nthTo_zero (hv : List Int) (n k : Nat) : nthTo hv n k 0 = [] := rfl
theorem nthTo_succ (hv : List Int) (n k t : Nat) : nthTo hv n k (t + 1) = if inNth hv n k t then nthTo hv n k t ++ [(t : Int)] else nthTo hv n k t := by
  unfold nthTo
  rw [List.range_succ, List.filter_append, List.map_append]
  by_cases h : inNth hv n k t = true
  · rw [if_pos h]; simp [h]
  · rw [if_neg h]; simp [h]
theorem nthTo_up (hv : List Int) (n k : Nat) : ∀ t, Up t 0 (nthTo hv n k t)
  | 0 => Up.nil _ _
  | t + 1 => by
    rw [nthTo_succ]
    split
    · exact (nthTo_up hv n k t).snoc (Nat.lt_succ_self t)
    · exact (nthTo_up hv n k t).more
theorem nthTo_len (hv : List Int) (n k t : Nat) : (nthTo hv n k t).length ≤ t := by
  unfold nthTo
  rw [List.length_map]
  exact Nat.le_trans (List.length_filter_le _ _) (by simp)
theorem nthTo_congr {hv : List Int} {n k k' : Nat} : ∀ {t : Nat}, (∀ i, i < t → inNth hv n k i = inNth hv n k' i) → nthTo hv n k t = nthTo hv n k' t
  | 0, _ => rfl
  | t + 1, h => by
    rw [nthTo_succ, nthTo_succ, nthTo_congr fun i hi => h i (by omega), h t (by omega)]
/-- The targets that begin as the k-th does, m places left open: j is their number. -/
theorem seek_nth {f : List Int → Bool} {hv : List Int} {n : Nat} : ∀ {m : Nat} {b : Nat}, m ≤ n → b % 2 ^ m = 0 →
    (∀ i r, seek f hv n m (nthTo hv n b (n - m)) = some (i, r) → r = nthS hv n (b + i) ∧ ∀ j, j < i → f (nthS hv n (b + j)) = false) ∧
    (seek f hv n m (nthTo hv n b (n - m)) = none → ∀ j, j < 2 ^ m → f (nthS hv n (b + j)) = false)
  | 0, b, _, _ => by
    unfold seek
    rw [Nat.sub_zero]
    constructor
    · intro i r h
      split at h
      · simp only [Option.some.injEq, Prod.mk.injEq] at h
        rw [← h.1, ← h.2]
        exact ⟨rfl, fun j hj => by omega⟩
      · cases h
    · intro h j hj
      split at h
      · cases h
      · rename_i hf
        have : j = 0 := by simpa using hj
        subst this
        simpa [nthS] using hf
  | m + 1, b, hm, hb => by
    have hk : n - m = (n - (m + 1)) + 1 := by omega
    have hp := Nat.two_pow_pos m
    have hb2 : b % 2 ^ m = 0 := by
      rw [two_pow] at hb
      rw [show b = b % (2 ^ m + 2 ^ m) + (2 ^ m + 2 ^ m) * (b / (2 ^ m + 2 ^ m)) from (Nat.mod_add_div _ _).symm, hb]
      simp [Nat.add_mul]
    have hbit : b.testBit m = false := by
      rw [Nat.testBit_eq_decide_div_mod_eq]
      have e : b = 2 ^ (m + 1) * (b / 2 ^ (m + 1)) := by have := Nat.mod_add_div b (2 ^ (m + 1)); omega
      rw [e, Nat.pow_succ, Nat.mul_assoc, Nat.mul_div_cancel_left _ hp]
      simp
    have one : wayOne hv (n - (m + 1)) (nthTo hv n b (n - (m + 1))) = nthTo hv n b (n - m) := by
      rw [hk, nthTo_succ]
      unfold wayOne inNth
      rw [show n - 1 - (n - (m + 1)) = m from by omega, hbit]
      cases decide (((n - (m + 1) : Nat) : Int) ∈ hv) <;> rfl
    have two : wayTwo hv (n - (m + 1)) (nthTo hv n b (n - (m + 1))) = nthTo hv n (b + 2 ^ m) (n - m) := by
      rw [hk, nthTo_succ]
      have e : nthTo hv n (b + 2 ^ m) (n - (m + 1)) = nthTo hv n b (n - (m + 1)) := by
        refine nthTo_congr fun i hi => ?_
        unfold inNth
        congr 1
        have e2 : b = 2 ^ (m + 1) * (b / 2 ^ (m + 1)) := by have := Nat.mod_add_div b (2 ^ (m + 1)); omega
        rw [e2, Nat.testBit_two_pow_mul_add _ (by rw [two_pow]; omega), Nat.testBit_two_pow_mul]
        rw [if_neg (by omega)]
        simp only [show n - 1 - i ≥ m + 1 from by omega, decide_true, Bool.true_and]
      rw [e]
      unfold wayTwo inNth
      rw [show n - 1 - (n - (m + 1)) = m from by omega]
      have hbit2 : (b + 2 ^ m).testBit m = true := by
        rw [Nat.add_comm, Nat.testBit_two_pow_add_eq, hbit]; rfl
      rw [hbit2]
      cases decide (((n - (m + 1) : Nat) : Int) ∈ hv) <;> rfl
    have ih1 := seek_nth (f := f) (hv := hv) (n := n) (m := m) (b := b) (by omega) hb2
    have ih2 := seek_nth (f := f) (hv := hv) (n := n) (m := m) (b := b + 2 ^ m) (by omega) (by simp [hb2])
    unfold seek
    rw [one, two]
    cases h1 : seek f hv n m (nthTo hv n b (n - m)) with
    | some q =>
      refine ⟨fun i r h => ?_, fun h => by cases h⟩
      simp only [Option.some.injEq] at h
      subst h
      exact ih1.1 i r h1
    | none =>
      cases h2 : seek f hv n m (nthTo hv n (b + 2 ^ m) (n - m)) with
      | some q =>
        refine ⟨fun i r h => ?_, fun h => by cases h⟩
        simp only [Option.some.injEq, Prod.mk.injEq] at h
        obtain ⟨rfl, rfl⟩ := h
        obtain ⟨h3, h4⟩ := ih2.1 q.1 q.2 h2
        refine ⟨by rw [h3, Nat.add_assoc], fun j hj => ?_⟩
        by_cases hlt : j < 2 ^ m
        · exact ih1.2 h1 j hlt
        · have := h4 (j - 2 ^ m) (by omega)
          rw [show b + 2 ^ m + (j - 2 ^ m) = b + j from by omega] at this
          exact this
      | none =>
        refine ⟨fun i r h => (by cases h), fun _ j hj => ?_⟩
        by_cases hlt : j < 2 ^ m
        · exact ih1.2 h1 j hlt
        · have := ih2.2 h2 (j - 2 ^ m) (by rw [two_pow] at hj; omega)
          rw [show b + 2 ^ m + (j - 2 ^ m) = b + j from by omega] at this
          exact this
/-- The first that will do, by its number. -/
theorem seek_at {f : List Int → Bool} {hv : List Int} {n i : Nat} (hi : i < 2 ^ n) (h : ∀ j, j < i → f (nthS hv n j) = false) (hf : f (nthS hv n i) = true) : seek f hv n n [] = some (i, nthS hv n i) := by
  have k := seek_nth (f := f) (hv := hv) (n := n) (m := n) (b := 0) (Nat.le_refl _) (by simp)
  rw [Nat.sub_self, nthTo_zero] at k
  cases hs : seek f hv n n [] with
  | none =>
    have := k.2 hs i hi
    rw [Nat.zero_add, hf] at this; cases this
  | some q =>
    obtain ⟨h1, h2⟩ := k.1 q.1 q.2 hs
    simp only [Nat.zero_add] at h1 h2
    rcases Nat.lt_trichotomy q.1 i with hlt | heq | hgt
    · have := h _ hlt
      rw [← h1] at this
      have h5 := (seek_some (i := q.1) (r := q.2) (Nat.le_refl n) hs).1
      rw [h5] at this; cases this
    · subst heq; rw [← h1]
    · have := h2 i hgt
      rw [hf] at this; cases this
theorem seek_no {f : List Int → Bool} {hv : List Int} {n t : Nat} (h : ∀ j, j < t → f (nthS hv n j) = false) : (t = 2 ^ n → seek f hv n n [] = none) ∧ (∀ i r, seek f hv n n [] = some (i, r) → t ≤ i) := by
  have k := seek_nth (f := f) (hv := hv) (n := n) (m := n) (b := 0) (Nat.le_refl _) (by simp)
  rw [Nat.sub_self, nthTo_zero] at k
  have h2 : ∀ i r, seek f hv n n [] = some (i, r) → t ≤ i := by
    intro i r hs
    have h1 := (k.1 i r hs).1
    rw [Nat.zero_add] at h1
    have h5 := (seek_some (Nat.le_refl n) hs).1
    rw [h1] at h5
    apply Nat.le_of_not_lt
    intro hlt
    rw [h i hlt] at h5; cases h5
  refine ⟨fun e => ?_, h2⟩
  cases hs : seek f hv n n [] with
  | none => rfl
  | some q =>
    have a := h2 q.1 q.2 hs
    have b := seek_lt (i := q.1) (r := q.2) hs
    omega

end Go.Proofs.YtppbjmhllmaakaaGreatDoor
