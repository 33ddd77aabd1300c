/- Texts in order, each once. -/
import Derived.Test.YteoafnkcplealaaDoorX6
import Derived.Sort.Walk0
set_option linter.unusedVariables false
namespace Go.Proofs.YteoafnkcplealaaDoor
open Go.RowKit

def slt (a b : ByteArray) : Bool := Op.bytesLess a.toList b.toList
theorem slt_iff (a b : ByteArray) : slt a b = true ↔ a.toList < b.toList := by unfold slt; rw [bytesLess_eq]; simp
theorem slt_irrefl (a : ByteArray) : slt a a = false := by
  rw [← Bool.not_eq_true, slt_iff]; exact List.lt_irrefl _
theorem slt_trans {a b c : ByteArray} (h : slt a b = true) (k : slt b c = true) : slt a c = true := by
  rw [slt_iff] at *
  exact List.lt_trans h k
theorem slt_total {a b : ByteArray} (h : slt a b = false) (hne : ¬ a = b) : slt b a = true := by
  rw [← Bool.not_eq_true, slt_iff] at h
  rw [slt_iff]
  have h1 : b.toList ≤ a.toList := List.not_lt.1 h
  rcases List.le_iff_lt_or_eq.1 h1 with h2 | h2
  · exact h2
  · exact absurd (toList_inj.1 h2).symm hne

/-- A text in its place, once. -/
def insT (x : ByteArray) : List ByteArray → List ByteArray
  | [] => [x]
  | a :: r => if slt a x then a :: insT x r else if a = x then a :: r else x :: a :: r
/-- How many stand ahead of it. -/
def posT (x : ByteArray) : List ByteArray → Nat
  | [] => 0
  | a :: r => if slt a x then posT x r + 1 else 0
def sortT (l : List ByteArray) (k : Nat) : List ByteArray := (l.take k).foldl (fun o x => insT x o) []

theorem posT_le (x : ByteArray) : ∀ l : List ByteArray, posT x l ≤ l.length
  | [] => Nat.le_refl _
  | a :: r => by unfold posT; split <;> simp [posT_le x r]
theorem posT_lt (x : ByteArray) : ∀ (l : List ByteArray) (j : Nat) (h : j < l.length), j < posT x l → slt l[j] x = true
  | a :: r, j, h, hj => by
    unfold posT at hj
    split at hj
    · rename_i h1
      cases j with
      | zero => exact h1
      | succ j => exact posT_lt x r j (by simpa using h) (by omega)
    · omega
theorem posT_at (x : ByteArray) : ∀ (l : List ByteArray) (h : posT x l < l.length), slt (l[posT x l]'h) x = false
  | a :: r, h => by
    by_cases h1 : slt a x = true
    · have e : posT x (a :: r) = posT x r + 1 := by simp [posT, h1]
      have := posT_at x r (by simp [e] at h; exact h)
      simpa [e] using this
    · have e : posT x (a :: r) = 0 := by simp [posT, h1]
      simpa [e] using h1
/-- The place is where the first that isn't below stands. -/
theorem posT_eq {x : ByteArray} {l : List ByteArray} {j : Nat} (hj : j ≤ l.length) (h1 : ∀ m (h : m < l.length), m < j → slt l[m] x = true) (h2 : ∀ h : j < l.length, slt l[j] x = false) : j = posT x l := by
  have hp := posT_le x l
  rcases Nat.lt_trichotomy j (posT x l) with h | h | h
  · have := posT_lt x l j (by omega) h
    rw [h2 (by omega)] at this; cases this
  · exact h
  · have := posT_at x l (by omega)
    rw [h1 _ (by omega) h] at this; cases this
theorem insT_eq (x : ByteArray) : ∀ l : List ByteArray, insT x l = if h : posT x l < l.length then (if l[posT x l]'h = x then l else l.take (posT x l) ++ x :: l.drop (posT x l)) else l ++ [x]
  | [] => rfl
  | a :: r => by
    by_cases h1 : slt a x = true
    · have e : posT x (a :: r) = posT x r + 1 := by simp [posT, h1]
      have ih := insT_eq x r
      unfold insT
      rw [if_pos h1, ih]
      simp only [e, List.length_cons, Nat.add_lt_add_iff_right, List.getElem_cons_succ, List.take_succ_cons, List.drop_succ_cons]
      split
      · split <;> simp
      · simp
    · have e : posT x (a :: r) = 0 := by simp [posT, h1]
      unfold insT
      rw [if_neg h1]
      simp only [e, List.length_cons, Nat.zero_lt_succ, dif_pos, List.getElem_cons_zero, List.take_zero, List.drop_zero, List.nil_append]

def SortedT (l : List ByteArray) : Prop := l.Pairwise fun a b => slt a b = true
theorem insT_mem {x y : ByteArray} : ∀ {l : List ByteArray}, y ∈ insT x l ↔ y = x ∨ y ∈ l
  | [] => by simp [insT]
  | a :: r => by
    unfold insT
    split
    · rw [List.mem_cons, insT_mem, List.mem_cons]
      constructor
      · rintro (h | h | h) <;> simp [h]
      · rintro (h | h | h) <;> simp [h]
    · split
      · rename_i h; subst h
        simp
      · simp
theorem insT_sorted {x : ByteArray} : ∀ {l : List ByteArray}, SortedT l → SortedT (insT x l)
  | [], _ => by simp [insT, SortedT]
  | a :: r, h => by
    have h' := List.pairwise_cons.1 h
    unfold insT
    split
    · rename_i h1
      refine List.pairwise_cons.2 ⟨fun y hy => ?_, insT_sorted h'.2⟩
      rcases insT_mem.1 hy with rfl | hy
      · exact h1
      · exact h'.1 y hy
    · split
      · exact h
      · rename_i h1 h2
        have h3 := slt_total (by simpa using h1) h2
        refine List.pairwise_cons.2 ⟨fun y hy => ?_, h⟩
        rcases List.mem_cons.1 hy with rfl | hy
        · exact h3
        · exact slt_trans h3 (h'.1 y hy)
theorem insT_len {x : ByteArray} : ∀ {l : List ByteArray}, SortedT l → (insT x l).length = if x ∈ l then l.length else l.length + 1
  | [], _ => by simp [insT]
  | a :: r, h => by
    have h' := List.pairwise_cons.1 h
    unfold insT
    split
    · rename_i h1
      have hne : ¬ x = a := fun e => by subst e; rw [slt_irrefl] at h1; cases h1
      rw [List.length_cons, insT_len h'.2]
      simp only [List.mem_cons, hne, false_or, List.length_cons]
      split <;> rfl
    · split
      · rename_i h1 h2
        subst h2
        simp
      · rename_i h1 h2
        have hni : ¬ x ∈ a :: r := by
          intro hx
          rcases List.mem_cons.1 hx with rfl | hx
          · exact h2 rfl
          · exact h1 (h'.1 x hx)
        rw [if_neg hni]
        simp
theorem sortT_succ {l : List ByteArray} {k : Nat} (hk : k < l.length) : sortT l (k + 1) = insT l[k] (sortT l k) := by
  unfold sortT
  rw [← List.take_append_getElem hk, List.foldl_append]
  rfl
theorem sortT_facts (l : List ByteArray) : ∀ k, k ≤ l.length → SortedT (sortT l k) ∧ (∀ y, y ∈ sortT l k ↔ y ∈ l.take k) ∧ (sortT l k).length ≤ k ∧ ((sortT l k).length = k ↔ (l.take k).Nodup)
  | 0, _ => by simp [sortT, SortedT]
  | k + 1, hk => by
    obtain ⟨h1, h2, h3, h4⟩ := sortT_facts l k (by omega)
    have hk' : k < l.length := by omega
    rw [sortT_succ hk']
    have hl := insT_len (x := l[k]) h1
    refine ⟨insT_sorted h1, fun y => ?_, ?_, ?_⟩
    · rw [insT_mem, h2, ← List.take_append_getElem hk', List.mem_append, List.mem_singleton]
      constructor
      · rintro (h | h); (exact .inr h); (exact .inl h)
      · rintro (h | h); (exact .inr h); (exact .inl h)
    · rw [hl]; split <;> omega
    · rw [hl, ← List.take_append_getElem hk', List.nodup_append]
      by_cases hm : l[k] ∈ sortT l k
      · rw [if_pos hm]
        constructor
        · intro e; omega
        · rintro ⟨_, _, h⟩
          exact absurd rfl (h _ ((h2 _).1 hm) _ (List.mem_singleton.2 rfl))
      · rw [if_neg hm]
        constructor
        · intro e
          refine ⟨h4.1 (by omega), by simp, fun a ha b hb e2 => ?_⟩
          rw [List.mem_singleton.1 hb] at e2
          subst e2
          exact hm ((h2 _).2 ha)
        · rintro ⟨h, _, _⟩
          rw [h4.2 h]
theorem sortT_nodup (l : List ByteArray) : (sortT l l.length).length = l.length ↔ l.Nodup := by
  have := (sortT_facts l l.length (Nat.le_refl _)).2.2.2
  rwa [List.take_length] at this
theorem sortT_len (l : List ByteArray) {k : Nat} (hk : k ≤ l.length) : (sortT l k).length ≤ k := (sortT_facts l k hk).2.2.1
theorem namesOnce_iff (l : List Pkg) : namesOnce l = true ↔ (l.map (·.name)).Nodup := by
  unfold namesOnce onceAt
  rw [List.all_eq_true]
  constructor
  · intro h
    rw [List.nodup_iff_pairwise_ne, List.pairwise_iff_getElem]
    intro i j hi hj hij e
    have hj' : j < l.length := by simpa using hj
    have := h j (List.mem_range.2 hj')
    simp only [Bool.not_eq_true', List.any_eq_false, decide_eq_true_eq] at this
    refine this l[i] ?_ ?_
    · rw [List.mem_take_iff_getElem]
      exact ⟨i, by omega, rfl⟩
    · simp only [List.getElem_map] at e
      simp [List.getD, hj', e]
  · intro h i hi
    have hi' := List.mem_range.1 hi
    rw [List.nodup_iff_pairwise_ne, List.pairwise_iff_getElem] at h
    simp only [Bool.not_eq_true', List.any_eq_false, decide_eq_true_eq]
    intro q hq e
    rw [List.mem_take_iff_getElem] at hq
    obtain ⟨m, hm, rfl⟩ := hq
    refine h m i (by simp; omega) (by simpa using hi') (by omega) ?_
    simp only [List.getElem_map]
    simpa [List.getD, hi'] using e

end Go.Proofs.YteoafnkcplealaaDoor
