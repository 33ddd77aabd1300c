/- What goes and what comes, of any lists, in plain Lean (for PlanTells). -/
import Derived.Test.YtppbjmhllmaakaaGreatDoorX9
set_option linter.unusedVariables false
namespace Go.Proofs.YtppbjmhllmaakaaGreatDoor
open Go.Lib

def Risen (l : List Int) : Prop := l.Pairwise (· < ·)
theorem risen_ext : ∀ {a b : List Int}, Risen a → Risen b → (∀ x, x ∈ a ↔ x ∈ b) → a = b
  | [], [], _, _, _ => rfl
  | [], y :: s, _, _, h => by have := (h y).2 (by simp); simp at this
  | x :: r, [], _, _, h => by have := (h x).1 (by simp); simp at this
  | x :: r, y :: s, ha, hb, h => by
    have ha' := List.pairwise_cons.1 ha
    have hb' := List.pairwise_cons.1 hb
    have e : x = y := by
      have h1 := (h x).1 (by simp)
      have h2 := (h y).2 (by simp)
      rcases List.mem_cons.1 h1 with h1 | h1
      · exact h1
      · rcases List.mem_cons.1 h2 with h2 | h2
        · exact h2.symm
        · have := hb'.1 x h1; have := ha'.1 y h2; omega
    subst e
    rw [risen_ext ha'.2 hb'.2 fun z => ?_]
    have hz := h z
    simp only [List.mem_cons] at hz
    constructor
    · intro hm
      rcases hz.1 (.inr hm) with h1 | h1
      · have := ha'.1 z hm; omega
      · exact h1
    · intro hm
      rcases hz.2 (.inr hm) with h1 | h1
      · have := hb'.1 z hm; omega
      · exact h1

def sortI (l : List Int) : List Int := l.mergeSort fun x y => decide (x ≤ y)
theorem sortI_le (l : List Int) : (sortI l).Pairwise (· ≤ ·) := by
  have := List.pairwise_mergeSort (le := fun x y : Int => decide (x ≤ y)) (fun a b c h1 h2 => by simp at *; omega) (fun a b => by simp; omega) l
  exact this.imp fun h => by simpa using h
theorem mem_sortI {l : List Int} {x : Int} : x ∈ sortI l ↔ x ∈ l := List.mem_mergeSort
theorem sortI_len (l : List Int) : (sortI l).length = l.length := List.length_mergeSort l

theorem compactUpTo_risen (d : Array Int) (hd : d.toList.Pairwise (· ≤ ·)) : ∀ m, m ≤ d.size → Risen (compactUpTo d m)
  | 0, _ => by simp [compactUpTo, Risen]
  | m + 1, hm => by
    rw [compactUpTo_succ]
    have ih := compactUpTo_risen d hd m (by omega)
    unfold Risen at *
    rw [List.pairwise_append]
    refine ⟨ih, by split <;> simp, fun a ha b hb => ?_⟩
    split at hb
    · rename_i hk
      obtain ⟨j, hj, rfl⟩ := compactUpTo_mem d m a ha
      have hb := List.mem_singleton.1 hb
      subst hb
      have hle : ∀ i k, i ≤ k → (hk : k < d.size) → d[i]! ≤ d[k]! := fun i k h hk => by
        by_cases e : i = k
        · subst e; exact Int.le_refl _
        · have := List.pairwise_iff_getElem.1 hd i k (by simp; omega) (by simpa using hk) (by omega)
          rw [getElem!_pos d i (by omega), getElem!_pos d k hk]
          simpa using this
      have h1 := hle j (m - 1) (by omega) (by omega)
      have h2 := hle (m - 1) m (by omega) (by omega)
      have h3 : d[m]! ≠ d[m - 1]! := by
        intro e
        have hk' := hk
        unfold keeps at hk'
        simp [e] at hk'
        omega
      omega
    · cases hb
theorem compact_risen {l : List Int} (h : l.Pairwise (· ≤ ·)) : Risen (compact l) := compactUpTo_risen l.toArray (by simpa using h) l.length (by simp)

/-- What is in l and not in but, rising, each once: as the program makes it. -/
def lessAll (l but : List Int) : List Int := compact (sortI (l.filter fun x => !decide (x ∈ but)))
/-- A number in its place, once. -/
def putL : List Int → Int → List Int
  | [], n => [n]
  | a :: r, n => if a < n then a :: putL r n else if a = n then a :: r else n :: a :: r
theorem mem_putL {x n : Int} : ∀ {l : List Int}, x ∈ putL l n ↔ x = n ∨ x ∈ l
  | [] => by simp [putL]
  | a :: r => by
    unfold putL
    split
    · simp only [List.mem_cons, mem_putL (l := r)]
      constructor
      · rintro (h | h | h) <;> simp [h]
      · rintro (h | h | h) <;> simp [h]
    · split
      · rename_i h1 h2
        subst h2
        simp
      · simp
theorem putL_risen {n : Int} : ∀ {l : List Int}, Risen l → Risen (putL l n)
  | [], _ => by simp [putL, Risen]
  | a :: r, h => by
    have h' := List.pairwise_cons.1 h
    unfold putL
    split
    · refine List.pairwise_cons.2 ⟨fun x hx => ?_, putL_risen h'.2⟩
      rcases mem_putL.1 hx with h1 | h1
      · omega
      · exact h'.1 x h1
    · split
      · exact h
      · refine List.pairwise_cons.2 ⟨fun x hx => ?_, h⟩
        rcases List.mem_cons.1 hx with h1 | h1
        · omega
        · have := h'.1 x h1; omega
theorem putL_at {n : Int} : ∀ {l : List Int} {m : Nat}, m ≤ l.length → (∀ q (h : q < l.length), q < m → l[q] < n) → putL l n = l.take m ++ putL (l.drop m) n
  | _, 0, _, _ => by simp
  | [], m + 1, hm, _ => by simp at hm
  | a :: r, m + 1, hm, h => by
    have h0 : a < n := h 0 (by simp) (by omega)
    have ih := putL_at (l := r) (m := m) (n := n) (by simpa using hm) (fun q hq hqm => by have := h (q + 1) (by simpa using hq) (by omega); simpa using this)
    rw [List.take_succ_cons, List.drop_succ_cons, List.cons_append, ← ih]
    exact if_pos h0
theorem putL_end {l : List Int} {n : Int} (h : ∀ q (h : q < l.length), q < l.length → l[q] < n) : putL l n = l ++ [n] := by
  rw [putL_at (Nat.le_refl _) h]; simp [putL]
theorem putL_mid {l : List Int} {n : Int} {m : Nat} (hm : m < l.length) (h : ∀ q (h : q < l.length), q < m → l[q] < n) (h1 : ¬ l[m] < n) (h2 : ¬ l[m] = n) : putL l n = l.take m ++ n :: l.drop m := by
  rw [putL_at (Nat.le_of_lt hm) h, List.drop_eq_getElem_cons hm]
  unfold putL
  rw [if_neg h1, if_neg h2]
theorem putL_same {l : List Int} {n : Int} {m : Nat} (hm : m < l.length) (h : ∀ q (h : q < l.length), q < m → l[q] < n) (h2 : l[m] = n) : putL l n = l := by
  rw [putL_at (Nat.le_of_lt hm) h, List.drop_eq_getElem_cons hm]
  unfold putL
  rw [if_neg (by omega), if_pos h2, ← List.drop_eq_getElem_cons hm, List.take_append_drop]
theorem putL_len (l : List Int) (n : Int) : (putL l n).length ≤ l.length + 1 := by
  induction l with
  | nil => simp [putL]
  | cons a r ih =>
    unfold putL
    split
    · simp; omega
    · split <;> simp
/-- As the reference makes it. -/
def lessRef (l but : List Int) : List Int := (l.filter fun x => !decide (x ∈ but)).foldl putL []
theorem foldl_putL : ∀ (l a : List Int), Risen a → Risen (l.foldl putL a) ∧ ∀ x, x ∈ l.foldl putL a ↔ x ∈ a ∨ x ∈ l
  | [], a, h => ⟨h, by simp⟩
  | n :: r, a, h => by
    obtain ⟨h1, h2⟩ := foldl_putL r (putL a n) (putL_risen h)
    refine ⟨h1, fun x => ?_⟩
    simp only [List.foldl_cons, h2, mem_putL, List.mem_cons]
    constructor
    · rintro ((h | h) | h) <;> simp [h]
    · rintro (h | h | h) <;> simp [h]
theorem lessAll_ref (l but : List Int) : lessAll l but = lessRef l but := by
  obtain ⟨h1, h2⟩ := foldl_putL (l.filter fun x => !decide (x ∈ but)) [] (by simp [Risen])
  refine risen_ext (compact_risen (sortI_le _)) h1 fun x => ?_
  unfold lessAll lessRef at *
  rw [mem_compact, mem_sortI, h2]
  simp
theorem lessAll_len (l but : List Int) : (lessAll l but).length ≤ l.length := by
  unfold lessAll
  have h1 : (compact (sortI (l.filter fun x => !decide (x ∈ but)))).length ≤ (sortI (l.filter fun x => !decide (x ∈ but))).length := by
    unfold compact compactUpTo
    rw [List.length_map]
    exact Nat.le_trans (List.length_filter_le _ _) (by simp)
  rw [sortI_len] at h1
  exact Nat.le_trans h1 (List.length_filter_le _ _)

end Go.Proofs.YtppbjmhllmaakaaGreatDoor
