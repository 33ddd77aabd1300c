/- Targets and their packages, in Lean. -/
import Derived.Test.YtppbjmhllmaakaaGreatDoorX1
set_option linter.unusedVariables false
namespace Go.Proofs.YtppbjmhllmaakaaGreatDoor

/-- Rising, behind last, below n. -/
def tgtFrom (n : Nat) : Int → List Int → Bool
  | _, [] => true
  | last, k :: r => (decide (last < k) && decide (k < n)) && tgtFrom n k r
def tgt (n : Nat) (l : List Int) : Bool := tgtFrom n (-1) l
/-- What stands ahead of place i. -/
def lastOf (l : List Int) (i : Nat) : Int := if i = 0 then -1 else l.getD (i - 1) 0
def pkg0 : Pkg := ⟨⟨#[]⟩, ⟨[], ⟨#[]⟩⟩, [], []⟩
def at0 (cat : List Pkg) (k : Int) : Pkg := cat.getD k.toNat pkg0
def pick (cat : List Pkg) (l : List Int) : List Pkg := if tgt cat.length l then l.map (at0 cat) else []
def without (l : List Pkg) (k : Nat) : List Pkg := l.take k ++ l.drop (k + 1)

theorem lastOf_zero (l : List Int) : lastOf l 0 = -1 := rfl
theorem lastOf_succ {l : List Int} {i : Nat} (h : i < l.length) : lastOf l (i + 1) = l[i] := by
  simp [lastOf, List.getD, h]
theorem tgtFrom_step {n : Nat} {l : List Int} {i : Nat} (h : i < l.length) (last : Int) : tgtFrom n last (l.drop i) = ((decide (last < l[i]) && decide (l[i] < n)) && tgtFrom n l[i] (l.drop (i + 1))) := by
  rw [List.drop_eq_getElem_cons h, tgtFrom]
theorem tgtFrom_end {n : Nat} {l : List Int} {i : Nat} (h : ¬ i < l.length) (last : Int) : tgtFrom n last (l.drop i) = true := by
  rw [List.drop_of_length_le (by omega), tgtFrom]

/-- A target's places: each in range, each above the one ahead of it. -/
theorem tgtFrom_all {n : Nat} : ∀ {l : List Int} {last : Int}, tgtFrom n last l = true → ∀ k ∈ l, last < k ∧ k < n
  | [], _, _, _, h => by cases h
  | a :: r, last, h, k, hk => by
    simp only [tgtFrom, Bool.and_eq_true, decide_eq_true_eq] at h
    rcases List.mem_cons.1 hk with rfl | hk
    · exact h.1
    · have := tgtFrom_all h.2 k hk
      omega
theorem tgt_mem {n : Nat} {l : List Int} (h : tgt n l = true) {k : Int} (hk : k ∈ l) : 0 ≤ k ∧ k < n := by
  have := tgtFrom_all h k hk; omega
theorem tgtFrom_len {n : Nat} : ∀ {l : List Int} {last : Int}, -1 ≤ last → last < n → tgtFrom n last l = true → (l.length : Int) ≤ n - 1 - last
  | [], last, h1, h2, _ => by simp; omega
  | a :: r, last, h1, h2, h => by
    simp only [tgtFrom, Bool.and_eq_true, decide_eq_true_eq] at h
    have := tgtFrom_len (l := r) (last := a) (by omega) h.1.2 h.2
    simp; omega
theorem tgt_len {n : Nat} {l : List Int} (h : tgt n l = true) : l.length ≤ n := by
  have := tgtFrom_len (by omega) (by omega) h; omega
theorem at0_get {cat : List Pkg} {k : Int} (h0 : 0 ≤ k) (h : k < cat.length) : at0 cat k = cat[k.toNat]'(by omega) := by
  have : k.toNat < cat.length := by omega
  simp [at0, List.getD, this]
theorem pick_yes {cat : List Pkg} {l : List Int} (h : tgt cat.length l = true) : pick cat l = l.map (at0 cat) := by unfold pick; rw [if_pos h]
theorem pick_no {cat : List Pkg} {l : List Int} (h : tgt cat.length l = false) : pick cat l = [] := by unfold pick; rw [h]; rfl
theorem pick_len {cat : List Pkg} {l : List Int} : (pick cat l).length ≤ cat.length := by
  unfold pick
  split
  · rename_i h; rw [List.length_map]; exact tgt_len h
  · simp

theorem take_map_succ {α β : Type} (f : α → β) {l : List α} {k : Nat} (h : k < l.length) : (l.take (k + 1)).map f = (l.take k).map f ++ [f l[k]] := by
  rw [← List.take_append_getElem h, List.map_append]; rfl

/-- Does a package lack something, as the i-th of those? -/
def openP (all : List Pkg) (i : Nat) : Bool := (all.getD i pkg0).clauses.any fun c => !met c (if c.neg then without all i else all)
def brkTo (all : List Pkg) (l : List Int) (k : Nat) : List Int := ((List.range k).filter (openP all)).map fun i => l.getD i 0
def broken (cat : List Pkg) (l : List Int) : List Int := brkTo (pick cat l) l (pick cat l).length
theorem brkTo_zero (all : List Pkg) (l : List Int) : brkTo all l 0 = [] := rfl
theorem brkTo_yes {all : List Pkg} {l : List Int} {k : Nat} (hk : k < l.length) (h : openP all k = true) : brkTo all l (k + 1) = brkTo all l k ++ [l[k]] := by
  unfold brkTo
  rw [List.range_succ, List.filter_append, List.map_append]
  simp [h, List.getD, hk]
theorem brkTo_no {all : List Pkg} {l : List Int} {k : Nat} (h : openP all k = false) : brkTo all l (k + 1) = brkTo all l k := by
  unfold brkTo
  rw [List.range_succ, List.filter_append]
  simp [h]
theorem brkTo_len (all : List Pkg) (l : List Int) (k : Nat) : (brkTo all l k).length ≤ k := by
  unfold brkTo
  rw [List.length_map]
  exact Nat.le_trans (List.length_filter_le _ _) (by simp)
theorem pick_len2 {cat : List Pkg} {l : List Int} : (pick cat l).length ≤ l.length := by
  unfold pick
  split <;> simp

end Go.Proofs.YtppbjmhllmaakaaGreatDoor
