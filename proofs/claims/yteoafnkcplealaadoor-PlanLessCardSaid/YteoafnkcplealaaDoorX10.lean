/- Plain facts for PlanLess: a place struck out. -/
import Derived.Test.YteoafnkcplealaaDoorX6
import Derived.Test.YteoafnkcplealaaDoorX8
set_option linter.unusedVariables false
namespace Go.Proofs.YteoafnkcplealaaDoor

theorem without_erase (l : List Pkg) (k : Nat) : without l k = l.eraseIdx k := by
  unfold without; rw [List.eraseIdx_eq_take_drop_succ]
theorem any_erase {α : Type} (f : α → Bool) : ∀ {l : List α} {k : Nat} (hk : k < l.length), l.any f = ((l.eraseIdx k).any f || f l[k])
  | a :: r, 0, _ => by simp [Bool.or_comm]
  | a :: r, k + 1, hk => by
    have := any_erase f (l := r) (k := k) (by simpa using hk)
    simp only [List.eraseIdx_cons_succ, List.any_cons, List.getElem_cons_succ, this, Bool.or_assoc]
/-- Where place j of the list without k stood. -/
def backAt (k j : Nat) : Nat := if j < k then j else j + 1
theorem erase_at {α : Type} {l : List α} {k j : Nat} : (l.eraseIdx k)[j]? = l[backAt k j]? := by
  rw [List.getElem?_eraseIdx]; unfold backAt; split <;> rfl
theorem erase_comm {α : Type} (l : List α) (k j : Nat) : (l.eraseIdx k).eraseIdx j = (l.eraseIdx (backAt k j)).eraseIdx (if j < k then k - 1 else k) := by
  apply List.ext_getElem?
  intro m
  rw [erase_at, erase_at, erase_at, erase_at]
  congr 1
  unfold backAt
  split <;> split <;> split <;> (try split) <;> (try split) <;> omega
/-- Rising, and in range. -/
theorem tgtFrom_iff {n : Nat} : ∀ {l : List Int} {last : Int}, tgtFrom n last l = true ↔ l.Pairwise (· < ·) ∧ ∀ x ∈ l, last < x ∧ x < n
  | [], last => by simp [tgtFrom]
  | a :: r, last => by
    simp only [tgtFrom, Bool.and_eq_true, decide_eq_true_eq, tgtFrom_iff (l := r), List.pairwise_cons, List.mem_cons, forall_eq_or_imp]
    constructor
    · rintro ⟨⟨h1, h2⟩, h3, h4⟩
      exact ⟨⟨fun x hx => (h4 x hx).1, h3⟩, ⟨h1, h2⟩, fun x hx => ⟨by have := (h4 x hx).1; omega, (h4 x hx).2⟩⟩
    · rintro ⟨⟨h1, h2⟩, ⟨h3, h4⟩, h5⟩
      exact ⟨⟨h3, h4⟩, h2, fun x hx => ⟨h1 x hx, (h5 x hx).2⟩⟩
theorem tgt_erase {n : Nat} {l : List Int} (h : tgt n l = true) (k : Nat) : tgt n (l.eraseIdx k) = true := by
  unfold tgt at *
  rw [tgtFrom_iff] at *
  exact ⟨h.1.sublist (List.eraseIdx_sublist ..), fun x hx => h.2 x ((List.eraseIdx_sublist ..).subset hx)⟩
theorem pick_erase {cat : List Pkg} {l : List Int} (h : tgt cat.length l = true) (k : Nat) : pick cat (l.eraseIdx k) = (pick cat l).eraseIdx k := by
  rw [pick_yes h, pick_yes (tgt_erase h k)]
  apply List.ext_getElem?
  intro m
  rw [erase_at, List.getElem?_map, List.getElem?_map, erase_at]
theorem any_congr_mem {α : Type} {f g : α → Bool} : ∀ {l : List α}, (∀ c ∈ l, f c = g c) → l.any f = l.any g
  | [], _ => rfl
  | a :: r, h => by rw [List.any_cons, List.any_cons, h a (List.mem_cons_self ..), any_congr_mem fun c hc => h c (List.mem_cons_of_mem _ hc)]
theorem met_erase {c : Clause} {l : List Pkg} {k : Nat} (hk : k < l.length) (hp : (c.any.any fun n => meets n l[k]) = false) : met c (l.eraseIdx k) = met c l := by
  unfold met
  rw [any_erase (fun p => c.any.any fun n => meets n p) hk, hp, Bool.or_false]
theorem back_ne (k j : Nat) : backAt k j ≠ k := by unfold backAt; split <;> omega
theorem open_erase {all : List Pkg} {k j : Nat} (hk : k < all.length) (hj : j < (all.eraseIdx k).length) (hno : ∀ i (hi : i < all.length), i ≠ k → ∀ c ∈ all[i].clauses, (c.any.any fun n => meets n all[k]) = false) :
    openP (all.eraseIdx k) j = openP all (backAt k j) := by
  have hl : (all.eraseIdx k).length = all.length - 1 := by rw [List.length_eraseIdx, if_pos hk]
  have hb : backAt k j < all.length := by unfold backAt; split <;> omega
  unfold openP
  have e : (all.eraseIdx k).getD j pkg0 = all[backAt k j] := by rw [List.getD, erase_at, List.getElem?_eq_getElem hb]; rfl
  have e2 : all.getD (backAt k j) pkg0 = all[backAt k j] := by rw [List.getD, List.getElem?_eq_getElem hb]; rfl
  rw [e, e2]
  refine any_congr_mem fun c hc => ?_
  have hp := hno _ hb (back_ne k j) c hc
  congr 1
  cases hn : c.neg
  · simp only [Bool.false_eq_true, if_false]
    exact met_erase hk hp
  · simp only [if_true]
    rw [without_erase, without_erase, erase_comm]
    have hq : (all.eraseIdx (backAt k j))[if j < k then k - 1 else k]? = some all[k] := by
      rw [erase_at, show backAt (backAt k j) (if j < k then k - 1 else k) = k from by unfold backAt; split <;> (try split) <;> (try split) <;> omega, List.getElem?_eq_getElem hk]
    obtain ⟨hlt, he⟩ := List.getElem?_eq_some_iff.1 hq
    exact met_erase hlt (by rw [he]; exact hp)

theorem broken_nil_iff {cat : List Pkg} {l : List Int} : (broken cat l).isEmpty = true ↔ ∀ i, i < (pick cat l).length → openP (pick cat l) i = false := by
  unfold broken brkTo
  rw [List.isEmpty_iff, List.map_eq_nil_iff, List.filter_eq_nil_iff]
  simp only [List.mem_range, Bool.not_eq_true]
theorem no_meet {n : Need} {p : Pkg} (h1 : ¬ n.name = p.name) (h2 : ¬ n.name ∈ p.provides) : meets n p = false := by
  unfold meets seqb
  rw [seqb_dec, decide_eq_false (fun e => h1 e.symm), decide_eq_false h2]
  simp
/-- A package that no other one of a valid target asks for can be taken away. -/
theorem valid_erase {cat : List Pkg} {l : List Int} {k : Nat} (h : validP cat l = true) (hk : k < (pick cat l).length)
    (hno : ∀ i (hi : i < (pick cat l).length), i ≠ k → ∀ c ∈ (pick cat l)[i].clauses, ∀ n ∈ c.any, ¬ n.name = (pick cat l)[k].name ∧ ¬ n.name ∈ (pick cat l)[k].provides) : validP cat (l.eraseIdx k) = true := by
  unfold validP at *
  simp only [Bool.and_eq_true] at *
  obtain ⟨⟨⟨h1, h2⟩, h3⟩, h4⟩ := h
  have hpe := pick_erase h2 k
  have hlen : ((pick cat l).eraseIdx k).length = (pick cat l).length - 1 := by rw [List.length_eraseIdx, if_pos hk]
  refine ⟨⟨⟨h1, tgt_erase h2 k⟩, ?_⟩, ?_⟩
  · rw [broken_nil_iff] at *
    rw [hpe]
    intro j hj
    rw [open_erase hk hj fun i hi hik c hc => ?_]
    · exact h3 _ (by unfold backAt; split <;> omega)
    · rw [List.any_eq_false]
      intro n hn
      have := hno i hi hik c hc n hn
      rw [no_meet this.1 this.2]
      simp
  · rw [namesOnce_iff] at *
    rw [hpe]
    exact h4.sublist ((List.eraseIdx_sublist ..).map _)

end Go.Proofs.YteoafnkcplealaaDoor
