/- The search for a target, in plain Lean: the ways in their order, what is hopeless, what is found. -/
import Derived.Test.YtppbjmhllmaakaaGreatDoorX6
set_option linter.unusedVariables false
namespace Go.Proofs.YtppbjmhllmaakaaGreatDoor

/-- Does place k of the catalogue meet one of a clause's needs? -/
def hitC (cat : List Pkg) (c : Clause) (k : Int) : Bool := c.any.any fun n => meets n (at0 cat k)
def hitN (cat : List Pkg) (c : Clause) (but k : Int) : Bool := decide (k ≠ but) && hitC cat c k
/-- Those from a place on. -/
def laterS (cat : List Pkg) (c : Clause) (but : Int) (k : Nat) : Bool := (List.range' k (cat.length - k)).any fun j => hitN cat c but (j : Nat)
def someS (cat : List Pkg) (S : List Int) (c : Clause) (k : Nat) (but : Int) : Bool := S.any (hitN cat c but) || laterS cat c but k
def openS (cat : List Pkg) (S : List Int) (c : Clause) (k : Nat) (own : Int) : Bool := if c.neg then !someS cat S c cat.length own else someS cat S c k (-1)
def twiceS (cat : List Pkg) (S : List Int) (i : Nat) : Bool := (S.take i).any fun j => decide ((at0 cat j).name = (at0 cat (S.getD i 0)).name)
def stuckS (cat : List Pkg) (S : List Int) (k : Nat) (i : Nat) : Bool := (at0 cat (S.getD i 0)).clauses.any fun c => !openS cat S c k (S.getD i 0)
def badS (cat : List Pkg) (S : List Int) (k i : Nat) : Bool := twiceS cat S i || stuckS cat S k i
def hopeS (cat : List Pkg) (S : List Int) (want : List Clause) (k : Nat) : Bool := (List.range S.length).any (badS cat S k) || want.any fun c => !openS cat S c k (-1)

/-- Is it valid, and does it grant what is wanted? -/
def good (cat : List Pkg) (want : List Clause) (S : List Int) : Bool := validP cat S && grants cat S want

/-- Places that rise, from a on, below n. -/
def Up (n a : Nat) (R : List Int) : Prop := R.Pairwise (· < ·) ∧ ∀ x ∈ R, (a : Int) ≤ x ∧ x < n
theorem Up.nil (n a : Nat) : Up n a [] := ⟨List.Pairwise.nil, fun x h => by cases h⟩
theorem Up.snoc {n a : Nat} {S : List Int} (h : Up a 0 S) (ha : a < n) : Up (a + 1) 0 (S ++ [(a : Int)]) := by
  refine ⟨?_, ?_⟩
  · rw [List.pairwise_append]
    exact ⟨h.1, by simp, fun x hx y hy => by have := h.2 x hx; simp at hy; omega⟩
  · intro x hx
    rcases List.mem_append.1 hx with hx | hx
    · have := h.2 x hx; omega
    · simp at hx; omega
theorem Up.more {a : Nat} {S : List Int} (h : Up a 0 S) : Up (a + 1) 0 S := ⟨h.1, fun x hx => by have := h.2 x hx; omega⟩
theorem Up.cat {n a : Nat} {S R : List Int} (h : Up a 0 S) (k : Up n a R) (ha : a ≤ n) : Up n 0 (S ++ R) := by
  refine ⟨List.pairwise_append.2 ⟨h.1, k.1, fun x hx y hy => ?_⟩, fun x hx => ?_⟩
  · have := h.2 x hx; have := k.2 y hy; omega
  · rcases List.mem_append.1 hx with hx | hx
    · have := h.2 x hx; omega
    · have := k.2 x hx; omega
theorem tgtFrom_up {n : Nat} : ∀ {l : List Int} {last : Int}, tgtFrom n last l = true ↔ l.Pairwise (· < ·) ∧ ∀ x ∈ l, last < x ∧ x < n
  | [], last => by simp [tgtFrom]
  | a :: r, last => by
    simp only [tgtFrom, Bool.and_eq_true, decide_eq_true_eq, tgtFrom_up (l := r), List.pairwise_cons, List.mem_cons, forall_eq_or_imp]
    constructor
    · rintro ⟨⟨h1, h2⟩, h3, h4⟩
      exact ⟨⟨fun x hx => (h4 x hx).1, h3⟩, ⟨h1, h2⟩, fun x hx => ⟨by have := (h4 x hx).1; omega, (h4 x hx).2⟩⟩
    · rintro ⟨⟨h1, h2⟩, ⟨h3, h4⟩, h5⟩
      exact ⟨⟨h3, h4⟩, h2, fun x hx => ⟨h1 x hx, (h5 x hx).2⟩⟩
theorem tgt_up {n : Nat} {l : List Int} : tgt n l = true ↔ Up n 0 l := by
  unfold tgt Up
  rw [tgtFrom_up]
  constructor
  · rintro ⟨h1, h2⟩; exact ⟨h1, fun x hx => by have := h2 x hx; omega⟩
  · rintro ⟨h1, h2⟩; exact ⟨h1, fun x hx => by have := h2 x hx; omega⟩

/-! ### The search -/
/-- The first way, and the other one. -/
def wayOne (hv : List Int) (k : Nat) (S : List Int) : List Int := if decide ((k : Int) ∈ hv) then S ++ [(k : Int)] else S
def wayTwo (hv : List Int) (k : Nat) (S : List Int) : List Int := if decide ((k : Int) ∈ hv) then S else S ++ [(k : Int)]
/-- The first of the targets that go on from S, m places still open, and how many stand ahead of it. -/
def seek (f : List Int → Bool) (hv : List Int) (n : Nat) : Nat → List Int → Option (Nat × List Int)
  | 0, S => if f S then some (0, S) else none
  | m + 1, S => match seek f hv n m (wayOne hv (n - (m + 1)) S) with
    | some r => some r
    | none => match seek f hv n m (wayTwo hv (n - (m + 1)) S) with
      | some r => some (2 ^ m + r.1, r.2)
      | none => none

theorem seek_none {f : List Int → Bool} {hv : List Int} {n : Nat} : ∀ {m : Nat} {S : List Int}, m ≤ n → (∀ R, Up n (n - m) R → f (S ++ R) = false) → seek f hv n m S = none
  | 0, S, _, h => by
    have := h [] (Up.nil _ _)
    rw [List.append_nil] at this
    simp [seek, this]
  | m + 1, S, hm, h => by
    have h1 : ∀ R, Up n (n - m) R → f (S ++ R) = false := fun R hR => h R ⟨hR.1, fun x hx => by have := hR.2 x hx; omega⟩
    have h2 : ∀ R, Up n (n - m) R → f (S ++ [((n - (m + 1) : Nat) : Int)] ++ R) = false := fun R hR => by
      rw [List.append_assoc]
      refine h _ ⟨?_, ?_⟩
      · rw [List.singleton_append, List.pairwise_cons]
        exact ⟨fun x hx => by have := hR.2 x hx; omega, hR.1⟩
      · intro x hx
        rcases List.mem_append.1 hx with hx | hx
        · simp at hx; omega
        · have := hR.2 x hx; omega
    have a := seek_none (f := f) (hv := hv) (n := n) (m := m) (S := S) (by omega) h1
    have b := seek_none (f := f) (hv := hv) (n := n) (m := m) (S := S ++ [((n - (m + 1) : Nat) : Int)]) (by omega) h2
    have a2 : seek f hv n m (wayOne hv (n - (m + 1)) S) = none := by unfold wayOne; split <;> assumption
    have b2 : seek f hv n m (wayTwo hv (n - (m + 1)) S) = none := by unfold wayTwo; split <;> assumption
    simp [seek, a2, b2]
theorem seek_lt {f : List Int → Bool} {hv : List Int} {n : Nat} : ∀ {m : Nat} {S : List Int} {i : Nat} {r : List Int}, seek f hv n m S = some (i, r) → i < 2 ^ m
  | 0, S, i, r, h => by
    unfold seek at h
    split at h
    · simp only [Option.some.injEq, Prod.mk.injEq] at h; omega
    · cases h
  | m + 1, S, i, r, h => by
    unfold seek at h
    have e : (2 : Nat) ^ (m + 1) = 2 ^ m + 2 ^ m := by rw [Nat.pow_succ]; omega
    split at h
    · rename_i q hq
      cases h
      have := seek_lt hq
      omega
    · split at h
      · rename_i q hq
        simp only [Option.some.injEq, Prod.mk.injEq] at h
        have := seek_lt (i := q.1) (r := q.2) hq
        omega
      · cases h
theorem seek_some {f : List Int → Bool} {hv : List Int} {n : Nat} : ∀ {m : Nat} {S : List Int} {i : Nat} {r : List Int}, m ≤ n → seek f hv n m S = some (i, r) → f r = true ∧ ∃ R, Up n (n - m) R ∧ r = S ++ R
  | 0, S, i, r, _, h => by
    unfold seek at h
    split at h
    · rename_i hf
      simp only [Option.some.injEq, Prod.mk.injEq] at h
      refine ⟨by rw [← h.2]; exact hf, [], Up.nil _ _, by rw [← h.2]; simp⟩
    · cases h
  | m + 1, S, i, r, hm, h => by
    have key : ∀ (T : List Int) (i : Nat) (r : List Int), (T = S ∨ T = S ++ [((n - (m + 1) : Nat) : Int)]) → seek f hv n m T = some (i, r) → f r = true ∧ ∃ R, Up n (n - (m + 1)) R ∧ r = S ++ R := by
      rintro T i r hT hs
      obtain ⟨h1, R, hR, rfl⟩ := seek_some (by omega) hs
      refine ⟨h1, ?_⟩
      rcases hT with rfl | rfl
      · exact ⟨R, ⟨hR.1, fun x hx => by have := hR.2 x hx; omega⟩, rfl⟩
      · refine ⟨((n - (m + 1) : Nat) : Int) :: R, ⟨?_, ?_⟩, by simp⟩
        · rw [List.pairwise_cons]
          exact ⟨fun x hx => by have := hR.2 x hx; omega, hR.1⟩
        · intro x hx
          rcases List.mem_cons.1 hx with hx | hx
          · omega
          · have := hR.2 x hx; omega
    unfold seek at h
    split at h
    · rename_i q hq
      cases h
      exact key _ _ _ (by unfold wayOne; split <;> simp) hq
    · split at h
      · rename_i q hq
        simp only [Option.some.injEq, Prod.mk.injEq] at h
        rw [← h.2]
        exact key _ q.1 q.2 (by unfold wayTwo; split <;> simp) hq
      · cases h
/-- Where nothing is found no target that goes on from S would do. -/
theorem seek_all {f : List Int → Bool} {hv : List Int} {n : Nat} : ∀ {m : Nat} {S : List Int}, m ≤ n → seek f hv n m S = none → ∀ R, Up n (n - m) R → f (S ++ R) = false
  | 0, S, _, h, R, hR => by
    have e : R = [] := by
      cases R with
      | nil => rfl
      | cons a r => have := hR.2 a (List.mem_cons_self ..); omega
    subst e
    unfold seek at h
    split at h
    · cases h
    · rename_i hf; simpa using hf
  | m + 1, S, hm, h, R, hR => by
    have h12 : seek f hv n m S = none ∧ seek f hv n m (S ++ [((n - (m + 1) : Nat) : Int)]) = none := by
      unfold seek at h
      split at h
      · cases h
      · rename_i h1
        split at h
        · cases h
        · rename_i h2
          unfold wayOne at h1
          unfold wayTwo at h2
          by_cases hd : ((n - (m + 1) : Nat) : Int) ∈ hv
          · simp only [hd, decide_true, if_true] at h1 h2; exact ⟨h2, h1⟩
          · simp only [hd, decide_false, Bool.false_eq_true, if_false] at h1 h2; exact ⟨h1, h2⟩
    have rest : ∀ r : List Int, (∀ x ∈ r, ((n - (m + 1) : Nat) : Int) < x ∧ x < n) → r.Pairwise (· < ·) → Up n (n - m) r := fun r h1 h2 => ⟨h2, fun x hx => by have := h1 x hx; omega⟩
    cases R with
    | nil =>
      exact seek_all (by omega) h12.1 [] (Up.nil _ _)
    | cons a r =>
      have h3 := List.pairwise_cons.1 hR.1
      have ha := hR.2 a (List.mem_cons_self ..)
      by_cases e : a = ((n - (m + 1) : Nat) : Int)
      · subst e
        have := seek_all (by omega) h12.2 r (rest r (fun x hx => ⟨h3.1 x hx, (hR.2 x (List.mem_cons_of_mem _ hx)).2⟩) h3.2)
        simpa using this
      · refine seek_all (by omega) h12.1 (a :: r) ⟨hR.1, fun x hx => ?_⟩
        rcases List.mem_cons.1 hx with hx | hx
        · omega
        · have := h3.1 x hx; have := hR.2 x (List.mem_cons_of_mem _ hx); omega

/-! ### What is hopeless -/
theorem laterS_end (cat : List Pkg) (c : Clause) (but : Int) {k : Nat} (h : cat.length ≤ k) : laterS cat c but k = false := by
  unfold laterS
  rw [show cat.length - k = 0 from by omega]
  rfl
theorem laterS_step (cat : List Pkg) (c : Clause) (but : Int) {k : Nat} (h : k < cat.length) : laterS cat c but k = (hitN cat c but k || laterS cat c but (k + 1)) := by
  unfold laterS
  rw [show cat.length - k = (cat.length - (k + 1)) + 1 from by omega, List.range'_succ]
  rfl
theorem someS_end (cat : List Pkg) (S : List Int) (c : Clause) (but : Int) : someS cat S c cat.length but = S.any (hitN cat c but) := by
  unfold someS
  rw [laterS_end _ _ _ (Nat.le_refl _), Bool.or_false]
theorem hitN_none {cat : List Pkg} {S : List Int} {c : Clause} (h : ∀ x ∈ S, (0 : Int) ≤ x) : S.any (hitN cat c (-1)) = S.any (hitC cat c) := by
  rw [Bool.eq_iff_iff, List.any_eq_true, List.any_eq_true]
  unfold hitN
  constructor
  · rintro ⟨x, hx, h1⟩
    simp only [Bool.and_eq_true] at h1
    exact ⟨x, hx, h1.2⟩
  · rintro ⟨x, hx, h1⟩
    have := h x hx
    exact ⟨x, hx, by rw [h1, decide_eq_true (show x ≠ -1 by omega)]; rfl⟩
/-- A hopeless start: no target that goes on from it will do. -/
theorem hope_more {cat : List Pkg} {S R : List Int} {want : List Clause} {k : Nat} (hk : k ≤ cat.length) (hR : Up cat.length k R) (h : hopeS cat S want k = true) : hopeS cat (S ++ R) want cat.length = true := by
  have o : ∀ (c : Clause) (own : Int), openS cat S c k own = false → openS cat (S ++ R) c cat.length own = false := by
    intro c own ho
    unfold openS at *
    cases hn : c.neg
    · rw [hn] at ho
      simp only [Bool.false_eq_true, if_false] at ho ⊢
      rw [someS_end, List.any_append]
      unfold someS at ho
      rw [Bool.or_eq_false_iff] at ho
      rw [ho.1, Bool.false_or, List.any_eq_false]
      intro x hx hh
      have hb := hR.2 x hx
      have h2 := ho.2
      unfold laterS at h2
      rw [List.any_eq_false] at h2
      refine h2 x.toNat ?_ (by rw [show ((x.toNat : Nat) : Int) = x from by omega]; exact hh)
      rw [List.mem_range'_1]
      omega
    · rw [hn] at ho
      simp only [if_true, Bool.not_eq_false'] at ho ⊢
      rw [someS_end] at ho ⊢
      rw [List.any_append, ho]; rfl
  unfold hopeS at *
  rw [Bool.or_eq_true] at *
  rcases h with h | h
  · left
    rw [List.any_eq_true] at *
    obtain ⟨i, hi, hb⟩ := h
    have hi' := List.mem_range.1 hi
    refine ⟨i, List.mem_range.2 (by rw [List.length_append]; omega), ?_⟩
    have e : (S ++ R).getD i 0 = S.getD i 0 := by
      rw [List.getD, List.getD, List.getElem?_append_left hi']
    have e2 : (S ++ R).take i = S.take i := by
      rw [List.take_append_of_le_length (by omega)]
    unfold badS twiceS stuckS at *
    rw [e, e2]
    rw [Bool.or_eq_true] at *
    rcases hb with hb | hb
    · left; exact hb
    · right
      rw [List.any_eq_true] at *
      obtain ⟨c, hc, hcc⟩ := hb
      exact ⟨c, hc, by rw [o c _ (by simpa using hcc)]; rfl⟩
  · right
    rw [List.any_eq_true] at *
    obtain ⟨c, hc, hcc⟩ := h
    exact ⟨c, hc, by rw [o c _ (by simpa using hcc)]; rfl⟩

theorem not_any_getD {α : Type} (f : α → Bool) (l : List α) (d : α) : l.any f = (List.range l.length).any fun i => f (l.getD i d) := by
  rw [Bool.eq_iff_iff, List.any_eq_true, List.any_eq_true]
  constructor
  · rintro ⟨x, hx, hf⟩
    obtain ⟨i, hi, rfl⟩ := List.getElem_of_mem hx
    exact ⟨i, List.mem_range.2 hi, by rw [List.getD, List.getElem?_eq_getElem hi]; exact hf⟩
  · rintro ⟨i, hi, hf⟩
    have hi := List.mem_range.1 hi
    rw [List.getD, List.getElem?_eq_getElem hi] at hf
    exact ⟨l[i], List.getElem_mem hi, hf⟩
theorem any_congr_on {α : Type} {f g : α → Bool} : ∀ {l : List α}, (∀ c ∈ l, f c = g c) → l.any f = l.any g
  | [], _ => rfl
  | a :: r, h => by rw [List.any_cons, List.any_cons, h a (List.mem_cons_self ..), any_congr_on fun c hc => h c (List.mem_cons_of_mem _ hc)]
theorem any_map2 {α β : Type} (g : α → β) (f : β → Bool) : ∀ l : List α, (l.map g).any f = l.any fun x => f (g x)
  | [] => rfl
  | a :: r => by rw [List.map_cons, List.any_cons, List.any_cons, any_map2 g f r]
/-- Struck out by its place, or by its number: the same, where places rise. -/
theorem any_but {cat : List Pkg} {c : Clause} {S : List Int} (hd : S.Nodup) {i : Nat} (hi : i < S.length) : S.any (hitN cat c S[i]) = (S.take i ++ S.drop (i + 1)).any (hitC cat c) := by
  have hne : ∀ j (hj : j < S.length), j ≠ i → S[j] ≠ S[i] := fun j hj hji e => hji ((List.getElem_inj hd).1 e)
  rw [Bool.eq_iff_iff, List.any_eq_true, List.any_eq_true]
  constructor
  · rintro ⟨x, hx, h⟩
    obtain ⟨j, hj, rfl⟩ := List.getElem_of_mem hx
    unfold hitN at h
    simp only [Bool.and_eq_true, decide_eq_true_eq] at h
    refine ⟨S[j], ?_, h.2⟩
    have hji : j ≠ i := fun e => h.1 (by subst e; rfl)
    rw [List.mem_append]
    by_cases hlt : j < i
    · left; exact List.mem_take_iff_getElem.2 ⟨j, by omega, rfl⟩
    · right
      rw [List.mem_drop_iff_getElem]
      exact ⟨j - (i + 1), by omega, by congr 1; omega⟩
  · rintro ⟨x, hx, h⟩
    rw [List.mem_append] at hx
    have : ∃ j, ∃ hj : j < S.length, j ≠ i ∧ S[j] = x := by
      rcases hx with hx | hx
      · obtain ⟨j, hj, rfl⟩ := List.mem_take_iff_getElem.1 hx
        exact ⟨j, by omega, by omega, rfl⟩
      · rw [List.mem_drop_iff_getElem] at hx
        obtain ⟨j, hj, rfl⟩ := hx
        exact ⟨i + 1 + j, by omega, by omega, by congr 1⟩
    obtain ⟨j, hj, hji, rfl⟩ := this
    refine ⟨S[j], List.getElem_mem hj, ?_⟩
    unfold hitN
    rw [h, decide_eq_true (hne j hj hji)]; rfl
theorem bne_true (a : Bool) : (a != true) = !a := by cases a <;> rfl
theorem bne_false (a : Bool) : (a != false) = a := by cases a <;> rfl
theorem any_pick {cat : List Pkg} {c : Clause} (l : List Int) : ((l.map (at0 cat)).any fun p => c.any.any fun n => meets n p) = l.any (hitC cat c) := by
  rw [any_map2]; rfl
/-- At the end: hopeless just if it isn't what is looked for. -/
theorem hope_end {cat : List Pkg} {S : List Int} {want : List Clause} (hp : planOk cat = true) (ht : tgt cat.length S = true) : hopeS cat S want cat.length = !good cat want S := by
  have hu := tgt_up.1 ht
  have h0 : ∀ x ∈ S, (0 : Int) ≤ x := fun x hx => by have := hu.2 x hx; omega
  have hd : S.Nodup := hu.1.imp fun h => by omega
  have hpk := pick_yes ht
  have hlen : (pick cat S).length = S.length := by rw [hpk, List.length_map]
  have hgd : ∀ i, i < S.length → (pick cat S).getD i pkg0 = at0 cat (S.getD i 0) := by
    intro i hi
    rw [hpk, List.getD, List.getD, List.getElem?_map, List.getElem?_eq_getElem hi]; rfl
  -- the clauses of one that is in
  have hst : ∀ i, i < S.length → stuckS cat S cat.length i = openP (pick cat S) i := by
    intro i hi
    unfold stuckS openP
    rw [hgd i hi]
    refine any_congr_on fun c _ => ?_
    have hgi : S.getD i 0 = S[i] := by rw [List.getD, List.getElem?_eq_getElem hi]; rfl
    unfold openS
    cases hn : c.neg
    · simp only [Bool.false_eq_true, if_false]
      rw [someS_end, hitN_none h0]
      unfold met
      rw [hn, bne_false, hpk, any_pick]
    · simp only [if_true]
      rw [someS_end, hgi, any_but hd hi]
      unfold met without
      rw [hn, bne_true, hpk, ← List.map_take, ← List.map_drop, ← List.map_append, any_pick]
  have htw : ∀ i, i < S.length → twiceS cat S i = !onceAt (pick cat S) i := by
    intro i hi
    unfold twiceS onceAt
    rw [hgd i hi, hpk, ← List.map_take, any_map2, Bool.not_not]
  have hwant : (want.any fun c => !openS cat S c cat.length (-1)) = !(want.all fun c => met c (pick cat S)) := by
    rw [List.not_all_eq_any_not]
    refine any_congr_on fun c _ => ?_
    unfold openS met
    cases hn : c.neg
    · simp only [Bool.false_eq_true, if_false]
      rw [someS_end, hitN_none h0, bne_false, hpk, any_pick]
    · simp only [if_true]
      rw [someS_end, hitN_none h0, bne_true, hpk, any_pick]
  have hbr : (broken cat S).isEmpty = !((List.range S.length).any fun i => stuckS cat S cat.length i) := by
    unfold broken brkTo
    rw [hlen, Bool.eq_iff_iff, List.isEmpty_iff, List.map_eq_nil_iff, List.filter_eq_nil_iff, Bool.not_eq_true', List.any_eq_false]
    simp only [List.mem_range, Bool.not_eq_true]
    constructor
    · intro h i hi; rw [hst i hi]; exact h i hi
    · intro h i hi; rw [← hst i hi]; exact h i hi
  have hno : namesOnce (pick cat S) = !((List.range S.length).any fun i => twiceS cat S i) := by
    unfold namesOnce
    rw [hlen, Bool.eq_iff_iff, Bool.not_eq_true', List.any_eq_false, List.all_eq_true]
    simp only [List.mem_range, Bool.not_eq_true]
    constructor
    · intro h i hi; rw [htw i hi, h i hi]; rfl
    · intro h i hi; have := h i hi; rw [htw i hi] at this; simpa using this
  have hor : ((List.range S.length).any (badS cat S cat.length)) = (((List.range S.length).any fun i => twiceS cat S i) || ((List.range S.length).any fun i => stuckS cat S cat.length i)) := by
    rw [Bool.eq_iff_iff, Bool.or_eq_true, List.any_eq_true, List.any_eq_true, List.any_eq_true]
    unfold badS
    constructor
    · rintro ⟨i, hi, h⟩
      rw [Bool.or_eq_true] at h
      rcases h with h | h
      · exact Or.inl ⟨i, hi, h⟩
      · exact Or.inr ⟨i, hi, h⟩
    · rintro (⟨i, hi, h⟩ | ⟨i, hi, h⟩)
      · exact ⟨i, hi, by rw [h]; rfl⟩
      · exact ⟨i, hi, by rw [h, Bool.or_true]⟩
  unfold hopeS good validP grants
  rw [hor, hp, ht, hbr, hno, hwant]
  cases ((List.range S.length).any fun i => twiceS cat S i) <;> cases ((List.range S.length).any fun i => stuckS cat S cat.length i) <;> cases (want.all fun c => met c (pick cat S)) <;> rfl
/-- A hopeless start finds nothing. -/
theorem seek_hope {cat : List Pkg} {hv S : List Int} {want : List Clause} {k : Nat} (hp : planOk cat = true) (hk : k ≤ cat.length) (hS : Up k 0 S) (h : hopeS cat S want k = true) : seek (good cat want) hv cat.length (cat.length - k) S = none := by
  refine seek_none (by omega) fun R hR => ?_
  rw [show cat.length - (cat.length - k) = k from by omega] at hR
  have h1 := hope_more hk hR h
  rw [hope_end hp (tgt_up.2 (hS.cat hR hk))] at h1
  simpa using h1

/-! ### The answer -/
/-- What the search from S on does, the steps used so far given: does it go on, is one found, the steps, what is in. -/
structure Ran where
  on : Bool
  found : Bool
  steps : Int
  ins : List Int
def goOn (m : Nat) (budget s : Int) : Bool := decide (s + ((2 ^ m : Nat) : Int) < budget)
/-- The steps behind a skip. -/
def skipTo (m : Nat) (budget s : Int) : Int := if goOn m budget s then s + ((2 ^ m : Nat) : Int) else budget
theorem skipTo_on {m : Nat} {budget s : Int} (h : goOn m budget s = true) : skipTo m budget s = s + ((2 ^ m : Nat) : Int) := by unfold skipTo; rw [h]; rfl
theorem skipTo_off {m : Nat} {budget s : Int} (h : goOn m budget s = false) : skipTo m budget s = budget := by unfold skipTo; rw [h]; rfl
def runS (f : List Int → Bool) (hv : List Int) (n m : Nat) (budget s : Int) (S : List Int) : Ran :=
  match seek f hv n m S with
  | some r => if s + r.1 + 1 ≤ budget then ⟨false, true, s + r.1 + 1, r.2⟩ else ⟨false, false, budget, []⟩
  | none => if s + ((2 ^ m : Nat) : Int) < budget then ⟨true, false, s + ((2 ^ m : Nat) : Int), S⟩ else ⟨false, false, budget, []⟩
theorem two_pow (m : Nat) : (2 : Nat) ^ (m + 1) = 2 ^ m + 2 ^ m := by rw [Nat.pow_succ]; omega
/-- The first way is the last one. -/
theorem runS_off {f : List Int → Bool} {hv : List Int} {n m : Nat} {budget s : Int} {S : List Int} (h : (runS f hv n m budget s (wayOne hv (n - (m + 1)) S)).on = false) :
    runS f hv n (m + 1) budget s S = runS f hv n m budget s (wayOne hv (n - (m + 1)) S) := by
  unfold runS at h ⊢
  rw [seek]
  rw [two_pow]
  have hp := Nat.two_pow_pos m
  cases h1 : seek f hv n m (wayOne hv (n - (m + 1)) S) with
  | some r => simp only
  | none =>
    rw [h1] at h
    simp only at h ⊢
    split at h
    · cases h
    · rename_i hb
      cases h2 : seek f hv n m (wayTwo hv (n - (m + 1)) S) with
      | some r => simp only; rw [if_neg (by omega), if_neg hb]
      | none => simp only; rw [if_neg (by omega), if_neg hb]
/-- The first way goes on. -/
theorem runS_on {f : List Int → Bool} {hv : List Int} {n m : Nat} {budget s : Int} {S : List Int} (h : (runS f hv n m budget s S).on = true) : runS f hv n m budget s S = ⟨true, false, s + ((2 ^ m : Nat) : Int), S⟩ ∧ s + ((2 ^ m : Nat) : Int) < budget := by
  unfold runS at h ⊢
  split at h
  · split at h <;> cases h
  · split at h
    · rename_i h1; simp only [h1, if_true]; simp
    · cases h
theorem runS_two {f : List Int → Bool} {hv : List Int} {n m : Nat} {budget s : Int} {S : List Int} (h : (runS f hv n m budget s (wayOne hv (n - (m + 1)) S)).on = true) :
    (runS f hv n m budget (s + ((2 ^ m : Nat) : Int)) (wayTwo hv (n - (m + 1)) S)).on = (runS f hv n (m + 1) budget s S).on ∧
    (runS f hv n m budget (s + ((2 ^ m : Nat) : Int)) (wayTwo hv (n - (m + 1)) S)).found = (runS f hv n (m + 1) budget s S).found ∧
    (runS f hv n m budget (s + ((2 ^ m : Nat) : Int)) (wayTwo hv (n - (m + 1)) S)).steps = (runS f hv n (m + 1) budget s S).steps ∧
    ((runS f hv n (m + 1) budget s S).on = false → (runS f hv n m budget (s + ((2 ^ m : Nat) : Int)) (wayTwo hv (n - (m + 1)) S)).ins = (runS f hv n (m + 1) budget s S).ins) ∧
    ((runS f hv n (m + 1) budget s S).on = true → (runS f hv n (m + 1) budget s S).ins = S) := by
  have h1 : seek f hv n m (wayOne hv (n - (m + 1)) S) = none := by
    unfold runS at h
    split at h
    · split at h <;> cases h
    · assumption
  unfold runS
  rw [seek, h1, two_pow]
  have hp := Nat.two_pow_pos m
  cases h2 : seek f hv n m (wayTwo hv (n - (m + 1)) S) with
  | some r =>
    simp only
    by_cases hb : s + ((2 ^ m + r.1 : Nat) : Int) + 1 ≤ budget
    · rw [if_pos (by omega), if_pos hb]
      exact ⟨rfl, rfl, by simp only; omega, fun _ => rfl, fun e => by cases e⟩
    · rw [if_neg (by omega), if_neg hb]
      exact ⟨rfl, rfl, rfl, fun _ => rfl, fun e => by cases e⟩
  | none =>
    simp only
    by_cases hb : s + ((2 ^ m + 2 ^ m : Nat) : Int) < budget
    · rw [if_pos (by omega), if_pos hb]
      exact ⟨rfl, rfl, by simp only; omega, fun e => by (cases e), fun _ => rfl⟩
    · rw [if_neg (by omega), if_neg hb]
      exact ⟨rfl, rfl, rfl, fun _ => rfl, fun e => by cases e⟩
/-- Nothing to be found: as many steps as there are targets, or none left. -/
theorem runS_none {f : List Int → Bool} {hv : List Int} {n m : Nat} {budget s : Int} {S : List Int} (h : seek f hv n m S = none) :
    runS f hv n m budget s S = ⟨goOn m budget s, false, if goOn m budget s then s + ((2 ^ m : Nat) : Int) else budget, if goOn m budget s then S else []⟩ := by
  unfold runS goOn
  rw [h]
  by_cases hb : s + ((2 ^ m : Nat) : Int) < budget
  · simp only [if_pos hb, decide_eq_true hb, if_true]
  · simp only [if_neg hb, decide_eq_false hb, Bool.false_eq_true, if_false]
theorem runS_leaf {f : List Int → Bool} {hv : List Int} {n : Nat} {budget s : Int} {S : List Int} (h : f S = true) (hb : s < budget) : runS f hv n 0 budget s S = ⟨false, true, s + 1, S⟩ := by
  unfold runS seek
  rw [if_pos h]
  simp only
  rw [if_pos (by omega)]
  simp
theorem runS_steps {f : List Int → Bool} {hv : List Int} {n m : Nat} {budget s : Int} {S : List Int} (hs : 0 ≤ s) (hb : s < budget) : 0 ≤ (runS f hv n m budget s S).steps ∧ (runS f hv n m budget s S).steps ≤ budget := by
  unfold runS
  have hp := Nat.two_pow_pos m
  split
  · split <;> simp only <;> omega
  · split <;> simp only <;> omega

/-- How many targets there are, as the code counts. -/
def countS (n : Int) : Int := if n < 0 then 0 else if 20 < n then 1048576 else ((2 ^ n.toNat : Nat) : Int)
theorem pow_big {m : Nat} (h : 20 ≤ m) : 1048576 ≤ 2 ^ m := by
  have := Nat.pow_le_pow_right (show 0 < 2 by omega) h
  simpa using this
theorem pow_small {m : Nat} (h : m ≤ 20) : 2 ^ m ≤ 1048576 := by
  have := Nat.pow_le_pow_right (show 0 < 2 by omega) h
  simpa using this
theorem countS_le {m : Nat} : 0 ≤ countS m ∧ countS m ≤ 1048576 := by
  unfold countS
  rw [if_neg (by omega)]
  split
  · omega
  · have := pow_small (m := m) (by omega)
    rw [show ((m : Int)).toNat = m from by omega]
    have hp := Nat.two_pow_pos m
    omega
/-- What 'skip' makes of the steps. -/
theorem skip_on {m : Nat} {budget s : Int} (hs : 0 ≤ s) (hb : s < budget) (hm : budget ≤ 1048576) (h : ¬ ((20 : Int) ≤ m ∨ s + countS m ≥ budget)) : goOn m budget s = true ∧ s + countS m = s + ((2 ^ m : Nat) : Int) := by
  have h1 : ¬ (20 : Int) ≤ m := fun e => h (Or.inl e)
  have h2 : ¬ s + countS m ≥ budget := fun e => h (Or.inr e)
  have e : countS m = ((2 ^ m : Nat) : Int) := by
    unfold countS
    rw [if_neg (by omega), if_neg (by omega), show ((m : Int)).toNat = m from by omega]
  rw [e] at h2 ⊢
  exact ⟨by unfold goOn; exact decide_eq_true (by omega), rfl⟩
theorem skip_off {m : Nat} {budget s : Int} (hs : 0 ≤ s) (hb : s < budget) (hm : budget ≤ 1048576) (h : (20 : Int) ≤ m ∨ s + countS m ≥ budget) : goOn m budget s = false ∧ min budget (s + countS m) = budget := by
  by_cases hbig : (20 : Int) ≤ m
  · have hp := pow_big (m := m) (by omega)
    have e : countS m = 1048576 := by
      unfold countS
      rw [if_neg (by omega)]
      split
      · rfl
      · rw [show ((m : Int)).toNat = 20 from by omega]; rfl
    rw [e]
    exact ⟨by unfold goOn; exact decide_eq_false (by omega), by omega⟩
  · have h2 : s + countS m ≥ budget := h.resolve_left hbig
    have e : countS m = ((2 ^ m : Nat) : Int) := by
      unfold countS
      rw [if_neg (by omega), if_neg (by omega), show ((m : Int)).toNat = m from by omega]
    refine ⟨?_, by omega⟩
    rw [e] at h2
    unfold goOn; exact decide_eq_false (by omega)
/-- What Solve answers: the target, the steps, the error's number. -/
def solveS (cat : List Pkg) (hv : List Int) (want : List Clause) (budget : Int) : List Int × Int × Int :=
  if (planOk cat && tgt cat.length hv) = true then
    if clausesOk want = true then
      if budget < 1 ∨ 1048576 < budget then ([], 0, 2)
      else if (runS (good cat want) hv cat.length cat.length budget 0 []).found then ((runS (good cat want) hv cat.length cat.length budget 0 []).ins, (runS (good cat want) hv cat.length cat.length budget 0 []).steps, 0)
      else if cat.length ≤ 20 ∧ ((2 ^ cat.length : Nat) : Int) ≤ budget then ([], ((2 ^ cat.length : Nat) : Int), 200)
      else ([], budget, 201)
    else ([], 0, 180)
  else ([], 0, 190)

end Go.Proofs.YtppbjmhllmaakaaGreatDoor
