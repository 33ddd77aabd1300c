/- Catalogues and valid targets, in Lean; a map that the call itself has made, as a set of keys. -/
import Derived.Test.YtppbjmhllmaakaaGreatDoorX4
import Derived.Test.YtppbjmhllmaakaaGreatDoorX3
import Derived.Maps.Own
import Derived.Maps.OwnOps
import Derived.Maps.Views
set_option linter.unusedVariables false
namespace Go.Proofs.YtppbjmhllmaakaaGreatDoor
open Go.RowKit
open Go.Maps (Keyed)

/-! ### What the document says -/
def txt0 : ByteArray := ⟨#[]⟩
/-- What is provided, at place i: a name, above the one ahead of it. -/
def provAt (l : List ByteArray) (i : Nat) : Bool := nameOk (l.getD i txt0) && (decide (i = 0) || Op.bytesLess (l.getD (i - 1) txt0).toList (l.getD i txt0).toList)
def provOk (l : List ByteArray) : Bool := decide (l.length ≤ 16) && (List.range l.length).all (provAt l)
def sameRank (p q : Pkg) : Bool := decide (p.name = q.name) && decide (vcmp p.ver q.ver = 0)
def pkgOk (p : Pkg) : Bool := nameOk p.name && verOk p.ver && provOk p.provides && clausesOk p.clauses
def planAt (cat : List Pkg) (i : Nat) : Bool := pkgOk (cat.getD i pkg0) && !((cat.take i).any fun q => sameRank q (cat.getD i pkg0))
def planOk (cat : List Pkg) : Bool := decide (cat.length ≤ 256) && (List.range cat.length).all (planAt cat)
def onceAt (l : List Pkg) (i : Nat) : Bool := !((l.take i).any fun q => decide (q.name = (l.getD i pkg0).name))
def namesOnce (l : List Pkg) : Bool := (List.range l.length).all (onceAt l)
def validP (cat : List Pkg) (l : List Int) : Bool := planOk cat && tgt cat.length l && (broken cat l).isEmpty && namesOnce (pick cat l)
def grants (cat : List Pkg) (l : List Int) (want : List Clause) : Bool := tgt cat.length l && want.all fun c => met c (pick cat l)

/-- All of the first k places. -/
def To (p : Nat → Bool) (k : Nat) : Prop := ∀ i, i < k → p i = true
theorem To.zero (p : Nat → Bool) : To p 0 := fun i h => by omega
theorem To.succ {p : Nat → Bool} {k : Nat} (h : To p k) (he : p k = true) : To p (k + 1) := fun i hi => by
  by_cases e : i = k
  · subst e; exact he
  · exact h i (by omega)
theorem To.all {p : Nat → Bool} {n k : Nat} (hk : ¬ k < n) (h : To p k) : (List.range n).all p = true := by
  rw [List.all_eq_true]
  intro i hi
  exact h i (by have := List.mem_range.1 hi; omega)
theorem range_no {p : Nat → Bool} {n k : Nat} (hk : k < n) (h : p k = false) : (List.range n).all p = false := by
  rw [List.all_eq_false]
  exact ⟨k, List.mem_range.2 hk, by simp [h]⟩

/-! ### Ranks -/
theorem pcmp_zero (a b : List Int) : ∀ (n k : Nat), pcmp a b k n = 0 ↔ ∀ i, k ≤ i → i < k + n → pt a i = pt b i
  | 0, k => by simp [pcmp]; omega
  | n + 1, k => by
    unfold pcmp
    split
    · rename_i h
      constructor
      · intro e; cases e
      · intro h2; have := h2 k (by omega) (by omega); omega
    · split
      · rename_i h
        constructor
        · intro e; cases e
        · intro h2; have := h2 k (by omega) (by omega); omega
      · rename_i h1 h2
        rw [pcmp_zero a b n (k + 1)]
        constructor
        · intro h3 i hi hlt
          by_cases e : i = k
          · subst e; omega
          · exact h3 i (by omega) (by omega)
        · intro h3 i hi hlt
          exact h3 i (by omega) (by omega)
theorem tcmp_zero (a b : ByteArray) : tcmp a b = 0 ↔ a = b := by
  unfold tcmp
  split
  · rename_i h; simp [seq_of h]
  · rename_i h
    have hne : ¬ a = b := sne_of (by simpa using h)
    split
    · simp [hne]
    · split
      · simp [hne]
      · split <;> simp [hne]
/-- A package's rank, as the value that the code makes of it. -/
def rankV (p : Pkg) : Value := .agg #[.string p.name, .int .i64 (pt p.ver.parts 0), .int .i64 (pt p.ver.parts 1), .int .i64 (pt p.ver.parts 2), .int .i64 (pt p.ver.parts 3), .string p.ver.tail]
theorem rankV_eq {p q : Pkg} (hp : p.ver.parts.length ≤ 4) (hq : q.ver.parts.length ≤ 4) : rankV p = rankV q ↔ sameRank p q = true := by
  have hv : vcmp p.ver q.ver = 0 ↔ (∀ i, i < 4 → pt p.ver.parts i = pt q.ver.parts i) ∧ p.ver.tail = q.ver.tail := by
    unfold vcmp
    simp only
    have hz := pcmp_zero p.ver.parts q.ver.parts (max p.ver.parts.length q.ver.parts.length) 0
    constructor
    · intro h
      split at h
      · rename_i h0
        refine ⟨fun i hi => ?_, (tcmp_zero _ _).1 h⟩
        by_cases hm : i < max p.ver.parts.length q.ver.parts.length
        · exact hz.1 h0 i (by omega) (by omega)
        · rw [pt_ge (by omega), pt_ge (by omega)]
      · rename_i h0; exact absurd h h0
    · rintro ⟨h1, h2⟩
      rw [if_pos (hz.2 fun i _ hi => h1 i (by omega))]
      exact (tcmp_zero _ _).2 h2
  unfold sameRank
  simp only [Bool.and_eq_true, decide_eq_true_eq]
  rw [hv]
  unfold rankV
  constructor
  · intro h
    simp only [Value.agg.injEq, Array.mk.injEq, List.cons.injEq, Value.string.injEq, Value.int.injEq, true_and, and_true] at h
    obtain ⟨h0, h1, h2, h3, h4, h5⟩ := h
    refine ⟨h0, fun i hi => ?_, h5⟩
    match i, hi with
    | 0, _ => exact h1
    | 1, _ => exact h2
    | 2, _ => exact h3
    | 3, _ => exact h4
  · rintro ⟨h0, h1, h2⟩
    rw [h0, h1 0 (by omega), h1 1 (by omega), h1 2 (by omega), h1 3 (by omega), h2]

/-! ### A set of keys -/
/-- The map in block b of the call's own holds just these keys, and tells 'true' of each; they are at most n. -/
def SetW (P : Program) (k e : TypeId) (w : World) (b n : Nat) (keys : List Value) : Prop :=
  ∃ D : DataW Unit, w.ownsMap P k (plainElem P e) b n D ∧ ∀ key kl, keyOf P k key = some kl → ∃ r : Bool, D.atKey kl (.lit (.bool false)) = .lit (.bool r) ∧ (r = true ↔ key ∈ keys)

theorem SetW.lt {P : Program} {k e : TypeId} {w : World} {b n : Nat} {keys : List Value} (h : SetW P k e w b n keys) : b < w.heap.size := by
  obtain ⟨D, h, _⟩ := h
  exact h.lt
theorem SetW.made (P : Program) (k e : TypeId) (w : World) : SetW P k e (w.alloc (.map #[] 0)) w.heap.size 0 [] :=
  ⟨_, World.ownsMap_made w P k _, fun key kl _ => ⟨false, rfl, by simp⟩⟩
theorem SetW.below {P : Program} {k e : TypeId} {w w' : World} {b n : Nat} {keys : List Value} (h : SetW P k e w b n keys) (hb : Below w.heap.size w w') : SetW P k e w' b n keys := by
  obtain ⟨D, h, h2⟩ := h
  exact ⟨D, h.kept (row := none) ⟨hb.os, hb.tape, hb.output, hb.size, fun k hk _ => hb.block k hk⟩ (by simp), h2⟩
theorem plainElem_bool_inv {H : Type} {P : Program} {e : TypeId} (he : P.underlying e = some .bool) {v : Value} {z : DataW H × List MemPlace} (h : plainElem P e v = some z) : ∃ r, v = .bool r ∧ z = (.lit (.bool r), []) := by
  cases v <;> simp [plainElem, he] at h ⊢
  exact h.symm
/-- This answer tells whether it is so. -/
structure Tells (r : Bool) (p : Prop) : Prop where
  mp : r = true → p
  mpr : p → r = true
theorem wpList_lookup_set_g {P : Program} {w : World} {ops : Array Oper} {rest : List Oper} {o : Oper} {a : Act} {Q : Exit → Act → World → Prop}
    (hg : Region.wanted o (yielded ops a.tmps) = true) (m x : Operand) (t : TypeId) (hop : o.op = Op.lookup t m x false)
    (k e : TypeId) (K : Keyed P k) (ht : P.underlying t = some (.map k e)) (he : P.underlying e = some .bool) (hz : (zeroValue e).run P w = .ok (.bool false) w) (b n : Nat) (keys : List Value)
    (hm : a.eval m = .map (some b)) (hown : SetW P k e w b n keys) (key : Value) (hx : a.eval x = key) (hkey : ∃ kl, keyOf P k key = some kl) (r : Bool) (hr : Tells r (key ∈ keys))
    (h : wpList P ops Q rest (a.put o.dst (.bool r)) w) : wpList P ops Q (o :: rest) a w := by
  refine wpList_step fun K' hK' => ?_
  rw [if_pos hg]
  obtain ⟨kl, hkey⟩ := hkey
  obtain ⟨D, h1, h2⟩ := hown
  obtain ⟨v, ps, hrun, hv⟩ := h1.lookup K ht hz (plainElem_bool he false) hkey
  obtain ⟨r', h3, h4⟩ := h2 key kl hkey
  obtain ⟨r2, rfl, h5⟩ := plainElem_bool_inv he hv
  rw [h3] at h5
  simp only [Prod.mk.injEq] at h5
  have h6 : r' = r2 := by
    have := h5.1
    simp only [DataW.lit.injEq, Lit.bool.injEq] at this
    exact this
  have h7 : r2 = r := by
    rw [← h6, Bool.eq_iff_iff, h4]; exact ⟨hr.2, hr.1⟩
  subst h7
  unfold Oper.wp
  simp [execOp, hop, hm, hx, hrun, Result.andThen]
  exact hK' _ _ h
theorem wpList_lookup_set {P : Program} {w : World} {ops : Array Oper} {rest : List Oper} {o : Oper} {a : Act} {Q : Exit → Act → World → Prop}
    (hg : o.guard = none) (m x : Operand) (t : TypeId) (hop : o.op = Op.lookup t m x false)
    (k e : TypeId) (K : Keyed P k) (ht : P.underlying t = some (.map k e)) (he : P.underlying e = some .bool) (hz : (zeroValue e).run P w = .ok (.bool false) w) (b n : Nat) (keys : List Value)
    (hm : a.eval m = .map (some b)) (hown : SetW P k e w b n keys) (key : Value) (hx : a.eval x = key) (hkey : ∃ kl, keyOf P k key = some kl) (r : Bool) (hr : Tells r (key ∈ keys))
    (h : wpList P ops Q rest (a.put o.dst (.bool r)) w) : wpList P ops Q (o :: rest) a w :=
  wpList_lookup_set_g (by simp [Region.wanted, hg]) m x t hop k e K ht he hz b n keys hm hown key hx hkey r hr h
theorem wpList_put_set {P : Program} {w : World} {ops : Array Oper} {rest : List Oper} {o : Oper} {a : Act} {Q : Exit → Act → World → Prop}
    (hg : o.guard = none) (m x v : Operand) (t : TypeId) (hop : o.op = Op.mapUpdate t m x v)
    (k e : TypeId) (K : Keyed P k) (ht : P.underlying t = some (.map k e)) (he : P.underlying e = some .bool) (b n : Nat) (keys : List Value)
    (hm : a.eval m = .map (some b)) (hown : SetW P k e w b n keys) (hn : n < maxLen) (key : Value) (hx : a.eval x = key) (hv : a.eval v = .bool true) (hkey : ∃ kl, keyOf P k key = some kl)
    (h : ∀ w', SetW P k e w' b (n + 1) (keys ++ [key]) → w.grownBy w' (some b) → wpList P ops Q rest (a.put o.dst undef) w') : wpList P ops Q (o :: rest) a w := by
  obtain ⟨kl, hkey⟩ := hkey
  obtain ⟨D, h1, h2⟩ := hown
  have hD : Maps.IsMap D := by obtain ⟨es, clock, _, _, _, rfl⟩ := h1; exact ⟨_, rfl⟩
  refine wpList_mapUpdate_own w hg m x v t hop k e K ht _ b n D hm h1 hn key (.bool true) kl hx hv hkey _ [] (plainElem_bool he true) ?_
  intro w' g1 g2
  refine h w' ⟨_, g1, fun key' kl' hk' => ?_⟩ g2
  by_cases hkk : kl' = kl
  · subst hkk
    have : key' = key := K.inj hk' hkey
    subst this
    exact ⟨true, Maps.atKey_put_same hD (K.key hkey) _ _, by simp⟩
  · obtain ⟨r, h3, h4⟩ := h2 key' kl' hk'
    refine ⟨r, by rw [Maps.atKey_put_other hkk]; exact h3, ?_⟩
    rw [h4]
    have hne : ¬ key' = key := fun e => by
      subst e
      rw [hk'] at hkey
      exact hkk (Option.some.inj hkey)
    simp [hne]

end Go.Proofs.YtppbjmhllmaakaaGreatDoor
