/- Contract: sutlerlaw20.small. -/
import Derived.Test.YtppbjmhllmaakaaGreatDoorC16
import Derived.Deep.Slices
set_option linter.unusedVariables false
namespace Go.Proofs.YtppbjmhllmaakaaGreatDoor
open Go.RowKit

/-- What a slice that came in is, besides what it reads as. -/
structure Cap (A : Option Addr) (n ca : Nat) : Prop where
  le : n ≤ ca
  nil : A = none → ca = 0
  hi : ca ≤ 9223372036854775807

theorem cap_of {H : Type} {P : Program} {t e : TypeId} (ht : P.underlying t = some (.slice e)) {enc : TypeId × Value → H} {w : World} {base : Nat} {sp : Nat → Bool} {held : Bool} {A : Option Addr} {n c : Nat} {d : DataW H} {ps : List MemPlace}
    (h : DataW.Trod enc P w base sp held t (.slice A n c) d ps) : Cap A n c := by
  obtain ⟨m, hm⟩ := h
  have hcl : (Value.slice A n c).cells.toList = [.slice A n c] := rfl
  rw [hcl] at hm
  rcases Deep.open_slice ht hm with ⟨h0, _⟩ | ⟨a, len, cap, m2, k, D, Pl, h0, _, hle, hm2, _⟩
  · simp only [List.cons.injEq, Value.slice.injEq, and_true] at h0
    obtain ⟨rfl, rfl, rfl⟩ := h0
    exact ⟨Nat.le_refl 0, fun _ => rfl, by omega⟩
  · simp only [List.cons.injEq, Value.slice.injEq, and_true] at h0
    obtain ⟨rfl, rfl, rfl⟩ := h0
    exact ⟨hle, (fun h => by cases h), by unfold maxLen at hm2; omega⟩

set_option maxHeartbeats 2000000 in
theorem small_any (cat : List Pkg) (A : Option Addr) (ca : Nat) (S : Nat → Prop) (w : World) (hA : Arr w S A cat) (hc : Cap A cat.length ca) :
    Calls Tryz.prog 10 #[.slice A cat.length ca] w fun e w' => (∃ A', e = .returned (.slice A' (cat.take 9).length ca) ∧ Arr w S A' (cat.take 9)) ∧ w' = w := by
  have hcl := hA.len
  have hle := hc.le
  have hhi := hc.hi
  obtain ⟨k, hk⟩ : ∃ k, k = min cat.length 9 := ⟨_, rfl⟩
  have e1 : min (cat.length : Int) 9 = (k : Int) := by omega
  have e2 : (cat.take 9).length = k := by rw [List.length_take, hk, Nat.min_comm]
  have e3 : (k : Int) ≤ ca := by omega
  have e4 : (0 : Int) ≤ k := by omega
  have e5 : k ≤ ca := by omega
  have hpart : cat ≠ [] → ∃ b o, A = some ⟨b, o, none⟩ := fun h => by
    obtain ⟨b, o, rfl, _⟩ := hA.lt (by cases cat with | nil => exact absurd rfl h | cons a r => simp)
    exact ⟨b, o, rfl⟩
  have Hk := Lib.hid hk
  have E2 := Lib.hid e2
  by_cases hne : cat = []
  · subst hne
    have hk0 : k = 0 := by rw [hk]; rfl
    subst hk0
    clear hk e2 hpart e1 e3 e4 e5 Hk
    have m1 : min (0 : Int) 9 = 0 := by omega
    cases A with
    | none =>
      have hca := hc.nil rfl
      subst hca
      clear hc hle hhi
      go_enter Tryz.func10, Tryz.ntmps10
      go_wp2
      go_ret
      exact ⟨⟨none, rfl, Arr.nil _ _ _⟩, rfl⟩
    | some a =>
      have h1 : (0 : Int) ≤ ca := by omega
      clear hc
      go_enter Tryz.func10, Tryz.ntmps10
      go_wp2
      go_ret
      exact ⟨⟨some a, rfl, Arr.nil _ _ _⟩, rfl⟩
  · obtain ⟨b, o, rfl⟩ := hpart hne
    have hp : Arr w S (some ⟨b, o, none⟩) (cat.take 9) := by
      have := hA.part 0 k (by omega) (by omega)
      have e6 : cat.take 9 = cat.take k := by rw [hk, Nat.min_comm]; simp [List.take_eq_take_iff]
      rw [e6]
      simpa using this
    clear hk e2 hpart hne hc
    go_enter Tryz.func10, Tryz.ntmps10
    go_wp2
    go_ret
    exact ⟨⟨some ⟨b, o, none⟩, by rw [E2.out]; rfl, hp⟩, rfl⟩

end Go.Proofs.YtppbjmhllmaakaaGreatDoor
