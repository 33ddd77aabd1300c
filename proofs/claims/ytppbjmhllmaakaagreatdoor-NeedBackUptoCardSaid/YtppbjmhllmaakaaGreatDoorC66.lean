/- Contracts: version.Print, need.told, need.joined, need.Print. -/
import Derived.Test.YtppbjmhllmaakaaGreatDoorC65
import Derived.Test.YtppbjmhllmaakaaGreatDoorC11
import Derived.Test.YtppbjmhllmaakaaGreatDoorC25a
set_option linter.unusedVariables false
namespace Go.Proofs.YtppbjmhllmaakaaGreatDoor
open Go.RowKit

/-- Texts of digits: how many. -/
theorem decDigits_len : ∀ (k u : Nat), u < 10 ^ k → (Lib.decDigits u).length ≤ k + 1
  | 0, u, h => by
    rw [Lib.decDigits, dif_pos (by omega)]
    simp
  | k + 1, u, h => by
    rw [Lib.decDigits]
    split
    · simp
    · rw [List.length_append]
      have := decDigits_len k (u / 10) (by rw [Nat.pow_succ] at h; omega)
      simp
      omega
theorem itoa_len {z : Int} (h : In64 z) : (Lib.itoa z).length ≤ 30 := by
  unfold Lib.itoa
  obtain ⟨h1, h2⟩ := h
  split
  · have := decDigits_len 20 z.natAbs (by omega)
    simp
    omega
  · have := decDigits_len 20 z.toNat (by omega)
    omega
theorem join_len (sep : List UInt8) : ∀ (xs : List (List UInt8)) (n : Nat), (∀ x ∈ xs, x.length ≤ n) → (Lib.join xs sep).length ≤ xs.length * (n + sep.length)
  | [], n, _ => by simp [Lib.join_nil]
  | x :: r, n, h => by
    have h1 := h x (by simp)
    rw [Lib.join_cons, List.length_append]
    have h2 : (Lib.joinTail sep r).length ≤ r.length * (n + sep.length) := by
      unfold Lib.joinTail
      clear h1
      induction r with
      | nil => simp
      | cons y t ih =>
        have hy := h y (by simp)
        have := ih (fun z hz => h z (by rcases List.mem_cons.1 hz with rfl | hz; simp; simp [hz]))
        simp only [List.map_cons, List.flatten_cons, List.length_append, List.length_cons]
        rw [Nat.add_mul]
        omega
    rw [List.length_cons, Nat.add_mul]
    omega
/-- strings.Join of texts that the call itself has gathered. -/
theorem join_any (l : List ByteArray) (sep : ByteArray) (v : Value) (base : Nat) (w : World) (hown : Own w base 9 (fun _ => False) v l) (hl : l.length ≤ 1000000) (hlen : (Lib.join (l.map (·.data.toList)) sep.data.toList).length ≤ 140737488355328) :
    Calls Tryz.prog 118 #[v, .string sep] w fun e w' => e = .returned (.string (txt (Lib.join (l.map (·.data.toList)) sep.data.toList))) ∧ Below w.heap.size w w' := by
  rcases own_form3 hown with rfl | ⟨g, cap, rfl, hcap⟩
  · have hl0 : l = [] := by
      obtain ⟨xs, h1, h2⟩ := hown
      rcases h1.2 with ⟨_, h0⟩ | ⟨g, cap, cur, hv, _⟩
      · exact List.eq_nil_of_length_eq_zero h0
      · cases hv
    subst hl0
    refine (Tryz.strings_Join_none none 0 sep w).mono ?_
    rintro e w' ⟨rfl, rfl⟩
    exact ⟨rfl, Below.refl _ _⟩
  · by_cases hl0 : l.length = 0
    · have hl1 := List.eq_nil_of_length_eq_zero hl0
      subst hl1
      refine (Tryz.strings_Join_none (some ⟨g, 0, none⟩) cap sep w).mono ?_
      rintro e w' ⟨rfl, rfl⟩
      exact ⟨rfl, Below.refl _ _⟩
    · obtain ⟨A9, c9, e9, hA9⟩ := hown.rep (S' := fun _ => True) (fun _ _ h => h.elim) (fun _ _ _ => trivial) (by show l.length * 16 ≤ reach; unfold reach; omega) (by omega)
      obtain ⟨rfl, rfl⟩ : A9 = some ⟨g, 0, none⟩ ∧ c9 = cap := by simp at e9; exact ⟨e9.1.symm, e9.2.symm⟩
      have hrep : ∀ (j : Nat) x, l[j]? = some x → w.cell? ⟨g, 0 + j, none⟩ = some (.string x) ∧ g < w.heap.size := by
        intro j x hx
        obtain ⟨hlt, hxe⟩ := List.getElem?_eq_some_iff.1 hx
        obtain ⟨b, o, e, hb, _, hc⟩ := hA9.getS j hlt
        cases e
        rw [hxe] at hc
        exact ⟨hc, hb⟩
      refine (Tryz.strings_Join g 0 c9 l sep w (fun j x hx => (hrep j x hx).1) ?_ (by omega) hcap hlen).mono ?_
      · have h0 : l[0]? = some (l[0]'(by omega)) := by simp
        exact (hrep 0 _ h0).2
      · rintro e w' ⟨rfl, hw⟩
        exact ⟨rfl, hw⟩

end Go.Proofs.YtppbjmhllmaakaaGreatDoor
