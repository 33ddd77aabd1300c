/- Contracts: the reference's put and Steps. -/
import Derived.Test.YtppbjmhllmaakaaGreatDoorC25a
import Derived.Test.YtppbjmhllmaakaaGreatDoorX18
set_option linter.unusedVariables false
namespace Go.Proofs.YtppbjmhllmaakaaGreatDoor
open Go.RowKit

theorem arr_int1 {w : World} {S : Nat → Prop} {b : Nat} {x : Int} (hS : S b) (hx : In64 x) (h0 : w.cell? ⟨b, 0, none⟩ = some (.int .i64 x)) : Arr w S (some ⟨b, 0, none⟩) [x] := by
  refine ⟨by change 1 * 8 ≤ _; unfold reach; omega, by simp, fun _ => ⟨b, 0, rfl, hS, fun i y hi => ?_⟩⟩
  match i, hi with
  | 0, hi =>
    cases hi
    refine ⟨[.int .i64 x], ⟨rfl, hx⟩, fun j v hj => ?_⟩
    match j, hj with
    | 0, hj => cases hj; exact h0

theorem own_some {α : Type} [Cd α] {w : World} {base : Nat} {e : TypeId} {v : Value} {l : List α} (h : Own w base e (fun _ => False) v l) (hne : l.length ≠ 0) (hr : l.length * Cd.bytes α ≤ reach) (hl : l.length ≤ 9223372036854775807) :
    ∃ g c, v = .slice (some ⟨g, 0, none⟩) l.length c ∧ Arr w (fun b => base ≤ b) (some ⟨g, 0, none⟩) l ∧ l.length ≤ c ∧ base ≤ g ∧ g < w.heap.size := by
  obtain ⟨A, cap0, e0, ha⟩ := h.rep (S' := fun b => base ≤ b) (fun _ _ h => h.elim) (fun b h _ => h) hr hl
  obtain ⟨xs, h1, h2⟩ := h
  rcases h1.2 with ⟨rfl, h0⟩ | ⟨g, cap, cur, rfl, hb, hg, hnc, hcm, hcs, htake⟩
  · exact absurd h0 hne
  · obtain ⟨rfl, rfl⟩ : A = some ⟨g, 0, none⟩ ∧ cap0 = cap := by simp at e0; exact ⟨e0.1.symm, e0.2.symm⟩
    exact ⟨g, cap0, rfl, ha, hnc, hb, (Array.getElem?_eq_some_iff.1 hg).1⟩

set_option maxHeartbeats 0 in
set_option maxRecDepth 100000 in
theorem refPut_any (out : List Int) (n : Int) (b2 o2 c2 : Nat) (S : Nat → Prop) (w : World) (h : Arr w S (some ⟨b2, o2, none⟩) out) (hc : out.length ≤ c2) (hn : In64 n) (hby : (out.length + 1) * 8 ≤ reach) (hbz : b2 < w.heap.size) (hS : S b2) :
    Calls Tryz.prog 63 #[.slice (some ⟨b2, o2, none⟩) out.length c2, .int .i64 n] w fun e w' => Below w.heap.size w w' ∧ ∃ b' o' c', e = .returned (.slice (some ⟨b', o', none⟩) (putL out n).length c') ∧ Arr w' (fun b => S b ∨ w.heap.size ≤ b) (some ⟨b', o', none⟩) (putL out n) ∧ (putL out n).length ≤ c' ∧ b' < w'.heap.size ∧ (S b' ∨ w.heap.size ≤ b') := by
  have hl := h.len
  have hyb : out.length + 1 ≤ 9223372036854775807 := by unfold reach at hby; omega
  go_enter Tryz.func63, Tryz.ntmps63
  go_wp2
  go_loop [5] (fun j => ∃ m : Nat, m ≤ out.length ∧ j = .int .i64 m ∧ Hid (∀ q (h : q < out.length), q < m → out[q] < n)) (fun j => out.length - (intOf j).toNat)
  case atStart => exact ⟨0, Nat.zero_le _, rfl, Lib.hid (fun q h hq => by omega)⟩
  case round =>
    obtain ⟨m, hm, rfl, hless⟩ := hrel
    by_cases hmt : m < out.length
    · obtain ⟨b3, o3, e, hb3, hs2, hcc2⟩ := h.getI m hmt
      cases e
      by_cases hlt : out[m] < n
      · have hless' : Hid (∀ q (h : q < out.length), q < m + 1 → out[q] < n) := Lib.hid (fun q h hq => by by_cases e : q = m; (subst e; exact hlt); exact hless.out q h (by omega))
        go_wp2
        go_round
        case rel => exact ⟨m + 1, by omega, by go_num, hless'⟩
        case measure => simp [intOf]; omega
      · by_cases heq : out[m] = n
        · have fin : Hid (putL out n = out) := Lib.hid (putL_same hmt hless.out heq)
          go_wp2
          go_ret
          exact ⟨Below.refl _ _, b2, o2, c2, by rw [fin.out]; rfl, by rw [fin.out]; exact h.mono (fun _ _ h => .inl h), by rw [fin.out]; exact hc, hbz, .inl hS⟩
        · have fin : Hid (putL out n = out.take m ++ n :: out.drop m) := Lib.hid (putL_mid hmt hless.out hlt heq)
          have a1 : (0 : Int) ≤ m := by omega
          have a2 : (m : Int) ≤ out.length := by omega
          have a3 : (m : Int) ≤ c2 := by omega
          have a4 : (out.length : Int) ≤ c2 := by omega
          have a5 : ¬ (m : Int) = c2 := by omega
          have a6 : ¬ m = c2 := by omega
          have t1 : (out.take m).length = m := by simp; omega
          have t2 : (out.drop m).length = out.length - m := by simp
          have p1 : Arr w S (some ⟨b2, o2, none⟩) (out.take m) := by have := h.part 0 m (by omega) (by omega); simpa using this
          have p2 : Arr w S (some ⟨b2, o2 + m, none⟩) (out.drop m) := by have := h.part m out.length (by omega) (by omega); rw [List.take_of_length_le (by simp)] at this; simpa [Cd.n] using this
          have q1 : (([] : List Int).length + (out.take m).length) * Cd.bytes Int ≤ 140737488355328 := by rw [t1]; show (0 + m) * 8 ≤ _; unfold reach at hby; omega
          have q1' : ([] : List Int).length + (out.take m).length ≤ 9223372036854775807 := by rw [t1]; simp; omega
          have q2 : (([] ++ out.take m).length + [n].length) * Cd.bytes Int ≤ 140737488355328 := by rw [List.nil_append, t1]; show (m + 1) * 8 ≤ _; unfold reach at hby; omega
          have q2' : ([] ++ out.take m).length + [n].length ≤ 9223372036854775807 := by rw [List.nil_append, t1]; simp; omega
          have q3 : (([] ++ out.take m ++ [n]).length + (out.drop m).length) * Cd.bytes Int ≤ 140737488355328 := by rw [List.nil_append, List.length_append, t1, t2]; show (m + 1 + (out.length - m)) * 8 ≤ _; unfold reach at hby; omega
          have q3' : ([] ++ out.take m ++ [n]).length + (out.drop m).length ≤ 9223372036854775807 := by rw [List.nil_append, List.length_append, t1, t2]; simp; omega
          have t9 : ([] ++ out.take m ++ [n] ++ out.drop m).length = out.length + 1 := by rw [List.nil_append, List.length_append, List.length_append, t1, t2]; simp; omega
          go_wp2
          go_region_law (first
            | (refine step_own_flat rfl (.tmp 33) (.tmp 36) 23 rfl w.heap.size 3 elInt (fun _ => False) S _ ([] : List Int) rfl (own_empty (by first | exact he1 w _ rfl | exact he2 w _ rfl | exact he3 w _ rfl) (by first | exact Nat.le_refl _ | omega)) (some ⟨b2, o2, none⟩) c2 (out.take m) (by rw [t1]; rfl) (p1.below (by (repeat (first | exact Below.refl _ _ | assumption | (refine Below.setCell ?_ (by first | omega | (simp; done) | (simp; omega) | exact Below.size (by assumption)) _) | (refine Below.alloc ?_ (by first | omega | (simp; done) | (simp; omega) | exact Below.size (by assumption)) _) | refine Below.drew ?_ | refine Below.trans0 ?_ (by assumption))))) q1 q1' (by first | (simp; done) | (simp; omega)) ?_; intro v1 w1 hown1 hg1 hl1; have hB1 : Below w.heap.size w w1 := Below.grown (by (repeat (first | exact Below.refl _ _ | assumption | (refine Below.setCell ?_ (by first | omega | (simp; done) | (simp; omega) | exact Below.size (by assumption)) _) | (refine Below.alloc ?_ (by first | omega | (simp; done) | (simp; omega) | exact Below.size (by assumption)) _) | refine Below.drew ?_ | refine Below.trans0 ?_ (by assumption)))) hg1 (by first | (simp; done) | (simp; omega)) (fun b e => by have := ownBlock_eq e; omega); (first | have hcx := g1a hg1 (by intro e; have := ownBlock_eq e; omega) | have hcx := g1ad hg1 (by intro e; have := ownBlock_eq e; omega) | have hcx := g1b hg1 (by intro e; have := ownBlock_eq e; omega) | have hcx := g1bd hg1 (by intro e; have := ownBlock_eq e; omega) | skip))
            | (refine step_own_flat rfl (.tmp 37) (.tmp 39) 23 rfl w.heap.size 3 elInt (fun _ => False) (fun _ => True) v1 ([] ++ out.take m) rfl (hown1.below (by (repeat (first | exact Below.refl _ _ | assumption | (refine Below.setCell ?_ (by first | omega | (simp; done) | (simp; omega) | exact Below.size (by assumption)) _) | (refine Below.alloc ?_ (by first | omega | (simp; done) | (simp; omega) | exact Below.size (by assumption)) _) | refine Below.drew ?_ | refine Below.trans0 ?_ (by assumption))))) _ 1 [n] rfl (arr_int1 trivial hn (by first | assumption | (simp; done))) q2 q2' (by have := hB1.size; first | exact this | (simp; omega)) ?_; intro v2 w2 hown2 hg2 hl2; have hB2 : Below w.heap.size w w2 := Below.grown (by first | exact hB1 | exact hB1.alloc hB1.size _ | exact hB1.drew | exact (hB1.alloc hB1.size _).drew) hg2 (by have := hB1.size; simp; omega) (fun b e => by have := hown1.block_ge b e; omega))
            | (refine step_own_flat rfl (.tmp 40) (.tmp 43) 23 rfl w.heap.size 3 elInt (fun _ => False) S v2 ([] ++ out.take m ++ [n]) rfl (hown2.below (by (repeat (first | exact Below.refl _ _ | assumption | (refine Below.setCell ?_ (by first | omega | (simp; done) | (simp; omega) | exact Below.size (by assumption)) _) | (refine Below.alloc ?_ (by first | omega | (simp; done) | (simp; omega) | exact Below.size (by assumption)) _) | refine Below.drew ?_ | refine Below.trans0 ?_ (by assumption))))) (some ⟨b2, o2 + m, none⟩) (c2 - m) (out.drop m) (by first | (rw [t2]; rfl) | (rw [t2]; simp [Act.eval]; done) | (rw [t2]; simp [Act.eval]; omega)) (p2.below hB2) q3 q3' hB2.size ?_; intro v3 w3 hown3 hg3 hl3; have hB3 : Below w.heap.size w w3 := Below.grown hB2 hg3 hB2.size (fun b e => by have := hown2.block_ge b e; omega)))
          all_goals
            obtain ⟨g8, c8, e8, hr8, hc8, hg8, hz8⟩ := own_some hown3 (by rw [t9]; omega) (by rw [t9]; exact hby) (by rw [t9]; omega)
            subst e8
            go_wp2
            go_ret
            exact ⟨hB3, g8, 0, c8, by rw [fin.out]; exact congrArg (fun k => Ending.returned (Value.slice (some ⟨g8, 0, none⟩) k c8)) (by first | (simp; done) | (simp; omega)), by rw [fin.out]; simpa using hr8.mono (fun _ _ h => .inr h), by rw [fin.out]; simpa using hc8, hz8, .inr hg8⟩
    · have hme : m = out.length := by omega
      subst hme
      have fin : Hid (putL out n = out ++ [n]) := Lib.hid (putL_end hless.out)
      have a1 : (0 : Int) ≤ out.length := by omega
      have a4 : (out.length : Int) ≤ c2 := by omega
      have n1 : ¬ (out.length : Int) < out.length := by omega
      have q1 : (([] : List Int).length + out.length) * Cd.bytes Int ≤ 140737488355328 := by show (0 + out.length) * 8 ≤ _; unfold reach at hby; omega
      have q1' : ([] : List Int).length + out.length ≤ 9223372036854775807 := by simp; omega
      have q2 : (([] ++ out).length + [n].length) * Cd.bytes Int ≤ 140737488355328 := by rw [List.nil_append]; show (out.length + 1) * 8 ≤ _; unfold reach at hby; omega
      have q2' : ([] ++ out).length + [n].length ≤ 9223372036854775807 := by rw [List.nil_append]; simp; omega
      have q3 : (([] ++ out ++ [n]).length + ([] : List Int).length) * Cd.bytes Int ≤ 140737488355328 := by rw [List.nil_append, List.length_append]; show (out.length + 1 + 0) * 8 ≤ _; unfold reach at hby; omega
      have q3' : ([] ++ out ++ [n]).length + ([] : List Int).length ≤ 9223372036854775807 := by rw [List.nil_append, List.length_append]; simp; omega
      have t9 : Hid (([] ++ out ++ [n] ++ ([] : List Int)).length = out.length + 1) := Lib.hid (by simp)
      have HBY := Lib.hid hby
      clear hby
      by_cases hcc : out.length = c2
      · have a5 : (out.length : Int) = c2 := by omega
        have a6 : (c2 : Int) ≤ c2 := by omega
        have a8 : (0 : Int) ≤ c2 := by omega
        subst hcc
        go_wp2
        go_region_law (first
          | (refine step_own_flat rfl (.tmp 33) (.tmp 36) 23 rfl w.heap.size 3 elInt (fun _ => False) S _ ([] : List Int) rfl (own_empty (by first | exact he1 w _ rfl | exact he2 w _ rfl | exact he3 w _ rfl) (by first | exact Nat.le_refl _ | omega)) (some ⟨b2, o2, none⟩) out.length out rfl (h.below (by (repeat (first | exact Below.refl _ _ | assumption | (refine Below.setCell ?_ (by first | omega | (simp; done) | (simp; omega) | exact Below.size (by assumption)) _) | (refine Below.alloc ?_ (by first | omega | (simp; done) | (simp; omega) | exact Below.size (by assumption)) _) | refine Below.drew ?_ | refine Below.trans0 ?_ (by assumption))))) q1 q1' (by first | (simp; done) | (simp; omega)) ?_; intro v1 w1 hown1 hg1 hl1; have hB1 : Below w.heap.size w w1 := Below.grown (by (repeat (first | exact Below.refl _ _ | assumption | (refine Below.setCell ?_ (by first | omega | (simp; done) | (simp; omega) | exact Below.size (by assumption)) _) | (refine Below.alloc ?_ (by first | omega | (simp; done) | (simp; omega) | exact Below.size (by assumption)) _) | refine Below.drew ?_ | refine Below.trans0 ?_ (by assumption)))) hg1 (by first | (simp; done) | (simp; omega)) (fun b e => by have := ownBlock_eq e; omega); (first | have hcx := g1a hg1 (by intro e; have := ownBlock_eq e; omega) | have hcx := g1ad hg1 (by intro e; have := ownBlock_eq e; omega) | have hcx := g1b hg1 (by intro e; have := ownBlock_eq e; omega) | have hcx := g1bd hg1 (by intro e; have := ownBlock_eq e; omega) | skip))
          | (refine step_own_flat rfl (.tmp 37) (.tmp 39) 23 rfl w.heap.size 3 elInt (fun _ => False) (fun _ => True) v1 ([] ++ out) rfl (hown1.below (by (repeat (first | exact Below.refl _ _ | assumption | (refine Below.setCell ?_ (by first | omega | (simp; done) | (simp; omega) | exact Below.size (by assumption)) _) | (refine Below.alloc ?_ (by first | omega | (simp; done) | (simp; omega) | exact Below.size (by assumption)) _) | refine Below.drew ?_ | refine Below.trans0 ?_ (by assumption))))) _ 1 [n] rfl (arr_int1 trivial hn (by first | assumption | (simp; done))) q2 q2' (by have := hB1.size; first | exact this | (simp; omega)) ?_; intro v2 w2 hown2 hg2 hl2; have hB2 : Below w.heap.size w w2 := Below.grown (by first | exact hB1 | exact hB1.alloc hB1.size _ | exact hB1.drew | exact (hB1.alloc hB1.size _).drew) hg2 (by have := hB1.size; simp; omega) (fun b e => by have := hown1.block_ge b e; omega))
          | (refine step_own_flat rfl (.tmp 40) (.tmp 43) 23 rfl w.heap.size 3 elInt (fun _ => False) S v2 ([] ++ out ++ [n]) rfl (hown2.below (by (repeat (first | exact Below.refl _ _ | assumption | (refine Below.setCell ?_ (by first | omega | (simp; done) | (simp; omega) | exact Below.size (by assumption)) _) | (refine Below.alloc ?_ (by first | omega | (simp; done) | (simp; omega) | exact Below.size (by assumption)) _) | refine Below.drew ?_ | refine Below.trans0 ?_ (by assumption))))) (some ⟨b2, o2, none⟩) 0 ([] : List Int) (by first | rfl | (simp [Act.eval]; done) | (simp [Act.eval]; intro hq; omega)) (Arr.nil _ _ _) q3 q3' hB2.size ?_; intro v3 w3 hown3 hg3 hl3; have hB3 : Below w.heap.size w w3 := Below.grown hB2 hg3 hB2.size (fun b e => by have := hown2.block_ge b e; omega)))
        all_goals
          obtain ⟨g8, c8, e8, hr8, hc8, hg8, hz8⟩ := own_some hown3 (by rw [t9.out]; omega) (by rw [t9.out]; exact HBY.out) (by rw [t9.out]; omega)
          subst e8
          go_wp2
          go_ret
          exact ⟨hB3, g8, 0, c8, by rw [fin.out]; exact congrArg (fun k => Ending.returned (Value.slice (some ⟨g8, 0, none⟩) k c8)) (by first | (simp; done) | (simp; omega)), by rw [fin.out]; simpa using hr8.mono (fun _ _ h => .inr h), by rw [fin.out]; simpa using hc8, hz8, .inr hg8⟩
      · have a5 : ¬ (out.length : Int) = c2 := by omega
        go_wp2
        go_region_law (first
          | (refine step_own_flat rfl (.tmp 33) (.tmp 36) 23 rfl w.heap.size 3 elInt (fun _ => False) S _ ([] : List Int) rfl (own_empty (by first | exact he1 w _ rfl | exact he2 w _ rfl | exact he3 w _ rfl) (by first | exact Nat.le_refl _ | omega)) (some ⟨b2, o2, none⟩) c2 out rfl (h.below (by (repeat (first | exact Below.refl _ _ | assumption | (refine Below.setCell ?_ (by first | omega | (simp; done) | (simp; omega) | exact Below.size (by assumption)) _) | (refine Below.alloc ?_ (by first | omega | (simp; done) | (simp; omega) | exact Below.size (by assumption)) _) | refine Below.drew ?_ | refine Below.trans0 ?_ (by assumption))))) q1 q1' (by first | (simp; done) | (simp; omega)) ?_; intro v1 w1 hown1 hg1 hl1; have hB1 : Below w.heap.size w w1 := Below.grown (by (repeat (first | exact Below.refl _ _ | assumption | (refine Below.setCell ?_ (by first | omega | (simp; done) | (simp; omega) | exact Below.size (by assumption)) _) | (refine Below.alloc ?_ (by first | omega | (simp; done) | (simp; omega) | exact Below.size (by assumption)) _) | refine Below.drew ?_ | refine Below.trans0 ?_ (by assumption)))) hg1 (by first | (simp; done) | (simp; omega)) (fun b e => by have := ownBlock_eq e; omega); (first | have hcx := g1a hg1 (by intro e; have := ownBlock_eq e; omega) | have hcx := g1ad hg1 (by intro e; have := ownBlock_eq e; omega) | have hcx := g1b hg1 (by intro e; have := ownBlock_eq e; omega) | have hcx := g1bd hg1 (by intro e; have := ownBlock_eq e; omega) | skip))
          | (refine step_own_flat rfl (.tmp 37) (.tmp 39) 23 rfl w.heap.size 3 elInt (fun _ => False) (fun _ => True) v1 ([] ++ out) rfl (hown1.below (by (repeat (first | exact Below.refl _ _ | assumption | (refine Below.setCell ?_ (by first | omega | (simp; done) | (simp; omega) | exact Below.size (by assumption)) _) | (refine Below.alloc ?_ (by first | omega | (simp; done) | (simp; omega) | exact Below.size (by assumption)) _) | refine Below.drew ?_ | refine Below.trans0 ?_ (by assumption))))) _ 1 [n] rfl (arr_int1 trivial hn (by first | assumption | (simp; done))) q2 q2' (by have := hB1.size; first | exact this | (simp; omega)) ?_; intro v2 w2 hown2 hg2 hl2; have hB2 : Below w.heap.size w w2 := Below.grown (by first | exact hB1 | exact hB1.alloc hB1.size _ | exact hB1.drew | exact (hB1.alloc hB1.size _).drew) hg2 (by have := hB1.size; simp; omega) (fun b e => by have := hown1.block_ge b e; omega))
          | (refine step_own_flat rfl (.tmp 40) (.tmp 43) 23 rfl w.heap.size 3 elInt (fun _ => False) S v2 ([] ++ out ++ [n]) rfl (hown2.below (by (repeat (first | exact Below.refl _ _ | assumption | (refine Below.setCell ?_ (by first | omega | (simp; done) | (simp; omega) | exact Below.size (by assumption)) _) | (refine Below.alloc ?_ (by first | omega | (simp; done) | (simp; omega) | exact Below.size (by assumption)) _) | refine Below.drew ?_ | refine Below.trans0 ?_ (by assumption))))) (some ⟨b2, o2 + out.length, none⟩) (c2 - out.length) ([] : List Int) (by first | rfl | (simp [Act.eval]; done) | (simp [Act.eval]; intro hq; omega)) (Arr.nil _ _ _) q3 q3' hB2.size ?_; intro v3 w3 hown3 hg3 hl3; have hB3 : Below w.heap.size w w3 := Below.grown hB2 hg3 hB2.size (fun b e => by have := hown2.block_ge b e; omega)))
        all_goals
          obtain ⟨g8, c8, e8, hr8, hc8, hg8, hz8⟩ := own_some hown3 (by rw [t9.out]; omega) (by rw [t9.out]; exact HBY.out) (by rw [t9.out]; omega)
          subst e8
          go_wp2
          go_ret
          exact ⟨hB3, g8, 0, c8, by rw [fin.out]; exact congrArg (fun k => Ending.returned (Value.slice (some ⟨g8, 0, none⟩) k c8)) (by first | (simp; done) | (simp; omega)), by rw [fin.out]; simpa using hr8.mono (fun _ _ h => .inr h), by rw [fin.out]; simpa using hc8, hz8, .inr hg8⟩

end Go.Proofs.YtppbjmhllmaakaaGreatDoor
