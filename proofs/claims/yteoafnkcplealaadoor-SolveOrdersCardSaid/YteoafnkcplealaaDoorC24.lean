/- Contract: some (a target of places). -/
import Derived.Test.YteoafnkcplealaaDoorC16
set_option linter.unusedVariables false
namespace Go.Proofs.YteoafnkcplealaaDoor
open Go.RowKit

def someTo (l : List Int) (k : Nat) : List Int := ((List.range k).filter fun (i : Nat) => decide ((i : Int) ∈ l)).map fun (i : Nat) => (i : Int)
theorem someTo_zero (l : List Int) : someTo l 0 = [] := rfl
theorem someTo_yes {l : List Int} {k : Nat} (h : (k : Int) ∈ l) : someTo l (k + 1) = someTo l k ++ [(k : Int)] := by
  unfold someTo
  rw [List.range_succ, List.filter_append, List.map_append]
  simp [h]
theorem someTo_no {l : List Int} {k : Nat} (h : ¬ (k : Int) ∈ l) : someTo l (k + 1) = someTo l k := by
  unfold someTo
  rw [List.range_succ, List.filter_append]
  simp [h]
theorem someTo_len (l : List Int) (k : Nat) : (someTo l k).length ≤ k := by
  unfold someTo
  rw [List.length_map]
  exact Nat.le_trans (List.length_filter_le _ _) (by simp)

set_option maxHeartbeats 2000000 in
set_option maxRecDepth 100000 in
theorem some_any (l : List Int) (n : Nat) (A : Option Addr) (ca : Nat) (S : Nat → Prop) (w : World) (h : Arr w S A l) (hn : n * 8 ≤ reach) :
    Calls Tryd.prog 25 #[.slice A l.length ca, .int .i64 n] w fun e w' => Below w.heap.size w w' ∧ ∃ A' c', e = .returned (.slice A' (someTo l n).length c') ∧ Arr w' (fun b => w.heap.size ≤ b) A' (someTo l n) ∧ (someTo l n).length ≤ c' := by
  have hn' : n ≤ 17592186044404 := by unfold reach at hn; omega
  go_enter Tryd.func25, Tryd.ntmps25
  go_wp2
  go_loopw [5, 6] (fun o i wr => Below w.heap.size w wr ∧ ∃ k : Nat, k ≤ n ∧ i = .int .i64 k ∧ Own wr w.heap.size 3 (fun _ => False) o (someTo l k)) (fun _ i _ => n - (intOf i).toNat)
  case atStart => exact ⟨by (repeat (first | exact Below.refl _ _ | assumption | (refine Below.setCell ?_ (by first | omega | (simp; done) | (simp; omega) | exact Below.size (by assumption)) _) | (refine Below.alloc ?_ (by first | omega | (simp; done) | (simp; omega) | exact Below.size (by assumption)) _) | refine Below.drew ?_ | refine Below.trans0 ?_ (by assumption))), 0, Nat.zero_le _, rfl, Own.made _ _ _ _ (Nat.le_refl _)⟩
  case round =>
    obtain ⟨hb, k, hk, rfl, hown⟩ := hrel
    have hlen := someTo_len l k
    by_cases hlt : k < n
    · by_cases hm : (k : Int) ∈ l
      · have Hm := Lib.hid (decide_eq_true hm)
        have hst := Lib.hid (someTo_yes hm)
        have hs : In64 (k : Int) := ⟨by omega, by omega⟩
        clear hm
        go_wp2_with (first | (go_at_call 40; refine (hasInt_any l k A ca S _ (h.below hb)).mono ?_; rintro e w1 ⟨rfl, hw1⟩; have hw1' := hw1.symm; clear hw1; subst hw1'; rw [Hm.out]) | (at_builtin; refine Hold.out ?_))
        refine ⟨?_⟩
        refine wpList_own_app rfl _ _ 23 rfl w.heap.size 3 elInt (fun _ => False) u5 (someTo l k) ?_ (hown.below ((Below.refl _ _).alloc (Nat.le_refl _) _)) ⟨wr.heap.size, 0, none⟩ 1 [(k : Int)] ?_ (Src.one 3 (show Cd.rep wr (fun b => False ∧ Value.ownBlock u5 ≠ some b) (k : Int) [.int .i64 k] from ⟨rfl, hs⟩)) ?_ ?_ ?_ ?_
        · simp [Act.eval]
        · simp [Act.eval]
        · exact app_bound (n := n) hn (by simp; omega)
        · simp; omega
        · have := hb.size; simp; omega
        intro v2 w6 hown6 hg6 hat6
        have hb6 : Below w.heap.size w w6 := (hb.alloc hb.size _).grown hg6 (by have := hb.size; simp; omega) (fun b e => (hown.block_ge _ e).1)
        clear hg6 hat6 hown
        go_wp2
        go_roundw
        case rel => exact ⟨hb6, k + 1, by omega, by go_num, by rw [hst.out]; exact hown6⟩
        case measure => simp [intOf]; omega
      · have Hm := Lib.hid (decide_eq_false hm)
        have hst := Lib.hid (someTo_no hm)
        clear hm
        go_wp2_with (go_at_call 40; refine (hasInt_any l k A ca S _ (h.below hb)).mono ?_; rintro e w1 ⟨rfl, hw1⟩; have hw1' := hw1.symm; clear hw1; subst hw1'; rw [Hm.out])
        go_roundw
        case rel => exact ⟨hb, k + 1, by omega, by go_num, by rw [hst.out]; exact hown⟩
        case measure => simp [intOf]; omega
    · have hke : k = n := by omega
      subst hke
      obtain ⟨A2, c2, e2, hr, hc2⟩ := hown.rep2 (S' := fun b => w.heap.size ≤ b) (fun b _ h => h.elim) (fun b h _ => h) (mul_bound (n := k) hn hlen) (by omega)
      go_wp2
      go_ret
      exact ⟨hb, A2, c2, by rw [← e2]; rfl, hr, hc2⟩

end Go.Proofs.YteoafnkcplealaaDoor
