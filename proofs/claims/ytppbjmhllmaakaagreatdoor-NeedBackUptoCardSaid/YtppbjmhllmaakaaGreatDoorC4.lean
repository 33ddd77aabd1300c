/- Contracts: what meets what, by the reference. -/
import Derived.Test.YtppbjmhllmaakaaGreatDoorC3
set_option linter.unusedVariables false
namespace Go.Proofs.YtppbjmhllmaakaaGreatDoor
open Go.RowKit

theorem meets_left {n : Need} {p : Pkg} (h : n.op = 0) (h' : n.name ∈ p.provides) : meets n p = true := by
  unfold meets; simp [h, h']
theorem meets_right {n : Need} {p : Pkg} (h : ¬ (n.op = 0 ∧ n.name ∈ p.provides)) : meets n p = (seqb p.name n.name && vholds n.op p.ver n.ver) := by
  unfold meets
  rw [← Bool.decide_and, decide_eq_false h]; simp
theorem vholdsE_ok {op : Int} (h : vholdsE op = 0) : (vholdsE op == 0) = true := by simp [h]
theorem vholds_bad {op : Int} {a b : Ver} (h : ¬ vholdsE op = 0) : vholds op a b = false := by
  unfold vholdsE at h
  have : ¬ (0 ≤ op ∧ op ≤ 6) := fun e => h (if_pos e)
  unfold vholds
  repeat rw [if_neg (by omega)]

set_option maxHeartbeats 2000000 in
theorem refMeets_any (n : Need) (p : Pkg) (va vb : List Value) (S T : Nat → Prop) (w : World) (h : Cd.rep w S n va) (h' : Cd.rep w T p vb) :
    Calls Tryz.prog 29 #[.agg va.toArray, .agg vb.toArray] w fun e w' => e = .returned (.bool (meets n p)) ∧ Below w.heap.size w w' := by
  obtain ⟨A, ca, rfl, hn, ho, ha, hta⟩ := h
  obtain ⟨A', a', B', b', C', c', rfl, h1', h2', h3', h4', h5'⟩ := h'
  have main : ∀ (w1 : World), Below w.heap.size w w1 → Cd.rep w1 T p.ver [.slice A' p.ver.parts.length a', .string p.ver.tail] ∧ Cd.rep w1 S n.ver [.slice A n.ver.parts.length ca, .string n.ver.tail] :=
    fun w1 hb => ⟨⟨_, _, rfl, h2'.below hb, h3'⟩, ⟨_, _, rfl, ha.below hb, hta⟩⟩
  by_cases h0 : n.op = 0
  case neg =>
    have h0' : (n.op == 0) = false := by simp [h0]
    have fin := Lib.hid (meets_right (n := n) (p := p) (fun e => h0 e.1))
    clear h0
    by_cases hE : vholdsE n.op = 0
    all_goals
      have HE := Lib.hid hE
      clear hE
      go_enter Tryz.func29, Tryz.ntmps29
      go_wp2_with (go_at_call 73; refine (refHolds_any n.op p.ver n.ver [_, _] [_, _] T S _ (main _ (by (repeat (first | exact Below.refl _ _ | assumption | (refine Below.setCell ?_ (by first | omega | (simp; done) | (simp; omega) | exact Below.size (by assumption)) _) | (refine Below.alloc ?_ (by first | omega | (simp; done) | (simp; omega) | exact Below.size (by assumption)) _) | refine Below.drew ?_ | refine Below.trans0 ?_ (by assumption))))).1 (main _ (by (repeat (first | exact Below.refl _ _ | assumption | (refine Below.setCell ?_ (by first | omega | (simp; done) | (simp; omega) | exact Below.size (by assumption)) _) | (refine Below.alloc ?_ (by first | omega | (simp; done) | (simp; omega) | exact Below.size (by assumption)) _) | refine Below.drew ?_ | refine Below.trans0 ?_ (by assumption))))).2).mono ?_; rintro e w1 ⟨rfl, hw1⟩; have z0 : w.heap.size < w1.heap.size := (by have := hw1.size; simp at this; omega); have z1 : w.heap.size + 1 < w1.heap.size := (by have := hw1.size; simp at this; omega); obtain ⟨q1, -⟩ := bcell hw1)
    all_goals
      go_ret
      refine ⟨ret_bool ?_, by (repeat (first | exact Below.refl _ _ | assumption | (refine Below.setCell ?_ (by first | omega | (simp; done) | (simp; omega) | exact Below.size (by assumption)) _) | (refine Below.alloc ?_ (by first | omega | (simp; done) | (simp; omega) | exact Below.size (by assumption)) _) | refine Below.drew ?_ | refine Below.trans0 ?_ (by assumption)))⟩
      rw [fin.out]
      have hE := HE.out
      first
        | (rw [vholds_bad hE]; simp_all [seqb]; done)
        | (simp_all [seqb]; done)
  have h0' : (n.op == 0) = true := by simp [h0]
  by_cases hp : n.name ∈ p.provides
  · have fin := Lib.hid (meets_left h0 hp)
    have Hp := Lib.hid hp
    clear hp h0
    go_enter Tryz.func29, Tryz.ntmps29
    go_wp2_with (go_at_call 72; refine (has_any _ _ _ _ T _ (h4'.below (by (repeat (first | exact Below.refl _ _ | assumption | (refine Below.setCell ?_ (by first | omega | (simp; done) | (simp; omega) | exact Below.size (by assumption)) _) | (refine Below.alloc ?_ (by first | omega | (simp; done) | (simp; omega) | exact Below.size (by assumption)) _) | refine Below.drew ?_ | refine Below.trans0 ?_ (by assumption)))))).mono ?_; rintro e w1 ⟨rfl, rfl⟩; rw [decide_eq_true Hp.out])
    go_ret
    exact ⟨ret_bool fin.out.symm, by (repeat (first | exact Below.refl _ _ | assumption | (refine Below.setCell ?_ (by first | omega | (simp; done) | (simp; omega) | exact Below.size (by assumption)) _) | (refine Below.alloc ?_ (by first | omega | (simp; done) | (simp; omega) | exact Below.size (by assumption)) _) | refine Below.drew ?_ | refine Below.trans0 ?_ (by assumption)))⟩
  · have fin := Lib.hid (meets_right (n := n) (p := p) (fun e => hp e.2))
    have Hp := Lib.hid hp
    have hE : vholdsE n.op = 0 := by rw [h0]; rfl
    have HE := Lib.hid hE
    clear hp hE h0
    go_enter Tryz.func29, Tryz.ntmps29
    go_wp2_with (go_at_call 72; refine (has_any _ _ _ _ T _ (h4'.below (by (repeat (first | exact Below.refl _ _ | assumption | (refine Below.setCell ?_ (by first | omega | (simp; done) | (simp; omega) | exact Below.size (by assumption)) _) | (refine Below.alloc ?_ (by first | omega | (simp; done) | (simp; omega) | exact Below.size (by assumption)) _) | refine Below.drew ?_ | refine Below.trans0 ?_ (by assumption)))))).mono ?_; rintro e w1 ⟨rfl, rfl⟩; rw [decide_eq_false Hp.out])
    go_wp2_with (go_at_call 73; refine (refHolds_any n.op p.ver n.ver [_, _] [_, _] T S _ (main _ (by (repeat (first | exact Below.refl _ _ | assumption | (refine Below.setCell ?_ (by first | omega | (simp; done) | (simp; omega) | exact Below.size (by assumption)) _) | (refine Below.alloc ?_ (by first | omega | (simp; done) | (simp; omega) | exact Below.size (by assumption)) _) | refine Below.drew ?_ | refine Below.trans0 ?_ (by assumption))))).1 (main _ (by (repeat (first | exact Below.refl _ _ | assumption | (refine Below.setCell ?_ (by first | omega | (simp; done) | (simp; omega) | exact Below.size (by assumption)) _) | (refine Below.alloc ?_ (by first | omega | (simp; done) | (simp; omega) | exact Below.size (by assumption)) _) | refine Below.drew ?_ | refine Below.trans0 ?_ (by assumption))))).2).mono ?_; rintro e w1 ⟨rfl, hw1⟩; have z0 : w.heap.size < w1.heap.size := (by have := hw1.size; simp at this; omega); have z1 : w.heap.size + 1 < w1.heap.size := (by have := hw1.size; simp at this; omega); obtain ⟨q1, -⟩ := bcell hw1)
    all_goals
      go_ret
      refine ⟨ret_bool ?_, by (repeat (first | exact Below.refl _ _ | assumption | (refine Below.setCell ?_ (by first | omega | (simp; done) | (simp; omega) | exact Below.size (by assumption)) _) | (refine Below.alloc ?_ (by first | omega | (simp; done) | (simp; omega) | exact Below.size (by assumption)) _) | refine Below.drew ?_ | refine Below.trans0 ?_ (by assumption)))⟩
      rw [fin.out]
      have hE := HE.out
      simp_all [seqb]

end Go.Proofs.YtppbjmhllmaakaaGreatDoor
