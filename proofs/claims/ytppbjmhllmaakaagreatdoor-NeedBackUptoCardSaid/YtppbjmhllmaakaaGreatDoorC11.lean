/- Contracts: slices.Contains at []int, []string; need.Meets, need.Met; plan.aims, plan.Grants' own function. -/
import Derived.Test.YtppbjmhllmaakaaGreatDoorC10
set_option linter.unusedVariables false
namespace Go.Proofs.YtppbjmhllmaakaaGreatDoor
open Go.RowKit

set_option maxHeartbeats 400000 in
theorem idxInt_any (l : List Int) (x : Int) (A : Option Addr) (cap : Nat) (S : Nat → Prop) (w : World) (h : Arr w S A l) :
    Calls Tryz.prog 137 #[.slice A l.length cap, .int .i64 x] w fun e w' => w' = w ∧ ∃ r, e = .returned (.int .i64 r) ∧ (0 ≤ r ↔ x ∈ l) := by
  have hl := h.len
  go_enter Tryz.func137, Tryz.ntmps137
  go_wp2
  go_loop [4, 5, 8] (fun r y i => r = .int .i64 0 ∧ ∃ k : Nat, k ≤ l.length ∧ i = .int .i64 k ∧ ¬ x ∈ l.take k) (fun _ _ i => l.length - (intOf i).toNat)
  case atStart => exact ⟨rfl, 0, Nat.zero_le _, rfl, by simp⟩
  case round =>
    obtain ⟨rfl, k, hk, rfl, hj⟩ := hrel
    have Hj := Lib.hid hj
    clear hj
    by_cases hlt : k < l.length
    · obtain ⟨b, o, rfl, hb, hs, hc⟩ := h.getI k hlt
      go_wp2
      · rename_i he _
        go_ret
        have he := ieq_of he
        exact ⟨rfl, _, rfl, ⟨fun _ => he ▸ List.getElem_mem hlt, fun _ => by omega⟩⟩
      · rename_i he
        have he := ine_of he
        go_round
        case rel => exact ⟨rfl, k + 1, by omega, by go_num, notin_succ hlt Hj.out (fun e => he e.symm)⟩
        case measure => simp [intOf]; omega
    · go_wp2
      go_ret
      exact ⟨rfl, _, rfl, ⟨fun h => absurd h (by decide), fun h => absurd h (notin_all hlt Hj.out)⟩⟩
theorem conInt_any (l : List Int) (x : Int) (A : Option Addr) (cap : Nat) (S : Nat → Prop) (w : World) (h : Arr w S A l) :
    Calls Tryz.prog 103 #[.slice A l.length cap, .int .i64 x] w fun e w' => e = .returned (.bool (decide (x ∈ l))) ∧ w' = w := by
  go_enter Tryz.func103, Tryz.ntmps103
  go_wp2_with fail
  refine (idxInt_any l x A cap S _ h).mono ?_
  rintro e w1 ⟨rfl, r, rfl, hr⟩
  have Hr := Lib.hid hr
  clear hr
  go_wp2
  go_ret
  exact ⟨ret_bool (decide_eq_decide.2 Hr.out), rfl⟩

set_option maxHeartbeats 400000 in
theorem idxStr_any (l : List ByteArray) (x : ByteArray) (A : Option Addr) (cap : Nat) (S : Nat → Prop) (w : World) (h : Arr w S A l) :
    Calls Tryz.prog 117 #[.slice A l.length cap, .string x] w fun e w' => w' = w ∧ ∃ r, e = .returned (.int .i64 r) ∧ (0 ≤ r ↔ x ∈ l) := by
  have hl := h.len
  go_enter Tryz.func117, Tryz.ntmps117
  go_wp2
  go_loop [4, 5, 8] (fun r y i => r = .int .i64 0 ∧ ∃ k : Nat, k ≤ l.length ∧ i = .int .i64 k ∧ ¬ x ∈ l.take k) (fun _ _ i => l.length - (intOf i).toNat)
  case atStart => exact ⟨rfl, 0, Nat.zero_le _, rfl, by simp⟩
  case round =>
    obtain ⟨rfl, k, hk, rfl, hj⟩ := hrel
    have Hj := Lib.hid hj
    clear hj
    by_cases hlt : k < l.length
    · obtain ⟨b, o, rfl, hb, hs, hc⟩ := h.getS k hlt
      go_wp2
      · rename_i he _
        go_ret
        have he := seq_of he
        exact ⟨rfl, _, rfl, ⟨fun _ => he ▸ List.getElem_mem hlt, fun _ => by omega⟩⟩
      · rename_i he
        have he := sne_of he
        go_round
        case rel => exact ⟨rfl, k + 1, by omega, by go_num, notin_succ hlt Hj.out (fun e => he e.symm)⟩
        case measure => simp [intOf]; omega
    · go_wp2
      go_ret
      exact ⟨rfl, _, rfl, ⟨fun h => absurd h (by decide), fun h => absurd h (notin_all hlt Hj.out)⟩⟩
theorem conStr_any (l : List ByteArray) (x : ByteArray) (A : Option Addr) (cap : Nat) (S : Nat → Prop) (w : World) (h : Arr w S A l) :
    Calls Tryz.prog 71 #[.slice A l.length cap, .string x] w fun e w' => e = .returned (.bool (decide (x ∈ l))) ∧ w' = w := by
  go_enter Tryz.func71, Tryz.ntmps71
  go_wp2_with fail
  refine (idxStr_any l x A cap S _ h).mono ?_
  rintro e w1 ⟨rfl, r, rfl, hr⟩
  have Hr := Lib.hid hr
  clear hr
  go_wp2
  go_ret
  exact ⟨ret_bool (decide_eq_decide.2 Hr.out), rfl⟩

theorem vholdsE_two {op : Int} (h : ¬ vholdsE op = 0) : vholdsE op = 2 := by
  unfold vholdsE at *
  split
  · rename_i g; rw [if_pos g] at h; exact absurd rfl h
  · rfl

set_option maxHeartbeats 4000000 in
theorem meets_any (n : Need) (p : Pkg) (va vb : List Value) (S T : Nat → Prop) (w : World) (h : Cd.rep w S n va) (h' : Cd.rep w T p vb) :
    Calls Tryz.prog 28 #[.agg va.toArray, .agg vb.toArray] w fun e w' => e = .returned (.bool (meets n p)) ∧ Below w.heap.size w w' := by
  obtain ⟨A, ca, rfl, hn, ho, ha, hta⟩ := h
  obtain ⟨A', a', B', b', C', c', rfl, h1', h2', h3', h4', h5'⟩ := h'
  have main : ∀ (w1 : World), Below w.heap.size w w1 → Cd.rep w1 T p.ver [.slice A' p.ver.parts.length a', .string p.ver.tail] ∧ Cd.rep w1 S n.ver [.slice A n.ver.parts.length ca, .string n.ver.tail] :=
    fun w1 hb => ⟨⟨_, _, rfl, h2'.below hb, h3'⟩, ⟨_, _, rfl, ha.below hb, hta⟩⟩
  have d0 : vholdsE n.op = 0 ∧ vholds n.op p.ver n.ver = true ∧ (p.name.toList == n.name.toList) = true ∨ vholdsE n.op = 0 ∧ vholds n.op p.ver n.ver = true ∧ (p.name.toList == n.name.toList) = false ∨
      vholdsE n.op = 0 ∧ vholds n.op p.ver n.ver = false ∨ vholdsE n.op = 2 ∧ vholds n.op p.ver n.ver = false := by
    by_cases g : vholdsE n.op = 0
    · cases hv : vholds n.op p.ver n.ver
      · exact .inr (.inr (.inl ⟨g, rfl⟩))
      · cases hs : (p.name.toList == n.name.toList)
        · exact .inr (.inl ⟨g, rfl, rfl⟩)
        · exact .inl ⟨g, rfl, rfl⟩
    · exact .inr (.inr (.inr ⟨vholdsE_two g, vholds_bad g⟩))
  rcases d0 with ⟨hE, hv, hs⟩ | d0
  · have fin := Lib.hid (meets_one (n := n) (p := p) (by rw [hv]; simpa [seqb] using hs))
    have HE := Lib.hid hE
    have Hv := Lib.hid hv
    clear hE hv
    go_enter Tryz.func28, Tryz.ntmps28
    go_wp2_with (go_at_call 70; refine (holds_any n.op p.ver n.ver [_, _] [_, _] T S _ (main _ (by (repeat (first | exact Below.refl _ _ | assumption | (refine Below.setCell ?_ (by first | omega | (simp; done) | (simp; omega) | exact Below.size (by assumption)) _) | (refine Below.alloc ?_ (by first | omega | (simp; done) | (simp; omega) | exact Below.size (by assumption)) _) | refine Below.drew ?_ | refine Below.trans0 ?_ (by assumption))))).1 (main _ (by (repeat (first | exact Below.refl _ _ | assumption | (refine Below.setCell ?_ (by first | omega | (simp; done) | (simp; omega) | exact Below.size (by assumption)) _) | (refine Below.alloc ?_ (by first | omega | (simp; done) | (simp; omega) | exact Below.size (by assumption)) _) | refine Below.drew ?_ | refine Below.trans0 ?_ (by assumption))))).2).mono ?_; rintro e w1 ⟨rfl, hw1⟩; rw [HE.out, Hv.out]; have z0 : w.heap.size < w1.heap.size := (by have := hw1.size; simp at this; omega); have z1 : w.heap.size + 1 < w1.heap.size := (by have := hw1.size; simp at this; omega); obtain ⟨q1, -⟩ := bcell hw1)
    go_ret
    exact ⟨ret_bool fin.out.symm, by (repeat (first | exact Below.refl _ _ | assumption | (refine Below.setCell ?_ (by first | omega | (simp; done) | (simp; omega) | exact Below.size (by assumption)) _) | (refine Below.alloc ?_ (by first | omega | (simp; done) | (simp; omega) | exact Below.size (by assumption)) _) | refine Below.drew ?_ | refine Below.trans0 ?_ (by assumption)))⟩
  have fin := Lib.hid (meets_mid (n := n) (p := p) (by
    rcases d0 with ⟨_, hv, hs⟩ | ⟨_, hv⟩ | ⟨_, hv⟩
    · rw [seqb, hs]; rfl
    · rw [hv]; simp
    · rw [hv]; simp))
  have dop : n.op = 0 ∧ decide (n.name ∈ p.provides) = true ∨ n.op = 0 ∧ decide (n.name ∈ p.provides) = false ∨ ¬ n.op = 0 := by
    by_cases h0 : n.op = 0
    · cases decide (n.name ∈ p.provides)
      · exact .inr (.inl ⟨h0, rfl⟩)
      · exact .inl ⟨h0, rfl⟩
    · exact .inr (.inr h0)
  rcases dop with ⟨h0, hp⟩ | ⟨h0, hp⟩ | h0
  case inr.inr =>
    have h0' : (n.op == 0) = false := by simp [h0]
    have Fin := Lib.hid (show meets n p = false by rw [fin.out, decide_eq_false h0]; rfl)
    clear h0 fin
    rcases d0 with ⟨hE, hv, hs⟩ | ⟨hE, hv⟩ | ⟨hE, hv⟩
    all_goals
      have HE := Lib.hid hE
      have Hv := Lib.hid hv
      clear hE hv
      go_enter Tryz.func28, Tryz.ntmps28
      go_wp2_with (go_at_call 70; refine (holds_any n.op p.ver n.ver [_, _] [_, _] T S _ (main _ (by (repeat (first | exact Below.refl _ _ | assumption | (refine Below.setCell ?_ (by first | omega | (simp; done) | (simp; omega) | exact Below.size (by assumption)) _) | (refine Below.alloc ?_ (by first | omega | (simp; done) | (simp; omega) | exact Below.size (by assumption)) _) | refine Below.drew ?_ | refine Below.trans0 ?_ (by assumption))))).1 (main _ (by (repeat (first | exact Below.refl _ _ | assumption | (refine Below.setCell ?_ (by first | omega | (simp; done) | (simp; omega) | exact Below.size (by assumption)) _) | (refine Below.alloc ?_ (by first | omega | (simp; done) | (simp; omega) | exact Below.size (by assumption)) _) | refine Below.drew ?_ | refine Below.trans0 ?_ (by assumption))))).2).mono ?_; rintro e w1 ⟨rfl, hw1⟩; rw [HE.out, Hv.out]; have z0 : w.heap.size < w1.heap.size := (by have := hw1.size; simp at this; omega); have z1 : w.heap.size + 1 < w1.heap.size := (by have := hw1.size; simp at this; omega); obtain ⟨q1, -⟩ := bcell hw1)
      go_ret
      exact ⟨ret_bool Fin.out.symm, by (repeat (first | exact Below.refl _ _ | assumption | (refine Below.setCell ?_ (by first | omega | (simp; done) | (simp; omega) | exact Below.size (by assumption)) _) | (refine Below.alloc ?_ (by first | omega | (simp; done) | (simp; omega) | exact Below.size (by assumption)) _) | refine Below.drew ?_ | refine Below.trans0 ?_ (by assumption)))⟩
  all_goals
    have h0' : (n.op == 0) = true := by simp [h0]
    have Fin := Lib.hid (show meets n p = _ by rw [fin.out, hp, decide_eq_true h0, Bool.true_and])
    have Hp := Lib.hid hp
    clear h0 fin hp
    rcases d0 with ⟨hE, hv, hs⟩ | ⟨hE, hv⟩ | ⟨hE, hv⟩
    all_goals
      have HE := Lib.hid hE
      have Hv := Lib.hid hv
      clear hE hv
      go_enter Tryz.func28, Tryz.ntmps28
      go_wp2_with (go_at_call 70; refine (holds_any n.op p.ver n.ver [_, _] [_, _] T S _ (main _ (by (repeat (first | exact Below.refl _ _ | assumption | (refine Below.setCell ?_ (by first | omega | (simp; done) | (simp; omega) | exact Below.size (by assumption)) _) | (refine Below.alloc ?_ (by first | omega | (simp; done) | (simp; omega) | exact Below.size (by assumption)) _) | refine Below.drew ?_ | refine Below.trans0 ?_ (by assumption))))).1 (main _ (by (repeat (first | exact Below.refl _ _ | assumption | (refine Below.setCell ?_ (by first | omega | (simp; done) | (simp; omega) | exact Below.size (by assumption)) _) | (refine Below.alloc ?_ (by first | omega | (simp; done) | (simp; omega) | exact Below.size (by assumption)) _) | refine Below.drew ?_ | refine Below.trans0 ?_ (by assumption))))).2).mono ?_; rintro e w1 ⟨rfl, hw1⟩; rw [HE.out, Hv.out]; have z0 : w.heap.size < w1.heap.size := (by have := hw1.size; simp at this; omega); have z1 : w.heap.size + 1 < w1.heap.size := (by have := hw1.size; simp at this; omega); obtain ⟨q1, -⟩ := bcell hw1)
      have hb1 : Below w.heap.size w w1 := by (repeat (first | exact Below.refl _ _ | assumption | (refine Below.setCell ?_ (by first | omega | (simp; done) | (simp; omega) | exact Below.size (by assumption)) _) | (refine Below.alloc ?_ (by first | omega | (simp; done) | (simp; omega) | exact Below.size (by assumption)) _) | refine Below.drew ?_ | refine Below.trans0 ?_ (by assumption)))
      go_wp2_with (go_at_call 71; refine (conStr_any _ _ _ _ T _ (h4'.below hb1)).mono ?_; rintro e w2 ⟨rfl, rfl⟩; rw [Hp.out])
      go_ret
      exact ⟨ret_bool Fin.out.symm, hb1⟩

theorem enters67 : ∀ args w, (callFunc 69 args).run Tryz.prog w = .ok (.enter 69 args) w := enters_of Tryz.func69 (by kernel_rfl) rfl
theorem enters65 : ∀ args w, (callFunc 67 args).run Tryz.prog w = .ok (.enter 67 args) w := enters_of Tryz.func67 (by kernel_rfl) rfl

theorem box_below {w W : World} (hb : Below w.heap.size w W) {B j : Nat} {v : Value} (h : w.cell? ⟨B, j, none⟩ = some v) : W.cell? ⟨B, j, none⟩ = some v :=
  (hb.cell (World.block_lt_of_cell? w _ h)).trans h

set_option maxHeartbeats 1000000 in
theorem met11_pred (w : World) (S T : Nat → Prop) (l : List Need) (p : Pkg) (B : Nat) (c0 c1 c2 c3 c4 : Value) (hp : Cd.rep w T p [c0, c1, c2, c3, c4])
    (h0 : w.cell? ⟨B, 0, none⟩ = some c0) (h1 : w.cell? ⟨B, 1, none⟩ = some c1) (h2 : w.cell? ⟨B, 2, none⟩ = some c2) (h3 : w.cell? ⟨B, 3, none⟩ = some c3) (h4 : w.cell? ⟨B, 4, none⟩ = some c4) :
    Pred 69 #[.pointer (some ⟨B, 0, none⟩)] w S (fun n => meets n p) l := by
  intro x hx W vs hb hr
  have hr' := hr
  obtain ⟨A, ca, rfl, hn, ho, ha, hta⟩ := hr'
  have hB : B < W.heap.size := Nat.lt_of_lt_of_le (World.block_lt_of_cell? w ⟨B, 0, none⟩ h0) hb.size
  replace h0 := box_below hb h0
  replace h1 := box_below hb h1
  replace h2 := box_below hb h2
  replace h3 := box_below hb h3
  replace h4 := box_below hb h4
  replace hp := hp.below hb
  go_enter Tryz.func69, Tryz.ntmps69
  go_wp2_with (go_at_call 28; refine (meets_any x p [_, _, _, _] [_, _, _, _, _] S T _ (hr.below (by (repeat (first | exact Below.refl _ _ | assumption | (refine Below.setCell ?_ (by first | omega | (simp; done) | (simp; omega) | exact Below.size (by assumption)) _) | (refine Below.alloc ?_ (by first | omega | (simp; done) | (simp; omega) | exact Below.size (by assumption)) _) | refine Below.drew ?_ | refine Below.trans0 ?_ (by assumption))))) (hp.below (by (repeat (first | exact Below.refl _ _ | assumption | (refine Below.setCell ?_ (by first | omega | (simp; done) | (simp; omega) | exact Below.size (by assumption)) _) | (refine Below.alloc ?_ (by first | omega | (simp; done) | (simp; omega) | exact Below.size (by assumption)) _) | refine Below.drew ?_ | refine Below.trans0 ?_ (by assumption)))))).mono ?_; rintro e w1 ⟨rfl, hw1⟩)
  go_ret
  exact ⟨rfl, by (repeat (first | exact Below.refl _ _ | assumption | (refine Below.setCell ?_ (by first | omega | (simp; done) | (simp; omega) | exact Below.size (by assumption)) _) | (refine Below.alloc ?_ (by first | omega | (simp; done) | (simp; omega) | exact Below.size (by assumption)) _) | refine Below.drew ?_ | refine Below.trans0 ?_ (by assumption)))⟩

set_option maxHeartbeats 1000000 in
theorem met1_pred (w : World) (S T : Nat → Prop) (l : List Pkg) (c : Clause) (B : Nat) (C : Option Addr) (cc : Nat) (hc : Arr w S C c.any)
    (h1 : w.cell? ⟨B, 1, none⟩ = some (.slice C c.any.length cc)) :
    Pred 67 #[.pointer (some ⟨B, 0, none⟩)] w T (fun p => c.any.any fun n => meets n p) l := by
  intro x hx W vs hb hr
  have hr' := hr
  obtain ⟨A', a', B', b', C', c', rfl, h1', h2', h3', h4', h5'⟩ := hr'
  have hB : B < W.heap.size := Nat.lt_of_lt_of_le (World.block_lt_of_cell? w ⟨B, 1, none⟩ h1) hb.size
  replace h1 := box_below hb h1
  replace hc := hc.below hb
  go_enter Tryz.func67, Tryz.ntmps67
  go_wp2_with fail
  refine (containsNeed_any c.any _ _ _ _ _ S _ enters67 (hc.below (by (repeat (first | exact Below.refl _ _ | assumption | (refine Below.setCell ?_ (by first | omega | (simp; done) | (simp; omega) | exact Below.size (by assumption)) _) | (refine Below.alloc ?_ (by first | omega | (simp; done) | (simp; omega) | exact Below.size (by assumption)) _) | refine Below.drew ?_ | refine Below.trans0 ?_ (by assumption))))) (met11_pred _ S T _ x W.heap.size _ _ _ _ _ (hr.below (by (repeat (first | exact Below.refl _ _ | assumption | (refine Below.setCell ?_ (by first | omega | (simp; done) | (simp; omega) | exact Below.size (by assumption)) _) | (refine Below.alloc ?_ (by first | omega | (simp; done) | (simp; omega) | exact Below.size (by assumption)) _) | refine Below.drew ?_ | refine Below.trans0 ?_ (by assumption))))) (by simp) (by simp) (by simp) (by simp) (by simp))).mono ?_
  rintro e w1 ⟨rfl, hw1⟩
  go_wp2
  go_ret
  exact ⟨rfl, by (repeat (first | exact Below.refl _ _ | assumption | (refine Below.setCell ?_ (by first | omega | (simp; done) | (simp; omega) | exact Below.size (by assumption)) _) | (refine Below.alloc ?_ (by first | omega | (simp; done) | (simp; omega) | exact Below.size (by assumption)) _) | refine Below.drew ?_ | refine Below.trans0 ?_ (by assumption)))⟩

set_option maxHeartbeats 1000000 in
theorem met_any (c : Clause) (l : List Pkg) (va : List Value) (A : Option Addr) (ca : Nat) (S T : Nat → Prop) (w : World) (h : Cd.rep w S c va) (h' : Arr w T A l) :
    Calls Tryz.prog 26 #[.agg va.toArray, .slice A l.length ca] w fun e w' => e = .returned (.bool (met c l)) ∧ Below w.heap.size w w' := by
  obtain ⟨C, cc, rfl, hc⟩ := h
  go_enter Tryz.func26, Tryz.ntmps26
  go_wp2_with fail
  refine (containsPkg_any l _ _ _ _ _ T _ enters65 (h'.below (by (repeat (first | exact Below.refl _ _ | assumption | (refine Below.setCell ?_ (by first | omega | (simp; done) | (simp; omega) | exact Below.size (by assumption)) _) | (refine Below.alloc ?_ (by first | omega | (simp; done) | (simp; omega) | exact Below.size (by assumption)) _) | refine Below.drew ?_ | refine Below.trans0 ?_ (by assumption))))) (met1_pred _ S T _ c w.heap.size C cc (hc.below (by (repeat (first | exact Below.refl _ _ | assumption | (refine Below.setCell ?_ (by first | omega | (simp; done) | (simp; omega) | exact Below.size (by assumption)) _) | (refine Below.alloc ?_ (by first | omega | (simp; done) | (simp; omega) | exact Below.size (by assumption)) _) | refine Below.drew ?_ | refine Below.trans0 ?_ (by assumption))))) (by simp))).mono ?_
  rintro e w1 ⟨rfl, hw1⟩
  have z0 : w.heap.size < w1.heap.size := by have := hw1.size; simp at this; omega
  obtain ⟨q1, -⟩ := bcell hw1
  go_wp2
  go_ret
  exact ⟨by rfl, by (repeat (first | exact Below.refl _ _ | assumption | (refine Below.setCell ?_ (by first | omega | (simp; done) | (simp; omega) | exact Below.size (by assumption)) _) | (refine Below.alloc ?_ (by first | omega | (simp; done) | (simp; omega) | exact Below.size (by assumption)) _) | refine Below.drew ?_ | refine Below.trans0 ?_ (by assumption)))⟩

end Go.Proofs.YtppbjmhllmaakaaGreatDoor
