/- Contract: the reference's Valid. -/
import Derived.Test.YtppbjmhllmaakaaGreatDoorC28
import Derived.Test.YtppbjmhllmaakaaGreatDoorC27
import Derived.Test.YtppbjmhllmaakaaGreatDoorC20
set_option linter.unusedVariables false
namespace Go.Proofs.YtppbjmhllmaakaaGreatDoor
open Go.RowKit

set_option maxHeartbeats 0 in
set_option maxRecDepth 100000 in
theorem refPlanValid_any (cat : List Pkg) (l : List Int) (A B : Option Addr) (ca cb : Nat) (S T : Nat → Prop) (w : World) (hA : Arr w S A cat) (h : Arr w T B l) :
    Calls Tryz.prog 53 #[.slice A cat.length ca, .slice B l.length cb] w fun e w' => e = .returned (.int .i64 (okE (validP cat l) 190)) ∧ Below w.heap.size w w' := by
  have hl := h.len
  have hcl := hA.len
  cases hk : planOk cat
  · have Hk := Lib.hid hk
    have fin := Lib.hid (show validP cat l = false by unfold validP; rw [hk]; rfl)
    clear hk
    go_enter Tryz.func53, Tryz.ntmps53
    go_wp2_with (go_at_call 49; refine (refPlanCheck_any cat A ca S _ hA).mono ?_; rintro e w1 ⟨rfl, hw1⟩; rw [Hk.out])
    go_ret
    exact ⟨ret_int (by rw [fin.out]; rfl), by (repeat (first | exact Below.refl _ _ | assumption | (refine Below.setCell ?_ (by first | omega | (simp; done) | (simp; omega) | exact Below.size (by assumption)) _) | (refine Below.alloc ?_ (by first | omega | (simp; done) | (simp; omega) | exact Below.size (by assumption)) _) | refine Below.drew ?_ | refine Below.trans0 ?_ (by assumption)))⟩
  · have Hk := Lib.hid hk
    cases ht : tgt cat.length l
    · have Ht := Lib.hid ht
      have fin := Lib.hid (show validP cat l = false by unfold validP; rw [ht]; simp)
      clear hk ht
      go_enter Tryz.func53, Tryz.ntmps53
      go_wp2_with (first | (go_at_call 49; refine (refPlanCheck_any cat A ca S _ hA).mono ?_; rintro e w1 ⟨rfl, hw1⟩; rw [Hk.out]) | (go_at_call 57; refine (refTarget_any cat l A ca S B cb T _ (hA.below hw1) (h.below hw1)).mono ?_; rintro e w2 ⟨rfl, hw2⟩; rw [Ht.out]; have HW := Below.trans0 hw1 hw2 hw1.size))
      go_ret
      exact ⟨ret_int (by rw [fin.out]; rfl), HW⟩
    · have Ht := Lib.hid ht
      by_cases hb : (broken cat l).length = 0
      · have Hb := Lib.hid hb
        have fin0 := Lib.hid (show validP cat l = namesOnce (pick cat l) by unfold validP; rw [hk, ht, broken_empty.2 hb]; rfl)
        clear hk ht hb
        go_enter Tryz.func53, Tryz.ntmps53
        go_wp2_with (first | (go_at_call 49; refine (refPlanCheck_any cat A ca S _ hA).mono ?_; rintro e w1 ⟨rfl, hw1⟩; rw [Hk.out]) | (go_at_call 57; refine (refTarget_any cat l A ca S B cb T _ (hA.below hw1) (h.below hw1)).mono ?_; rintro e w2 ⟨rfl, hw2⟩; rw [Ht.out]; have HW := Below.trans0 hw1 hw2 hw1.size) | (go_at_call 106; refine (refBroken_any cat l A B ca cb S T _ (hA.below HW) (h.below HW)).mono ?_; rintro e w3 ⟨hw3, A3, c3, rfl, -⟩; rw [Hb.out]; have HW := Below.trans0 HW hw3 HW.size) | (go_at_call 20; refine (refPick_any cat l A B ca cb S T _ (hA.below HW) (h.below HW)).mono ?_; rintro e w4 ⟨hw4, A4, c4, rfl, hp, -⟩; have HW4 := Below.trans0 HW hw4 HW.size))
        generalize hgp : pick cat l = pk at *
        have hpl := hp.len
        go_loopw [4, 6] (fun r i wr => Below w4.heap.size w4 wr ∧ ∃ k : Nat, k ≤ pk.length ∧ i = .int .i64 k ∧ Hid (To (onceAt pk) k)) (fun _ i _ => pk.length - (intOf i).toNat)
        case atStart => exact ⟨Below.refl _ _, 0, Nat.zero_le _, rfl, Lib.hid (To.zero _)⟩
        case round =>
          obtain ⟨hB, k, hk, rfl, hj⟩ := hrel
          by_cases hlt : k < pk.length
          · obtain ⟨wo, hwo⟩ : ∃ wo : World, wo = wr := ⟨_, rfl⟩
            subst hwo
            obtain ⟨bp, op, hAe, _⟩ := hp.lt (by omega)
            subst hAe
            go_wp2
            go_loopw [7] (fun j wr => Below wo.heap.size wo wr ∧ ∃ q : Nat, q ≤ k ∧ j = .int .i64 q ∧ Hid (∀ i (h : i < pk.length), i < q → ¬ pk[i].name = pk[k].name)) (fun j _ => k - (intOf j).toNat)
            case atStart => exact ⟨Below.refl _ _, 0, Nat.zero_le _, rfl, Lib.hid (fun i _ h => by omega)⟩
            case round =>
              obtain ⟨hb2, q, hq, rfl, hjq⟩ := hrel
              have hB4 : Below w4.heap.size w4 wr := Below.trans0 hB hb2 hB.size
              by_cases hqk : q < k
              · have hql : q < pk.length := by omega
                obtain ⟨b', o', B6, cb6, C6, cc6, D6, cd6, e, hb60, f0, -, -, -, -, -, -, -, -⟩ := (hp.below hB4).getPkg q hql
                cases e
                obtain ⟨b', o', B7, cb7, C7, cc7, D7, cd7, e, hb70, g0, -, -, -, -, -, -, -, -⟩ := (hp.below hB4).getPkg k hlt
                cases e
                cases he : (pk[k].name.toList == pk[q].name.toList)
                · have hno : Hid (∀ i (h : i < pk.length), i < q + 1 → ¬ pk[i].name = pk[k].name) := Lib.hid (fun i hi h => by
                    by_cases e : i = q
                    · subst e; exact fun e => sne_of he e.symm
                    · exact hjq.out i hi (by omega))
                  go_wp2
                  refine region_quiet (by kernel_rfl) (by kernel_rfl) ?_
                  repeat (go_big_quiet_step (fail))
                  refine wpQuiet_nil ?_
                  intro W1 hw1
                  replace hw1 := below_of_ext hw1
                  go_wp2
                  go_roundw
                  case rel => exact ⟨Below.trans0 hb2 hw1 hb2.size, q + 1, by omega, by go_num, hno⟩
                  case measure => simp [intOf]; omega
                · have fin := Lib.hid (show validP cat l = false by
                    rw [fin0.out]; unfold namesOnce
                    refine range_no hlt ?_
                    unfold onceAt
                    rw [pkg_at hlt, show ((pk.take k).any fun p => decide (p.name = pk[k].name)) = true from List.any_eq_true.2 ⟨pk[q], List.mem_take_iff_getElem.2 ⟨q, by omega, rfl⟩, decide_eq_true (seq_of he).symm⟩]; rfl)
                  go_wp2
                  refine region_quiet (by kernel_rfl) (by kernel_rfl) ?_
                  repeat (go_big_quiet_step (fail))
                  refine wpQuiet_nil ?_
                  intro W1 hw1
                  replace hw1 := below_of_ext hw1
                  go_wp2
                  go_ret
                  exact ⟨ret_int (by rw [fin.out]; rfl), Below.trans0 HW4 (Below.trans0 hB4 hw1 hB4.size) HW4.size⟩
              · have fin : Hid (To (onceAt pk) (k + 1)) := Lib.hid (hj.out.succ (by
                  unfold onceAt
                  rw [pkg_at hlt, show ((pk.take k).any fun p => decide (p.name = pk[k].name)) = false from List.any_eq_false.2 (fun p hp => by
                    obtain ⟨i, hi, rfl⟩ := List.mem_take_iff_getElem.1 hp
                    rw [decide_eq_false (hjq.out i (by omega) (by omega))]; simp)]
                  rfl))
                go_wp2
                go_roundw
                case rel => exact ⟨hB4, k + 1, by omega, by go_num, fin⟩
                case measure => simp [intOf]; omega
          · have fin := Lib.hid (show validP cat l = true by rw [fin0.out]; unfold namesOnce; exact To.all hlt hj.out)
            go_wp2
            go_ret
            exact ⟨ret_int (by rw [fin.out]; rfl), Below.trans0 HW4 hB HW4.size⟩
      · have hb' : (0 : Int) < (broken cat l).length := by omega
        have fin := Lib.hid (show validP cat l = false by unfold validP; rw [show (broken cat l).isEmpty = false by rw [← Bool.not_eq_true, broken_empty]; exact hb]; simp)
        clear hk ht hb
        go_enter Tryz.func53, Tryz.ntmps53
        go_wp2_with (first | (go_at_call 49; refine (refPlanCheck_any cat A ca S _ hA).mono ?_; rintro e w1 ⟨rfl, hw1⟩; rw [Hk.out]) | (go_at_call 57; refine (refTarget_any cat l A ca S B cb T _ (hA.below hw1) (h.below hw1)).mono ?_; rintro e w2 ⟨rfl, hw2⟩; rw [Ht.out]; have HW := Below.trans0 hw1 hw2 hw1.size) | (go_at_call 106; refine (refBroken_any cat l A B ca cb S T _ (hA.below HW) (h.below HW)).mono ?_; rintro e w3 ⟨hw3, A3, c3, rfl, -⟩; have HW := Below.trans0 HW hw3 HW.size))
        go_ret
        exact ⟨ret_int (by rw [fin.out]; rfl), HW⟩

end Go.Proofs.YtppbjmhllmaakaaGreatDoor
