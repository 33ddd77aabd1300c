/- Contract: the reference's Grants (layer 19). -/
import Derived.Test.YtppbjmhllmaakaaGreatDoorC28
set_option linter.unusedVariables false
namespace Go.Proofs.YtppbjmhllmaakaaGreatDoor
open Go.RowKit

theorem all_take_true {α : Type} {p : α → Bool} {l : List α} {k : Nat} (hk : k < l.length) (h : (l.take k).all p = true) (h1 : p l[k] = true) : (l.take (k + 1)).all p = true := by rw [all_take_succ2 p hk, h, h1]; rfl

set_option maxHeartbeats 0 in
set_option maxRecDepth 100000 in
theorem refGrants_any (cat : List Pkg) (l : List Int) (want : List Clause) (A B C : Option Addr) (ca cb cc : Nat) (S T U : Nat → Prop) (w : World) (hA : Arr w S A cat) (h : Arr w T B l) (hC : Arr w U C want) :
    Calls Tryz.prog 22 #[.slice A cat.length ca, .slice B l.length cb, .slice C want.length cc] w fun e w' => e = .returned (.bool (grants cat l want)) ∧ Below w.heap.size w w' := by
  have hwl := hC.len
  cases ht : tgt cat.length l
  · have Ht := Lib.hid ht
    have fin := Lib.hid (show grants cat l want = false by unfold grants; rw [ht]; rfl)
    clear ht
    go_enter Tryz.func22, Tryz.ntmps22
    go_wp2_with (go_at_call 57; refine (refTarget_any cat l A ca S B cb T _ hA h).mono ?_; rintro e w2 ⟨rfl, hw2⟩; rw [Ht.out])
    go_ret
    exact ⟨ret_bool fin.out.symm, hw2⟩
  · have Ht := Lib.hid ht
    have fin0 := Lib.hid (show grants cat l want = want.all fun c => met c (pick cat l) by unfold grants; rw [ht]; rfl)
    clear ht
    go_enter Tryz.func22, Tryz.ntmps22
    go_wp2_with (go_at_call 57; refine (refTarget_any cat l A ca S B cb T _ hA h).mono ?_; rintro e w2 ⟨rfl, hw2⟩; rw [Ht.out])
    have hz2 := hw2.size
    go_loopw [7] (fun i wr => Below w.heap.size w wr ∧ ∃ k : Nat, k ≤ want.length ∧ i = .int .i64 k ∧ Hid ((want.take k).all (fun c => met c (pick cat l)) = true)) (fun i _ => want.length - (intOf i).toNat)
    case atStart => exact ⟨hw2, 0, Nat.zero_le _, rfl, Lib.hid (by simp)⟩
    case round =>
      obtain ⟨hb, k, hk, rfl, hj⟩ := hrel
      by_cases hlt : k < want.length
      · obtain ⟨b3, o3, N3, cn3, rfl, hb3, g0, g1, hrc, -⟩ := (hC.below hb).getClause k hlt
        have hwk : want[k].neg = want[k].neg := rfl
        have hI : ∀ w1, Below wr.drew.heap.size wr.drew w1 → Below wr.heap.size wr w1 := fun w1 h => ((Below.refl _ wr).drew).trans h
        cases hm : met want[k] (pick cat l)
        · have fin := Lib.hid (show grants cat l want = false by rw [fin0.out]; exact all_false hlt hm)
          have Hm := Lib.hid hm
          clear hm
          go_wp2
          go_region_held3 (fun W => W.cell? ⟨b3, o3 + k * 2, none⟩ = some (.bool want[k].neg) ∧ W.cell? ⟨b3, o3 + k * 2 + 1, none⟩ = some (.slice N3 want[k].any.length cn3)) (go_keep) (first
            | (go_at_call 20; refine (refPick_any cat l A B ca cb S T _ (hA.below hb.drew) (h.below hb.drew)).mono ?_; rintro e w8 ⟨hw8, A8, c8, rfl, hpi, hc8⟩; replace hw8 := hI w8 hw8; obtain ⟨q1, q2⟩ := bcell hw8; replace g0 := (q1 _ _ hb3).trans g0; replace g1 := (q1 _ _ hb3).trans g1; clear q1 q2)
            | (go_at_call 27; refine (refMet_any want[k] (pick cat l) [_, _] _ c8 U _ _ (hrc.below hw8) hpi).mono ?_; rintro e w9 ⟨rfl, hw9⟩; rw [Hm.out]; have HW9 : Below wr.heap.size wr w9 := Below.trans0 hw8 hw9 hw8.size; obtain ⟨q1, q2⟩ := bcell hw9; have hb8 : b3 < w8.heap.size := Nat.lt_of_lt_of_le hb3 hw8.size; replace g0 := (q1 _ _ hb8).trans g0; replace g1 := (q1 _ _ hb8).trans g1; clear q1 q2))
          all_goals
            go_wp2
            go_ret
            exact ⟨ret_bool fin.out.symm, Below.trans0 hb HW9 hb.size⟩
        · have fin : Hid ((want.take (k + 1)).all (fun c => met c (pick cat l)) = true) := Lib.hid (all_take_true hlt hj.out hm)
          have Hm := Lib.hid hm
          clear hm
          go_wp2
          go_region_held3 (fun W => W.cell? ⟨b3, o3 + k * 2, none⟩ = some (.bool want[k].neg) ∧ W.cell? ⟨b3, o3 + k * 2 + 1, none⟩ = some (.slice N3 want[k].any.length cn3)) (go_keep) (first
            | (go_at_call 20; refine (refPick_any cat l A B ca cb S T _ (hA.below hb.drew) (h.below hb.drew)).mono ?_; rintro e w8 ⟨hw8, A8, c8, rfl, hpi, hc8⟩; replace hw8 := hI w8 hw8; obtain ⟨q1, q2⟩ := bcell hw8; replace g0 := (q1 _ _ hb3).trans g0; replace g1 := (q1 _ _ hb3).trans g1; clear q1 q2)
            | (go_at_call 27; refine (refMet_any want[k] (pick cat l) [_, _] _ c8 U _ _ (hrc.below hw8) hpi).mono ?_; rintro e w9 ⟨rfl, hw9⟩; rw [Hm.out]; have HW9 : Below wr.heap.size wr w9 := Below.trans0 hw8 hw9 hw8.size; obtain ⟨q1, q2⟩ := bcell hw9; have hb8 : b3 < w8.heap.size := Nat.lt_of_lt_of_le hb3 hw8.size; replace g0 := (q1 _ _ hb8).trans g0; replace g1 := (q1 _ _ hb8).trans g1; clear q1 q2))
          all_goals
            go_wp2
            go_roundw
            case rel => exact ⟨Below.trans0 hb HW9 hb.size, k + 1, by omega, by go_num, fin⟩
            case measure => simp [intOf]; omega
      · have fin := Lib.hid (show grants cat l want = true by rw [fin0.out, ← hj.out, List.take_of_length_le (by omega)])
        go_wp2
        go_ret
        exact ⟨ret_bool fin.out.symm, hb⟩

end Go.Proofs.YtppbjmhllmaakaaGreatDoor
