/- Contract: PlanChecks. -/
import Derived.Test.YteoafnkcplealaaDoorC29
set_option linter.unusedVariables false
namespace Go.Proofs.YteoafnkcplealaaDoor
open Go.RowKit

set_option maxHeartbeats 0 in
set_option maxRecDepth 100000 in
theorem planChecks_any (cat : List Pkg) (l : List Int) (A B : Option Addr) (ca cb : Nat) (S T : Nat → Prop) (w : World) (hA : Arr w S A cat) (h : Arr w T B l) (hL : Laid w) :
    Calls Tryd.prog 3 #[.slice A cat.length ca, .slice B l.length cb] w fun e w' => e = .returned (.bool true) ∧ Below w.heap.size w w' := by
  have hl := h.len
  have hcl := hA.len
  obtain ⟨c1, hc1⟩ : ∃ c1, Hid (okE (planOk cat) 190 = c1) := ⟨_, Lib.hid rfl⟩
  obtain ⟨c2, hc2⟩ : ∃ c2, Hid (okE (validP cat l) 190 = c2) := ⟨_, Lib.hid rfl⟩
  go_enter Tryd.func3, Tryd.ntmps3
  go_wp2_with (first
    | (go_at_call 14; refine (pkgs_any cat A ca S _ hA).mono ?_; rintro e w1 ⟨hw1, A1, k1, rfl, ho0⟩; have HW := hw1; have ho : Arr w1 (fun _ => True) A1 cat := ho0.mono (fun _ _ _ => trivial))
    | (go_at_call 15; refine (baseInts_any l B cb T _ (h.below HW)).mono ?_; rintro e w2 ⟨hw2, v, rfl, hown⟩; obtain ⟨A2, k2, rfl, hi0⟩ := hown.rep (S' := fun _ => True) (fun _ _ _ => trivial) (fun _ _ _ => trivial) h.1 hl; have hi := hi0; have ho := ho.below hw2; have HW := Below.trans0 HW hw2 HW.size)
    | (go_at_call 16; refine (planCheck_any cat A1 k1 _ _ ho (hL.below HW)).mono ?_; rintro e w3 ⟨rfl, hw3⟩; rw [hc1.out]; have ho := ho.below hw3; have hi := hi.below hw3; have HW := Below.trans0 HW hw3 HW.size)
    | (go_at_call 17; refine (refPlanCheck_any cat A ca S _ (hA.below HW)).mono ?_; rintro e w4 ⟨rfl, hw4⟩; rw [hc1.out]; have ho := ho.below hw4; have hi := hi.below hw4; have HW := Below.trans0 HW hw4 HW.size)
    | (go_at_call 18; refine (planValid_any cat l A1 A2 k1 k2 _ _ _ ho hi (hL.below HW)).mono ?_; rintro e w5 ⟨rfl, hw5⟩; rw [hc2.out]; have ho := ho.below hw5; have hi := hi.below hw5; have HW := Below.trans0 HW hw5 HW.size)
    | (go_at_call 19; refine (refPlanValid_any cat l A B ca cb S T _ (hA.below HW) (h.below HW)).mono ?_; rintro e w6 ⟨rfl, hw6⟩; rw [hc2.out]; have ho := ho.below hw6; have hi := hi.below hw6; have HW := Below.trans0 HW hw6 HW.size)
    | (go_at_call 21; refine (planBroken_any cat l A1 A2 k1 k2 _ _ _ ho hi).mono ?_; rintro e w7 ⟨hw7, A7, k7, rfl, h7, -⟩; have ho := ho.below hw7; have hi := hi.below hw7; have HW := Below.trans0 HW hw7 HW.size)
    | (go_at_call 22; refine (refBroken_any cat l A B ca cb S T _ (hA.below HW) (h.below HW)).mono ?_; rintro e w8 ⟨hw8, A8, k8, rfl, h8⟩; have h7 := h7.below hw8; have ho := ho.below hw8; have hi := hi.below hw8; have HW := Below.trans0 HW hw8 HW.size)
    | (go_at_call 20; refine (sameInts_any (broken cat l) (broken cat l) A7 A8 k7 k8 _ _ _ h7 h8).mono ?_; rintro e w9 ⟨rfl, hw9⟩; rw [decide_eq_true rfl]; have ho := ho.below hw9; have hi := hi.below hw9; have HW := Below.trans0 HW hw9 HW.size))
  clear hw1 hw2 hw3 hw4 hw5 hw6 hw7 hw8 hw9 h7 h8 ho0 hown hi0
  have HW9 : Below w.heap.size w w9 := HW
  have ho9 : Arr w9 (fun _ => True) A1 cat := ho
  have hi9 : Arr w9 (fun _ => True) A2 l := hi
  clear HW ho hi
  go_loopw [7] (fun i wr => Below w9.heap.size w9 wr ∧ ∃ k : Nat, k ≤ cat.length ∧ i = .int .i64 k) (fun i _ => cat.length - (intOf i).toNat)
  case atStart => exact ⟨Below.refl _ _, 0, Nat.zero_le _, rfl⟩
  case round =>
    obtain ⟨hb, k, hk, rfl⟩ := hrel
    have HWr : Below w.heap.size w wr := Below.trans0 HW9 hb HW9.size
    by_cases hlt : k < cat.length
    · have hlt' : (k : Int) < cat.length := by omega
      obtain ⟨b, o, B2, cb2, C2, cc2, D2, cd2, rfl, hb0, e0, e1, e2, e3, e4, hrep, -, -, -⟩ := (hA.below HWr).getPkg k hlt
      obtain ⟨b', o', B3, cb3, C3, cc3, D3, cd3, rfl, hb1, g0, g1, g2, g3, g4, hrep2, -, -, -⟩ := (ho9.below hb).getPkg k hlt
      go_wp2
      refine region_quiet (by kernel_rfl) (by kernel_rfl) ?_
      repeat (go_big_quiet_step ((go_at_call 23; exact call_quiet (samePkg_any cat[k] [_, _, _, _, _] [_, _, _, _, _] _ _ _ (hrep2.below (ext_below _ _)) (hrep.below (ext_below _ _))))))
      refine wpQuiet_nil ?_
      intro W1 hw1
      replace hw1 := below_of_ext hw1
      go_wp2
      go_roundw
      case rel => exact ⟨Below.trans0 hb hw1 hb.size, k + 1, by omega, by go_num⟩
      case measure => simp [intOf]; omega
    · have hi := hi9.below hb
      go_wp2_with (first
        | (go_at_call 20; refine (sameInts_any l l A2 B k2 cb _ _ _ hi (h.below HWr)).mono ?_; rintro e w10 ⟨rfl, hw10⟩; rw [decide_eq_true rfl]; have HW := Below.trans0 HWr hw10 HWr.size)
        | (go_at_call 24; refine (works19_any _ (hL.below HW)).mono ?_; rintro e w11 ⟨rfl, hw11⟩; have HW := Below.trans0 HW hw11 HW.size))
      go_ret
      exact ⟨rfl, HW⟩

end Go.Proofs.YteoafnkcplealaaDoor
