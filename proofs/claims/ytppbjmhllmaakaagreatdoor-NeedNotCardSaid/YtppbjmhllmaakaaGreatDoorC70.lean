/- Contract: the chapter's example (the statements of layer 18). -/
import Derived.Test.YtppbjmhllmaakaaGreatDoorC69
set_option linter.unusedVariables false
namespace Go.Proofs.YtppbjmhllmaakaaGreatDoor
open Go.RowKit

theorem ex_told' : txt (clausesTold exClauses) = ⟨#[97, 62, 61, 49, 46, 50, 124, 98, 44, 32, 33, 99]⟩ := ex_told
theorem ex_met1 : met exClauses[1] [] = true := rfl
theorem ex_met0 : met exClauses[0] [] = false := rfl

set_option maxHeartbeats 0 in
set_option maxRecDepth 100000 in
theorem works18_any (w : World) (hN : LaidN w) : Calls Tryz.prog 30 #[] w fun e w' => e = .returned (.bool true) ∧ Below w.heap.size w w' := by
  have hpa := Lib.hid (parse_any exText w (by decide) hN)
  go_enter Tryz.func30, Tryz.ntmps30
  go_wp2_with fail
  change Calls Tryz.prog 32 #[.string exText] w _
  refine hpa.out.mono ?_
  intro e w1 hr
  obtain ⟨hw1, hr⟩ := hr
  rw [ex_parse] at hr
  obtain ⟨A, c, rfl, hA⟩ := hr
  change Arr w1 _ A exClauses at hA
  have hpr := Lib.hid (print_any exClauses A c _ w1 hA (hN.below hw1))
  rw [ex_told', ex_ok] at hpr
  clear hpa
  go_wp2_with fail
  change Calls Tryz.prog 31 #[.slice A exClauses.length c] w1 _
  refine hpr.out.mono ?_
  rintro e w2 ⟨rfl, hw2⟩
  replace hA := hA.below hw2
  have B2 := Below.trans0 hw1 hw2 hw1.size
  clear hpr hw1 hw2
  obtain ⟨b0, o0, N0, k0, rfl, hb0, e0, e1, hrep0, hany0⟩ := hA.getClause 0 (by decide)
  obtain ⟨b1, o1, N1, k1, e, hb1, f0, f1, hrep1, hany1⟩ := hA.getClause 1 (by decide)
  cases e
  obtain ⟨bn, on, P0, p0, e, hbn, n0, n1, n2, n3, -⟩ := hany0.getNeed 0 (by decide)
  subst e
  change w2.cell? ⟨b0, o0 + 0 * 2, none⟩ = some (.bool false) at e0
  change w2.cell? ⟨b0, o0 + 0 * 2 + 1, none⟩ = some (.slice (some ⟨bn, on, none⟩) 2 k0) at e1
  change w2.cell? ⟨b0, o0 + 1 * 2, none⟩ = some (.bool true) at f0
  change w2.cell? ⟨b0, o0 + 1 * 2 + 1, none⟩ = some (.slice N1 1 k1) at f1
  change w2.cell? ⟨bn, on + 0 * 4 + 1, none⟩ = some (.int .i64 5) at n1
  have hm1 := Lib.hid (fun W (h : Below w2.heap.size w2 W) => met_any exClauses[1] [] [.bool true, .slice N1 1 k1] none 0 _ (fun _ => True) W (hrep1.below h) (Arr.nil _ _ _))
  have hm0 := Lib.hid (fun W (h : Below w2.heap.size w2 W) => met_any exClauses[0] [] [.bool false, .slice (some ⟨bn, on, none⟩) 2 k0] none 0 _ (fun _ => True) W (hrep0.below h) (Arr.nil _ _ _))
  rw [Nat.zero_mul, Nat.add_zero] at e0 e1
  rw [Nat.one_mul] at f0 f1
  rw [Nat.zero_mul, Nat.add_zero] at n1
  clear n0 n2 n3 hrep0 hrep1 hany0 hany1
  go_wp2_with fail
  refine (hm1.out _ (Below.refl _ _)).mono ?_
  rintro e w3 ⟨rfl, hw3⟩
  rw [ex_met1]
  replace e0 := (World.cell?_of_block (hw3.block _ hb0)).trans e0
  replace e1 := (World.cell?_of_block (hw3.block _ hb0)).trans e1
  have hb3 : b0 < w3.heap.size := Nat.lt_of_lt_of_le hb0 hw3.size
  clear hm1
  go_wp2_with fail
  refine (hm0.out _ hw3).mono ?_
  rintro e w4 ⟨rfl, hw4⟩
  rw [ex_met0]
  clear hm0
  go_wp2
  go_ret
  exact ⟨rfl, Below.trans0 (Below.trans0 B2 hw3 B2.size) hw4 (Nat.le_trans B2.size hw3.size)⟩

end Go.Proofs.YtppbjmhllmaakaaGreatDoor
