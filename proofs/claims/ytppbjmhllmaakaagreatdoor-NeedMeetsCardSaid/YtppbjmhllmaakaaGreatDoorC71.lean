/- Contract: NeedMeets. -/
import Derived.Test.YtppbjmhllmaakaaGreatDoorC70
set_option linter.unusedVariables false
namespace Go.Proofs.YtppbjmhllmaakaaGreatDoor
open Go.RowKit

set_option maxHeartbeats 0 in
set_option maxRecDepth 100000 in
theorem needMeets_any (l : List Clause) (p : List Pkg) (A B : Option Addr) (ca cb : Nat) (S T : Nat → Prop) (w : World) (hA : Arr w S A l) (hB : Arr w T B p) (hN : LaidN w) :
    Calls Tryz.prog 5 #[.slice A l.length ca, .slice B p.length cb] w fun e w' => e = .returned (.bool true) ∧ Below w.heap.size w w' := by
  have hal := hA.len
  have hbl := hB.len
  go_enter Tryz.func5, Tryz.ntmps5
  go_wp2
  go_loopw [5, 6, 7] (fun i k j wr => Below w.heap.size w wr ∧ ∃ a : Nat, a ≤ l.length ∧ i = .int .i64 a) (fun i _ _ _ => l.length - (intOf i).toNat)
  case atStart => exact ⟨Below.refl _ _, 0, Nat.zero_le _, rfl⟩
  case round =>
    obtain ⟨hb, a, ha, rfl⟩ := hrel
    by_cases hlt : a < l.length
    · have hlt' : (a : Int) < l.length := by omega
      obtain ⟨b1, o1, N1, k1, rfl, hb1, e0, e1, hrep, hany⟩ := (hA.below hb).getClause a hlt
      have hpr := hB.below hb
      have hkl := hany.len
      have hmm : (met l[a] p != met l[a] p) = false := by simp
      obtain ⟨wo, hwo⟩ : ∃ wo : World, wo = wr := ⟨_, rfl⟩
      subst hwo
      go_wp2
      refine region_quiet (by kernel_rfl) (by kernel_rfl) ?_
      repeat (go_big_quiet_step ((first | (go_at_call 26; exact call_quiet (met_any l[a] p [_, _] B cb _ _ _ (hrep.below (ext_below _ _)) (hpr.below (ext_below _ _)))) | (go_at_call 27; exact call_quiet (refMet_any l[a] p [_, _] B cb _ _ _ (hrep.below (ext_below _ _)) (hpr.below (ext_below _ _)))))))
      refine wpQuiet_nil ?_
      intro W1 hw1
      replace hw1 := below_of_ext hw1
      have BW := Below.trans0 hb hw1 hb.size
      go_wp2
      go_loopw [6, 7] (fun k j w2 => Below w.heap.size w w2 ∧ ∃ c : Nat, c ≤ l[a].any.length ∧ k = .int .i64 c) (fun k _ _ => l[a].any.length - (intOf k).toNat)
      case atStart => exact ⟨BW, 0, Nat.zero_le _, rfl⟩
      case round =>
        obtain ⟨hb2, c, hc, rfl⟩ := hrel
        obtain ⟨b2, o2, N2, k2, e, hbb2, f0, f1, -, hany2⟩ := (hA.below hb2).getClause a hlt
        cases e
        by_cases hct : c < l[a].any.length
        · go_wp2
          go_loopw [7] (fun j w3 => Below w.heap.size w w3 ∧ ∃ d : Nat, d ≤ p.length ∧ j = .int .i64 d) (fun j _ => p.length - (intOf j).toNat)
          case atStart => exact ⟨hb2, 0, Nat.zero_le _, rfl⟩
          case round =>
            obtain ⟨hb3, d, hd, rfl⟩ := hrel
            obtain ⟨b3, o3, N3, k3, e, hbb3, g0, g1, -, hany3⟩ := (hA.below hb3).getClause a hlt
            cases e
            by_cases hdt : d < p.length
            · have hlt2 : (a : Int) < l.length := by omega
              have hct2 : (c : Int) < l[a].any.length := by omega
              have hdt2 : (d : Int) < p.length := by omega
              obtain ⟨b4, o4, P4, p4, e, hbb4, n0, n1, n2, n3, hrn⟩ := hany3.getNeed c hct
              subst e
              obtain ⟨b5, o5, B5, c5, C5, cc5, D5, cd5, rfl, hbb5, m0, m1, m2, m3, m4, hrp, -, -, -⟩ := (hB.below hb3).getPkg d hdt
              have hmm2 : (meets l[a].any[c] p[d] != meets l[a].any[c] p[d]) = false := by simp
              go_wp2
              refine region_quiet (by kernel_rfl) (by kernel_rfl) ?_
              repeat (go_big_quiet_step ((first | (go_at_call 28; exact call_quiet (meets_any l[a].any[c] p[d] [_, _, _, _] [_, _, _, _, _] _ _ _ (hrn.below (ext_below _ _)) (hrp.below (ext_below _ _)))) | (go_at_call 29; exact call_quiet (refMeets_any l[a].any[c] p[d] [_, _, _, _] [_, _, _, _, _] _ _ _ (hrn.below (ext_below _ _)) (hrp.below (ext_below _ _)))))))
              refine wpQuiet_nil ?_
              intro W3 hw3
              replace hw3 := below_of_ext hw3
              go_wp2
              go_roundw
              case rel => exact ⟨Below.trans0 hb3 hw3 hb3.size, d + 1, by omega, by go_num⟩
              case measure => simp [intOf]; omega
            · go_wp2
              go_roundw
              case rel => exact ⟨hb3, c + 1, by omega, by go_num⟩
              case measure => simp [intOf]; omega
        · go_wp2
          go_roundw
          case rel => exact ⟨hb2, a + 1, by omega, by go_num⟩
          case measure => simp [intOf]; omega
    · go_wp2_with fail
      refine (works18_any _ (hN.below hb)).mono ?_
      rintro e w2 ⟨rfl, hw2⟩
      go_wp2
      go_ret
      exact ⟨rfl, Below.trans0 hb hw2 hb.size⟩

end Go.Proofs.YtppbjmhllmaakaaGreatDoor
