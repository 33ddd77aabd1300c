/- Contracts: is it a target? (plan, solve, and the references); its packages. -/
import Derived.Test.YtppbjmhllmaakaaGreatDoorC13
import Derived.Test.YtppbjmhllmaakaaGreatDoorX4
set_option linter.unusedVariables false
-- LOCALWORDS looprefTarget = go_loopw [4, 5] (fun r i wr => r = .bool false ∧ Below w.heap.size w wr ∧ ∃ k : Nat, k ≤ l.length ∧ i = .int .i64 k ∧ -1 ≤ lastOf l k ∧ Hid (tgt cat.length l = tgtFrom cat.length (lastOf l k) (l.drop k))) (fun _ i _ => l.length - (intOf i).toNat)
-- LOCALWORDS loopsolveAims = go_loopw [4, 9] (fun r i wr => r = .bool false ∧ Below w.heap.size w wr ∧ ∃ k : Nat, k ≤ l.length ∧ i = .int .i64 k ∧ -1 ≤ lastOf l k ∧ Hid (tgt n l = tgtFrom n (lastOf l k) (l.drop k))) (fun _ i _ => l.length - (intOf i).toNat)
-- LOCALWORDS looprefTarget20 = go_loopw [4, 5] (fun r i wr => r = .bool false ∧ Below w.heap.size w wr ∧ ∃ k : Nat, k ≤ l.length ∧ i = .int .i64 k ∧ -1 ≤ lastOf l k ∧ Hid (tgt n l = tgtFrom n (lastOf l k) (l.drop k))) (fun _ i _ => l.length - (intOf i).toNat)
-- LOCALWORDS qrefTarget = @quiet{W1 hw1|fail}@ ;; go_wp2
-- LOCALWORDS qrefTarget20 = @quiet{W1 hw1|fail}@ ;; go_wp2
-- LOCALWORDS qsolveAims = skip
namespace Go.Proofs.YtppbjmhllmaakaaGreatDoor
open Go.RowKit

theorem tgt_stop {n : Nat} {l : List Int} {i : Nat} (h : i < l.length) (hp : tgt n l = tgtFrom n (lastOf l i) (l.drop i)) (hb : ¬ (lastOf l i < l[i] ∧ l[i] < n)) : tgt n l = false := by
  rw [hp, tgtFrom_step h]
  by_cases h1 : lastOf l i < l[i]
  · rw [decide_eq_false (p := l[i] < (n : Int)) (fun e => hb ⟨h1, e⟩)]; simp
  · rw [decide_eq_false h1]; rfl
theorem tgt_go {n : Nat} {l : List Int} {i : Nat} (h : i < l.length) (hp : tgt n l = tgtFrom n (lastOf l i) (l.drop i)) (hb : lastOf l i < l[i] ∧ l[i] < n) : tgt n l = tgtFrom n (lastOf l (i + 1)) (l.drop (i + 1)) := by
  rw [hp, tgtFrom_step h, decide_eq_true hb.1, decide_eq_true hb.2, lastOf_succ h]; rfl
theorem tgt_end {n : Nat} {l : List Int} {i : Nat} (h : ¬ i < l.length) (hp : tgt n l = tgtFrom n (lastOf l i) (l.drop i)) : tgt n l = true := by
  rw [hp, tgtFrom_end h]

set_option maxHeartbeats 1000000 in
theorem aims_any (cat : List Pkg) (l : List Int) (A B : Option Addr) (ca cb : Nat) (S T : Nat → Prop) (w : World) (hA : Arr w S A cat) (h : Arr w T B l) :
    Calls Tryz.prog 56 #[.slice A cat.length ca, .slice B l.length cb] w fun e w' => e = .returned (.bool (tgt cat.length l)) ∧ w' = w := by
  have hl := h.len
  have hc := hA.len
  go_enter Tryz.func56, Tryz.ntmps56
  go_wp2
  go_loop [4, 5, 10] (fun r x i => r = .bool false ∧ ∃ k : Nat, k ≤ l.length ∧ i = .int .i64 k ∧ x = .int .i64 (lastOf l k) ∧ Hid (tgt cat.length l = tgtFrom cat.length (lastOf l k) (l.drop k))) (fun _ _ i => l.length - (intOf i).toNat)
  case atStart => exact ⟨rfl, 0, Nat.zero_le _, rfl, rfl, Lib.hid rfl⟩
  case round =>
    obtain ⟨rfl, k, hk, rfl, rfl, hj⟩ := hrel
    by_cases hlt : k < l.length
    · obtain ⟨b, o, rfl, hb, hs, hcc⟩ := h.getI k hlt
      have hls := Lib.hid (lastOf_succ hlt)
      by_cases h1 : l[k] ≤ lastOf l k
      · have fin := Lib.hid (tgt_stop hlt hj.out (by omega))
        go_wp2
        go_ret
        exact ⟨ret_bool fin.out.symm, rfl⟩
      · by_cases h2 : (cat.length : Int) ≤ l[k]
        · have fin := Lib.hid (tgt_stop hlt hj.out (by omega))
          go_wp2
          go_ret
          exact ⟨ret_bool fin.out.symm, rfl⟩
        · have fin := Lib.hid (tgt_go hlt hj.out (by omega))
          go_wp2
          go_round
          case rel => exact ⟨rfl, k + 1, by omega, by go_num, by rw [hls.out], fin⟩
          case measure => simp [intOf]; omega
    · have fin := Lib.hid (tgt_end hlt hj.out)
      go_wp2
      go_ret
      exact ⟨ret_bool fin.out.symm, rfl⟩

theorem lastOf_prev {l : List Int} {k : Nat} (h : 0 < k) (hk : k - 1 < l.length) : lastOf l k = l[k - 1] := by
  obtain ⟨j, rfl⟩ : ∃ j, k = j + 1 := ⟨k - 1, by omega⟩
  exact lastOf_succ hk

set_option maxHeartbeats 2000000 in
theorem refTarget_any (cat : List Pkg) (l : List Int) (A : Option Addr) (ca : Nat) (S : Nat → Prop) (B : Option Addr) (cb : Nat) (T : Nat → Prop) (w : World) (hA : Arr w S A cat) (h : Arr w T B l) :
    Calls Tryz.prog 57 #[.slice A cat.length ca, .slice B l.length cb] w fun e w' => e = .returned (.bool (tgt cat.length l)) ∧ Below w.heap.size w w' := by
  have hl := h.len
  have hn : (cat.length : Int) ≤ 9223372036854775807 := by first | assumption | (have := hA.len; omega)
  go_enter Tryz.func57, Tryz.ntmps57
  go_wp2
  go_loopw [4, 5] (fun r i wr => r = .bool false ∧ Below w.heap.size w wr ∧ ∃ k : Nat, k ≤ l.length ∧ i = .int .i64 k ∧ -1 ≤ lastOf l k ∧ Hid (tgt cat.length l = tgtFrom cat.length (lastOf l k) (l.drop k))) (fun _ i _ => l.length - (intOf i).toNat)
  case atStart => exact ⟨rfl, Below.refl _ _, 0, Nat.zero_le _, rfl, by rw [lastOf_zero]; omega, Lib.hid rfl⟩
  case round =>
    obtain ⟨rfl, hw, k, hk, rfl, hm1, hj⟩ := hrel
    by_cases hlt : k < l.length
    · obtain ⟨b, o, rfl, hb, hs, hcc⟩ := (h.below hw).getI k hlt
      have hls := Lib.hid (lastOf_succ hlt)
      by_cases h1 : l[k] < 0
      · have fin := Lib.hid (tgt_stop hlt hj.out (by omega))
        go_wp2
        refine region_quiet (by kernel_rfl) (by kernel_rfl) ?_
        repeat (go_big_quiet_step (fail))
        refine wpQuiet_nil ?_
        intro W1 hw1
        replace hw1 := below_of_ext hw1
        go_wp2
        go_ret
        exact ⟨ret_bool fin.out.symm, by (repeat (first | exact Below.refl _ _ | assumption | (refine Below.setCell ?_ (by first | omega | (simp; done) | (simp; omega) | exact Below.size (by assumption)) _) | (refine Below.alloc ?_ (by first | omega | (simp; done) | (simp; omega) | exact Below.size (by assumption)) _) | refine Below.drew ?_ | refine Below.trans0 ?_ (by assumption)))⟩
      · by_cases h2 : (cat.length : Int) ≤ l[k]
        · have fin := Lib.hid (tgt_stop hlt hj.out (by omega))
          have h1' : 0 ≤ l[k] := by omega
          have d1 : decide (l[k] < 0) = false := by simp; omega
          clear h1
          go_wp2
          refine region_quiet (by kernel_rfl) (by kernel_rfl) ?_
          repeat (go_big_quiet_step (fail))
          refine wpQuiet_nil ?_
          intro W1 hw1
          replace hw1 := below_of_ext hw1
          go_wp2
          go_ret
          exact ⟨ret_bool fin.out.symm, by (repeat (first | exact Below.refl _ _ | assumption | (refine Below.setCell ?_ (by first | omega | (simp; done) | (simp; omega) | exact Below.size (by assumption)) _) | (refine Below.alloc ?_ (by first | omega | (simp; done) | (simp; omega) | exact Below.size (by assumption)) _) | refine Below.drew ?_ | refine Below.trans0 ?_ (by assumption)))⟩
        · by_cases h0 : k = 0
          · have h00 : lastOf l k = -1 := by rw [h0]; rfl
            have fin := Lib.hid (tgt_go hlt hj.out (by omega))
            have h1' : 0 ≤ l[k] := by omega
            have h2' : l[k] < (cat.length : Int) := by omega
            have d1 : decide (l[k] < 0) = false := by simp; omega
            have d2 : decide ((cat.length : Int) ≤ l[k]) = false := by simp; omega
            have d3 : decide ((0 : Int) < (k : Int)) = false := by simp; omega
            have d3' : decide (0 < k) = false := by simp; omega
            have d4 : ¬ 0 < k := by omega
            clear h1 h2 h00 h0
            go_wp2
            refine region_quiet (by kernel_rfl) (by kernel_rfl) ?_
            repeat (go_big_quiet_step (fail))
            refine wpQuiet_nil ?_
            intro W1 hw1
            replace hw1 := below_of_ext hw1
            go_wp2
            go_roundw
            case rel => exact ⟨rfl, by (repeat (first | exact Below.refl _ _ | assumption | (refine Below.setCell ?_ (by first | omega | (simp; done) | (simp; omega) | exact Below.size (by assumption)) _) | (refine Below.alloc ?_ (by first | omega | (simp; done) | (simp; omega) | exact Below.size (by assumption)) _) | refine Below.drew ?_ | refine Below.trans0 ?_ (by assumption))), k + 1, by omega, by go_num, by rw [hls.out]; omega, fin⟩
            case measure => simp [intOf]; omega
          · have hk1 : k - 1 < l.length := by omega
            have hk0 : (0 : Int) < k := by omega
            have hk0' : 0 < k := by omega
            obtain ⟨b', o', e', hb', hs', hcc'⟩ := (h.below hw).getI (k - 1) hk1
            cases e'
            have hlp := lastOf_prev hk0' hk1
            have h1' : 0 ≤ l[k] := by omega
            have h2' : l[k] < (cat.length : Int) := by omega
            have d1 : decide (l[k] < 0) = false := by simp; omega
            have d2 : decide ((cat.length : Int) ≤ l[k]) = false := by simp; omega
            have d3 : decide ((0 : Int) < (k : Int)) = true := by simp; omega
            have a1 : IntKind.i64.wrap ((k : Int) - 1) = (k : Int) - 1 := IntWalk.i64_in _ (by omega)
            have a2 : (0 : Int) ≤ (k : Int) - 1 := by omega
            have a3 : ((k : Int) - 1).toNat = k - 1 := by omega
            have a4 : (k : Int) - 1 < l.length := by omega
            by_cases h3 : l[k] ≤ l[k - 1]
            · have fin := Lib.hid (tgt_stop hlt hj.out (by omega))
              clear h1 h2 hlp h0 hj
              go_wp2
              refine region_quiet (by kernel_rfl) (by kernel_rfl) ?_
              repeat (go_big_quiet_step (fail))
              refine wpQuiet_nil ?_
              intro W1 hw1
              replace hw1 := below_of_ext hw1
              go_wp2
              go_ret
              exact ⟨ret_bool fin.out.symm, by (repeat (first | exact Below.refl _ _ | assumption | (refine Below.setCell ?_ (by first | omega | (simp; done) | (simp; omega) | exact Below.size (by assumption)) _) | (refine Below.alloc ?_ (by first | omega | (simp; done) | (simp; omega) | exact Below.size (by assumption)) _) | refine Below.drew ?_ | refine Below.trans0 ?_ (by assumption)))⟩
            · have fin := Lib.hid (tgt_go hlt hj.out (by omega))
              clear h1 h2 hlp h0 hj
              go_wp2
              refine region_quiet (by kernel_rfl) (by kernel_rfl) ?_
              repeat (go_big_quiet_step (fail))
              refine wpQuiet_nil ?_
              intro W1 hw1
              replace hw1 := below_of_ext hw1
              go_wp2
              go_roundw
              case rel => exact ⟨rfl, by (repeat (first | exact Below.refl _ _ | assumption | (refine Below.setCell ?_ (by first | omega | (simp; done) | (simp; omega) | exact Below.size (by assumption)) _) | (refine Below.alloc ?_ (by first | omega | (simp; done) | (simp; omega) | exact Below.size (by assumption)) _) | refine Below.drew ?_ | refine Below.trans0 ?_ (by assumption))), k + 1, by omega, by go_num, by rw [hls.out]; omega, fin⟩
              case measure => simp [intOf]; omega
    · have fin := Lib.hid (tgt_end hlt hj.out)
      go_wp2
      go_ret
      exact ⟨ret_bool fin.out.symm, hw⟩

set_option maxHeartbeats 2000000 in
theorem solveAims_any (n : Nat) (l : List Int)  (B : Option Addr) (cb : Nat) (T : Nat → Prop) (w : World) (hn : (n : Int) ≤ 9223372036854775807) (h : Arr w T B l) :
    Calls Tryz.prog 45 #[.int .i64 n, .slice B l.length cb] w fun e w' => e = .returned (.bool (tgt n l)) ∧ Below w.heap.size w w' := by
  have hl := h.len
  have hn : (n : Int) ≤ 9223372036854775807 := by first | assumption | (have := hA.len; omega)
  go_enter Tryz.func45, Tryz.ntmps45
  go_wp2
  go_loopw [4, 9] (fun r i wr => r = .bool false ∧ Below w.heap.size w wr ∧ ∃ k : Nat, k ≤ l.length ∧ i = .int .i64 k ∧ -1 ≤ lastOf l k ∧ Hid (tgt n l = tgtFrom n (lastOf l k) (l.drop k))) (fun _ i _ => l.length - (intOf i).toNat)
  case atStart => exact ⟨rfl, Below.refl _ _, 0, Nat.zero_le _, rfl, by rw [lastOf_zero]; omega, Lib.hid rfl⟩
  case round =>
    obtain ⟨rfl, hw, k, hk, rfl, hm1, hj⟩ := hrel
    by_cases hlt : k < l.length
    · obtain ⟨b, o, rfl, hb, hs, hcc⟩ := (h.below hw).getI k hlt
      have hls := Lib.hid (lastOf_succ hlt)
      by_cases h1 : l[k] < 0
      · have fin := Lib.hid (tgt_stop hlt hj.out (by omega))
        go_wp2
        skip
        go_ret
        exact ⟨ret_bool fin.out.symm, by (repeat (first | exact Below.refl _ _ | assumption | (refine Below.setCell ?_ (by first | omega | (simp; done) | (simp; omega) | exact Below.size (by assumption)) _) | (refine Below.alloc ?_ (by first | omega | (simp; done) | (simp; omega) | exact Below.size (by assumption)) _) | refine Below.drew ?_ | refine Below.trans0 ?_ (by assumption)))⟩
      · by_cases h2 : (n : Int) ≤ l[k]
        · have fin := Lib.hid (tgt_stop hlt hj.out (by omega))
          have h1' : 0 ≤ l[k] := by omega
          have d1 : decide (l[k] < 0) = false := by simp; omega
          clear h1
          go_wp2
          skip
          go_ret
          exact ⟨ret_bool fin.out.symm, by (repeat (first | exact Below.refl _ _ | assumption | (refine Below.setCell ?_ (by first | omega | (simp; done) | (simp; omega) | exact Below.size (by assumption)) _) | (refine Below.alloc ?_ (by first | omega | (simp; done) | (simp; omega) | exact Below.size (by assumption)) _) | refine Below.drew ?_ | refine Below.trans0 ?_ (by assumption)))⟩
        · by_cases h0 : k = 0
          · have h00 : lastOf l k = -1 := by rw [h0]; rfl
            have fin := Lib.hid (tgt_go hlt hj.out (by omega))
            have h1' : 0 ≤ l[k] := by omega
            have h2' : l[k] < (n : Int) := by omega
            have d1 : decide (l[k] < 0) = false := by simp; omega
            have d2 : decide ((n : Int) ≤ l[k]) = false := by simp; omega
            have d3 : decide ((0 : Int) < (k : Int)) = false := by simp; omega
            have d3' : decide (0 < k) = false := by simp; omega
            have d4 : ¬ 0 < k := by omega
            clear h1 h2 h00 h0
            go_wp2
            skip
            go_roundw
            case rel => exact ⟨rfl, by (repeat (first | exact Below.refl _ _ | assumption | (refine Below.setCell ?_ (by first | omega | (simp; done) | (simp; omega) | exact Below.size (by assumption)) _) | (refine Below.alloc ?_ (by first | omega | (simp; done) | (simp; omega) | exact Below.size (by assumption)) _) | refine Below.drew ?_ | refine Below.trans0 ?_ (by assumption))), k + 1, by omega, by go_num, by rw [hls.out]; omega, fin⟩
            case measure => simp [intOf]; omega
          · have hk1 : k - 1 < l.length := by omega
            have hk0 : (0 : Int) < k := by omega
            have hk0' : 0 < k := by omega
            obtain ⟨b', o', e', hb', hs', hcc'⟩ := (h.below hw).getI (k - 1) hk1
            cases e'
            have hlp := lastOf_prev hk0' hk1
            have h1' : 0 ≤ l[k] := by omega
            have h2' : l[k] < (n : Int) := by omega
            have d1 : decide (l[k] < 0) = false := by simp; omega
            have d2 : decide ((n : Int) ≤ l[k]) = false := by simp; omega
            have d3 : decide ((0 : Int) < (k : Int)) = true := by simp; omega
            have a1 : IntKind.i64.wrap ((k : Int) - 1) = (k : Int) - 1 := IntWalk.i64_in _ (by omega)
            have a2 : (0 : Int) ≤ (k : Int) - 1 := by omega
            have a3 : ((k : Int) - 1).toNat = k - 1 := by omega
            have a4 : (k : Int) - 1 < l.length := by omega
            by_cases h3 : l[k] ≤ l[k - 1]
            · have fin := Lib.hid (tgt_stop hlt hj.out (by omega))
              clear h1 h2 hlp h0 hj
              go_wp2
              skip
              go_ret
              exact ⟨ret_bool fin.out.symm, by (repeat (first | exact Below.refl _ _ | assumption | (refine Below.setCell ?_ (by first | omega | (simp; done) | (simp; omega) | exact Below.size (by assumption)) _) | (refine Below.alloc ?_ (by first | omega | (simp; done) | (simp; omega) | exact Below.size (by assumption)) _) | refine Below.drew ?_ | refine Below.trans0 ?_ (by assumption)))⟩
            · have fin := Lib.hid (tgt_go hlt hj.out (by omega))
              clear h1 h2 hlp h0 hj
              go_wp2
              skip
              go_roundw
              case rel => exact ⟨rfl, by (repeat (first | exact Below.refl _ _ | assumption | (refine Below.setCell ?_ (by first | omega | (simp; done) | (simp; omega) | exact Below.size (by assumption)) _) | (refine Below.alloc ?_ (by first | omega | (simp; done) | (simp; omega) | exact Below.size (by assumption)) _) | refine Below.drew ?_ | refine Below.trans0 ?_ (by assumption))), k + 1, by omega, by go_num, by rw [hls.out]; omega, fin⟩
              case measure => simp [intOf]; omega
    · have fin := Lib.hid (tgt_end hlt hj.out)
      go_wp2
      go_ret
      exact ⟨ret_bool fin.out.symm, hw⟩

set_option maxHeartbeats 2000000 in
theorem refTarget20_any (n : Nat) (l : List Int)  (B : Option Addr) (cb : Nat) (T : Nat → Prop) (w : World) (hn : (n : Int) ≤ 9223372036854775807) (h : Arr w T B l) :
    Calls Tryz.prog 50 #[.int .i64 n, .slice B l.length cb] w fun e w' => e = .returned (.bool (tgt n l)) ∧ Below w.heap.size w w' := by
  have hl := h.len
  have hn : (n : Int) ≤ 9223372036854775807 := by first | assumption | (have := hA.len; omega)
  go_enter Tryz.func50, Tryz.ntmps50
  go_wp2
  go_loopw [4, 5] (fun r i wr => r = .bool false ∧ Below w.heap.size w wr ∧ ∃ k : Nat, k ≤ l.length ∧ i = .int .i64 k ∧ -1 ≤ lastOf l k ∧ Hid (tgt n l = tgtFrom n (lastOf l k) (l.drop k))) (fun _ i _ => l.length - (intOf i).toNat)
  case atStart => exact ⟨rfl, Below.refl _ _, 0, Nat.zero_le _, rfl, by rw [lastOf_zero]; omega, Lib.hid rfl⟩
  case round =>
    obtain ⟨rfl, hw, k, hk, rfl, hm1, hj⟩ := hrel
    by_cases hlt : k < l.length
    · obtain ⟨b, o, rfl, hb, hs, hcc⟩ := (h.below hw).getI k hlt
      have hls := Lib.hid (lastOf_succ hlt)
      by_cases h1 : l[k] < 0
      · have fin := Lib.hid (tgt_stop hlt hj.out (by omega))
        go_wp2
        refine region_quiet (by kernel_rfl) (by kernel_rfl) ?_
        repeat (go_big_quiet_step (fail))
        refine wpQuiet_nil ?_
        intro W1 hw1
        replace hw1 := below_of_ext hw1
        go_wp2
        go_ret
        exact ⟨ret_bool fin.out.symm, by (repeat (first | exact Below.refl _ _ | assumption | (refine Below.setCell ?_ (by first | omega | (simp; done) | (simp; omega) | exact Below.size (by assumption)) _) | (refine Below.alloc ?_ (by first | omega | (simp; done) | (simp; omega) | exact Below.size (by assumption)) _) | refine Below.drew ?_ | refine Below.trans0 ?_ (by assumption)))⟩
      · by_cases h2 : (n : Int) ≤ l[k]
        · have fin := Lib.hid (tgt_stop hlt hj.out (by omega))
          have h1' : 0 ≤ l[k] := by omega
          have d1 : decide (l[k] < 0) = false := by simp; omega
          clear h1
          go_wp2
          refine region_quiet (by kernel_rfl) (by kernel_rfl) ?_
          repeat (go_big_quiet_step (fail))
          refine wpQuiet_nil ?_
          intro W1 hw1
          replace hw1 := below_of_ext hw1
          go_wp2
          go_ret
          exact ⟨ret_bool fin.out.symm, by (repeat (first | exact Below.refl _ _ | assumption | (refine Below.setCell ?_ (by first | omega | (simp; done) | (simp; omega) | exact Below.size (by assumption)) _) | (refine Below.alloc ?_ (by first | omega | (simp; done) | (simp; omega) | exact Below.size (by assumption)) _) | refine Below.drew ?_ | refine Below.trans0 ?_ (by assumption)))⟩
        · by_cases h0 : k = 0
          · have h00 : lastOf l k = -1 := by rw [h0]; rfl
            have fin := Lib.hid (tgt_go hlt hj.out (by omega))
            have h1' : 0 ≤ l[k] := by omega
            have h2' : l[k] < (n : Int) := by omega
            have d1 : decide (l[k] < 0) = false := by simp; omega
            have d2 : decide ((n : Int) ≤ l[k]) = false := by simp; omega
            have d3 : decide ((0 : Int) < (k : Int)) = false := by simp; omega
            have d3' : decide (0 < k) = false := by simp; omega
            have d4 : ¬ 0 < k := by omega
            clear h1 h2 h00 h0
            go_wp2
            refine region_quiet (by kernel_rfl) (by kernel_rfl) ?_
            repeat (go_big_quiet_step (fail))
            refine wpQuiet_nil ?_
            intro W1 hw1
            replace hw1 := below_of_ext hw1
            go_wp2
            go_roundw
            case rel => exact ⟨rfl, by (repeat (first | exact Below.refl _ _ | assumption | (refine Below.setCell ?_ (by first | omega | (simp; done) | (simp; omega) | exact Below.size (by assumption)) _) | (refine Below.alloc ?_ (by first | omega | (simp; done) | (simp; omega) | exact Below.size (by assumption)) _) | refine Below.drew ?_ | refine Below.trans0 ?_ (by assumption))), k + 1, by omega, by go_num, by rw [hls.out]; omega, fin⟩
            case measure => simp [intOf]; omega
          · have hk1 : k - 1 < l.length := by omega
            have hk0 : (0 : Int) < k := by omega
            have hk0' : 0 < k := by omega
            obtain ⟨b', o', e', hb', hs', hcc'⟩ := (h.below hw).getI (k - 1) hk1
            cases e'
            have hlp := lastOf_prev hk0' hk1
            have h1' : 0 ≤ l[k] := by omega
            have h2' : l[k] < (n : Int) := by omega
            have d1 : decide (l[k] < 0) = false := by simp; omega
            have d2 : decide ((n : Int) ≤ l[k]) = false := by simp; omega
            have d3 : decide ((0 : Int) < (k : Int)) = true := by simp; omega
            have a1 : IntKind.i64.wrap ((k : Int) - 1) = (k : Int) - 1 := IntWalk.i64_in _ (by omega)
            have a2 : (0 : Int) ≤ (k : Int) - 1 := by omega
            have a3 : ((k : Int) - 1).toNat = k - 1 := by omega
            have a4 : (k : Int) - 1 < l.length := by omega
            by_cases h3 : l[k] ≤ l[k - 1]
            · have fin := Lib.hid (tgt_stop hlt hj.out (by omega))
              clear h1 h2 hlp h0 hj
              go_wp2
              refine region_quiet (by kernel_rfl) (by kernel_rfl) ?_
              repeat (go_big_quiet_step (fail))
              refine wpQuiet_nil ?_
              intro W1 hw1
              replace hw1 := below_of_ext hw1
              go_wp2
              go_ret
              exact ⟨ret_bool fin.out.symm, by (repeat (first | exact Below.refl _ _ | assumption | (refine Below.setCell ?_ (by first | omega | (simp; done) | (simp; omega) | exact Below.size (by assumption)) _) | (refine Below.alloc ?_ (by first | omega | (simp; done) | (simp; omega) | exact Below.size (by assumption)) _) | refine Below.drew ?_ | refine Below.trans0 ?_ (by assumption)))⟩
            · have fin := Lib.hid (tgt_go hlt hj.out (by omega))
              clear h1 h2 hlp h0 hj
              go_wp2
              refine region_quiet (by kernel_rfl) (by kernel_rfl) ?_
              repeat (go_big_quiet_step (fail))
              refine wpQuiet_nil ?_
              intro W1 hw1
              replace hw1 := below_of_ext hw1
              go_wp2
              go_roundw
              case rel => exact ⟨rfl, by (repeat (first | exact Below.refl _ _ | assumption | (refine Below.setCell ?_ (by first | omega | (simp; done) | (simp; omega) | exact Below.size (by assumption)) _) | (refine Below.alloc ?_ (by first | omega | (simp; done) | (simp; omega) | exact Below.size (by assumption)) _) | refine Below.drew ?_ | refine Below.trans0 ?_ (by assumption))), k + 1, by omega, by go_num, by rw [hls.out]; omega, fin⟩
              case measure => simp [intOf]; omega
    · have fin := Lib.hid (tgt_end hlt hj.out)
      go_wp2
      go_ret
      exact ⟨ret_bool fin.out.symm, hw⟩

theorem rep_cast {α : Type} [Cd α] {w : World} {S : Nat → Prop} {x y : α} {vs : List Value} (h : x = y) (hr : Cd.rep w S y vs) : Cd.rep w S x vs := by
  subst h; exact hr
theorem mul_bound {n m b : Nat} (h : n * b ≤ reach) (hm : m ≤ n) : m * b ≤ reach := Nat.le_trans (Nat.mul_le_mul_right b hm) h

/-- .. and there is room for them. -/
theorem Own.rep2 {α : Type} [Cd α] {w : World} {base : Nat} {e : TypeId} {S S' : Nat → Prop} {v : Value} {l : List α} (h : Own w base e S v l) (hS : ∀ b, b < w.heap.size → S b → S' b) (hB : ∀ b, base ≤ b → b < w.heap.size → S' b)
    (hr : l.length * Cd.bytes α ≤ reach) (hl : l.length ≤ 9223372036854775807) : ∃ A cap, v = .slice A l.length cap ∧ Arr w S' A l ∧ l.length ≤ cap := by
  obtain ⟨A, cap, rfl, h2⟩ := h.rep hS hB hr hl
  refine ⟨A, cap, rfl, h2, ?_⟩
  obtain ⟨xs, h1, -⟩ := h
  rcases h1.2 with ⟨e1, h0⟩ | ⟨g, cap', cur, e1, -, -, hnc, -⟩
  · omega
  · cases e1; exact hnc

set_option maxHeartbeats 2000000 in
set_option maxRecDepth 100000 in
theorem planPick_any (cat : List Pkg) (l : List Int) (A B : Option Addr) (ca cb : Nat) (S T : Nat → Prop) (w : World) (hA : Arr w S A cat) (h : Arr w T B l) :
    Calls Tryz.prog 19 #[.slice A cat.length ca, .slice B l.length cb] w fun e w' => Below w.heap.size w w' ∧ ∃ A' c', e = .returned (.slice A' (pick cat l).length c') ∧ Arr w' (Fr w S) A' (pick cat l) ∧ (pick cat l).length ≤ c' := by
  have hl := h.len
  have hc := hA.len
  have hby := hA.1
  have hA' := hA
  replace hA := hA.old
  cases ht : tgt cat.length l
  · have fin := Lib.hid (pick_no ht)
    have Ht := Lib.hid ht
    clear ht
    go_enter Tryz.func19, Tryz.ntmps19
    go_wp2_with (go_at_call 56; refine (aims_any cat l A B ca cb S T _ hA' h).mono ?_; rintro e w1 ⟨rfl, hw1⟩; have hw1' := hw1.symm; clear hw1; subst hw1'; rw [Ht.out])
    go_ret
    exact ⟨Below.refl _ _, none, 0, by rw [fin.out]; rfl, by rw [fin.out]; exact ⟨Arr.nil _ _ _, Nat.le_refl _⟩⟩
  · have fin := Lib.hid (pick_yes ht)
    have hlen := tgt_len ht
    have Ht := Lib.hid ht
    clear ht
    go_enter Tryz.func19, Tryz.ntmps19
    go_wp2_with (go_at_call 56; refine (aims_any cat l A B ca cb S T _ hA' h).mono ?_; rintro e w1 ⟨rfl, hw1⟩; have hw1' := hw1.symm; clear hw1; subst hw1'; rw [Ht.out])
    go_loopw [5, 13] (fun v i wr => Below w.heap.size w wr ∧ ∃ k : Nat, k ≤ l.length ∧ i = .int .i64 k ∧ Own wr w.heap.size 36 (Fr w S) v ((l.take k).map (at0 cat))) (fun _ i _ => l.length - (intOf i).toNat)
    case atStart => exact ⟨Below.refl _ _, 0, Nat.zero_le _, rfl, Own.nil _ _ _ _⟩
    case round =>
      obtain ⟨hb, k, hk, rfl, hown⟩ := hrel
      by_cases hlt : k < l.length
      · obtain ⟨b, o, rfl, hb1, hs, hcc⟩ := (h.below hb).getI k hlt
        have hmem := tgt_mem Ht.out (List.getElem_mem hlt)
        obtain ⟨m0, m1⟩ := hmem
        have m2 : l[k].toNat < cat.length := by omega
        have hat := Lib.hid (at0_get m0 m1)
        obtain ⟨b2, o2, B2, cb2, C2, cc2, D2, cd2, rfl, hb2, g1, g2, g3, g4, g5, hr, -, -, -⟩ := (hA.below hb).getPkg l[k].toNat m2
        have hlm : ((l.take k).map (at0 cat)).length = k := by simp; omega
        have Hlm := Lib.hid hlm
        clear hlm
        have hrep := rep_cast hat.out (hr.mono (S' := fun b => Fr w S b ∧ Value.ownBlock u5 ≠ some b) (fun b _ hbb => ⟨.inl hbb, fun e => by have := hown.block_ge b e; have := hbb.2; omega⟩))
        clear hr
        go_wp2_with (at_builtin; refine Hold.out ?_)
        refine ⟨?_⟩
        refine wpList_own_app rfl _ _ 22 rfl w.heap.size 36 elPkg (Fr w S) u5 _ ?_ (hown.below ((Below.refl _ _).alloc (Nat.le_refl _) _)) ⟨wr.heap.size, 0, none⟩ 1 [at0 cat l[k]] ?_ (Src.one 36 hrep) ?_ ?_ ?_ ?_
        · simp [Act.eval]
        · simp [Act.eval]
        · rw [Hlm.out]; exact app_bound hby (by simp; omega)
        · rw [Hlm.out]; simp; omega
        · have := hb.size; simp; omega
        intro v2 w6 hown6 hg6 hat6
        have hb6 : Below w.heap.size w w6 := (hb.alloc hb.size _).grown hg6 (by have := hb.size; simp; omega) (fun b e => (hown.block_ge _ e).1)
        clear hg6 hat6 hrep hown g1 g2 g3 g4 g5 hcc
        go_wp2
        go_roundw
        case rel => exact ⟨hb6, k + 1, by omega, by go_num, by rw [take_map_succ _ hlt]; exact hown6⟩
        case measure => simp [intOf]; omega
      · rw [List.take_of_length_le (by omega)] at hown
        have hle : (l.map (at0 cat)).length ≤ cat.length := by simp; omega
        obtain ⟨A2, c2, e2, hr⟩ := hown.rep2 (fun b _ h => h) (fun b h _ => .inr h) (mul_bound hby hle) (by omega)
        go_wp2
        go_ret
        exact ⟨hb, A2, c2, by rw [fin.out, ← e2]; rfl, by rw [fin.out]; exact hr⟩

end Go.Proofs.YtppbjmhllmaakaaGreatDoor
