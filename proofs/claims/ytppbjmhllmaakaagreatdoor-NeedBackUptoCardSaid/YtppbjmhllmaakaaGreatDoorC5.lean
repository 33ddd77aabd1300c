/- Contracts: the reference's Met; the program's versions. -/
import Derived.Test.YtppbjmhllmaakaaGreatDoorC4
set_option linter.unusedVariables false
namespace Go.Proofs.YtppbjmhllmaakaaGreatDoor
open Go.RowKit

theorem met_yes {c : Clause} {l : List Pkg} {k m : Nat} (hk : k < l.length) (hm : m < c.any.length) (h : meets c.any[m] l[k] = true) : met c l = !c.neg := by
  unfold met
  rw [any_true hk (any_true hm h)]; simp
theorem met_no {c : Clause} {l : List Pkg} (h : (l.any fun p => c.any.any fun n => meets n p) = false) : met c l = c.neg := by
  unfold met; rw [h]; simp

set_option maxHeartbeats 2000000 in
theorem refMet_any (c : Clause) (l : List Pkg) (va : List Value) (A : Option Addr) (ca : Nat) (S T : Nat → Prop) (w : World) (h : Cd.rep w S c va) (h' : Arr w T A l) :
    Calls Tryz.prog 27 #[.agg va.toArray, .slice A l.length ca] w fun e w' => e = .returned (.bool (met c l)) ∧ Below w.heap.size w w' := by
  obtain ⟨C, cc, rfl, hc⟩ := h
  have hlc := hc.len
  have hll := h'.len
  go_enter Tryz.func27, Tryz.ntmps27
  go_wp2
  have hW : Below w.heap.size w (w.alloc (.cells #[.bool c.neg, .slice C c.any.length cc] 48)) := by (repeat (first | exact Below.refl _ _ | assumption | (refine Below.setCell ?_ (by first | omega | (simp; done) | (simp; omega) | exact Below.size (by assumption)) _) | (refine Below.alloc ?_ (by first | omega | (simp; done) | (simp; omega) | exact Below.size (by assumption)) _) | refine Below.drew ?_ | refine Below.trans0 ?_ (by assumption)))
  have hbox0 : (w.alloc (.cells #[.bool c.neg, .slice C c.any.length cc] 48)).cell? ⟨w.heap.size, 0, none⟩ = some (.bool c.neg) := by simp
  have hbox1 : (w.alloc (.cells #[.bool c.neg, .slice C c.any.length cc] 48)).cell? ⟨w.heap.size, 1, none⟩ = some (.slice C c.any.length cc) := by simp
  have z0 : w.heap.size < (w.alloc (.cells #[.bool c.neg, .slice C c.any.length cc] 48)).heap.size := by simp
  generalize (w.alloc (.cells #[.bool c.neg, .slice C c.any.length cc] 48)) = w1 at *
  go_loopw [4, 5, 6] (fun r i j wr => r = .bool false ∧ Below w1.heap.size w1 wr ∧ ∃ k : Nat, k ≤ l.length ∧ i = .int .i64 k ∧ AllTo (fun p => !(c.any.any fun n => meets n p)) l k) (fun _ i _ _ => l.length - (intOf i).toNat)
  case atStart => exact ⟨rfl, Below.refl _ _, 0, Nat.zero_le _, rfl, AllTo.zero _ _⟩
  case round =>
    obtain ⟨rfl, hb, k, hk, rfl, hj⟩ := hrel
    have Hj := Lib.hid hj
    clear hj
    obtain ⟨q1, -⟩ := bcell hb
    rw [← q1 _ _ z0] at hbox0 hbox1
    clear q1
    have z1 := Nat.lt_of_lt_of_le z0 hb.size
    have hw2 := hW.trans (hb.mono hW.size)
    by_cases hlt : k < l.length
    · go_wp2
      go_loopw [4, 6] (fun r j w2 => r = .bool false ∧ Below wr.heap.size wr w2 ∧ ∃ m : Nat, m ≤ c.any.length ∧ j = .int .i64 m ∧ AllTo (fun n => !meets n l[k]) c.any m) (fun _ j _ => c.any.length - (intOf j).toNat)
      case atStart => exact ⟨rfl, Below.refl _ _, 0, Nat.zero_le _, rfl, AllTo.zero _ _⟩
      case round =>
        obtain ⟨rfl, hx, m, hm, rfl, hj⟩ := hrel
        have Hm := Lib.hid hj
        clear hj
        obtain ⟨q1, -⟩ := bcell hx
        rw [← q1 _ _ z1] at hbox0 hbox1
        clear q1
        have z2 := Nat.lt_of_lt_of_le z1 hx.size
        have hw3 := hw2.trans (hx.mono hw2.size)
        by_cases hmt : m < c.any.length
        · obtain ⟨b3, o3, B3, c3, rfl, hb3, hc31, hc32, hc33, hc34, hn1⟩ := (hc.below hw3).getNeed m hmt
          obtain ⟨b4, o4, B4, c4, C4, d4, D4, e4, rfl, hb4, hc41, hc42, hc43, hc44, hc45, hp1, -, -, -⟩ := (h'.below hw3).getPkg k hlt
          cases hv : meets c.any[m] l[k]
          all_goals
            have Hv := Lib.hid hv
            clear hv
            go_wp2
            refine region_quiet (by kernel_rfl) (by kernel_rfl) ?_
            repeat (go_big_quiet_step ((go_at_call 29; exact call_quiet (Hv.out ▸ refMeets_any c.any[m] l[k] [_, _, _, _] [_, _, _, _, _] S T _ (hn1.below (ext_below _ _)) (hp1.below (ext_below _ _))))))
            refine wpQuiet_nil ?_
            intro W2 hw4
            replace hw4 := below_of_ext hw4
          · go_wp2
            go_roundw
            case rel => exact ⟨rfl, hx.trans (hw4.mono hx.size), m + 1, by omega, by go_num, AllTo.succ hmt Hm.out (by rw [Hv.out]; rfl)⟩
            case measure => simp [intOf]; omega
          · have fin := Lib.hid (met_yes hlt hmt Hv.out)
            obtain ⟨q1, -⟩ := bcell hw4
            rw [← q1 _ _ z2] at hbox0 hbox1
            clear q1
            go_wp2
            go_ret
            exact ⟨ret_bool fin.out.symm, hw3.trans (hw4.mono hw3.size)⟩
        · go_wp2
          go_roundw
          case rel => exact ⟨rfl, hb.trans (hx.mono hb.size), k + 1, by omega, by go_num, AllTo.succ hlt Hj.out (by rw [Hm.out.none hmt]; rfl)⟩
          case measure => simp [intOf]; omega
    · have fin := Lib.hid (met_no (c := c) (Hj.out.none hlt))
      go_wp2
      go_ret
      exact ⟨ret_bool fin.out.symm, hw2⟩

/-! ### The program's versions -/
def cmpI (a b : Int) : Int := if a < b then -1 else if b < a then 1 else 0
def cmpS (a b : ByteArray) : Int := if Op.bytesLess a.toList b.toList then -1 else if a.toList == b.toList then 0 else 1

set_option maxHeartbeats 400000 in
theorem cmpI_any (a b : Int) (w : World) : Calls Tryz.prog 179 #[.int .i64 a, .int .i64 b] w fun e w' => e = .returned (.int .i64 (cmpI a b)) ∧ w' = w := by
  have e1 : (a != a) = false := by simp
  have e2 : (b != b) = false := by simp
  by_cases h1 : a < b
  · have fin := Lib.hid (show cmpI a b = -1 from if_pos h1)
    go_enter Tryz.func179, Tryz.ntmps179
    go_wp2
    go_ret
    exact ⟨ret_int fin.out.symm, rfl⟩
  · by_cases h2 : b < a
    · have fin := Lib.hid (show cmpI a b = 1 by unfold cmpI; rw [if_neg h1, if_pos h2])
      go_enter Tryz.func179, Tryz.ntmps179
      go_wp2
      go_ret
      exact ⟨ret_int fin.out.symm, rfl⟩
    · have fin := Lib.hid (show cmpI a b = 0 by unfold cmpI; rw [if_neg h1, if_neg h2])
      go_enter Tryz.func179, Tryz.ntmps179
      go_wp2
      go_ret
      exact ⟨ret_int fin.out.symm, rfl⟩

set_option maxHeartbeats 400000 in
theorem cmpS_any (a b : ByteArray) (w : World) : Calls Tryz.prog 180 #[.string a, .string b] w fun e w' => e = .returned (.int .i64 (cmpS a b)) ∧ w' = w := by
  have e1 : (a.toList == a.toList) = true := by simp
  have e2 : (b.toList == b.toList) = true := by simp
  have fin := Lib.hid (show cmpS a b = _ from rfl)
  go_enter Tryz.func180, Tryz.ntmps180
  go_wp2
  all_goals
    go_ret
    refine ⟨ret_int ?_, rfl⟩
    unfold cmpS
    simp_all

end Go.Proofs.YtppbjmhllmaakaaGreatDoor
