/- Contracts: the references of the layer need, on. -/
import Derived.Test.YtppbjmhllmaakaaGreatDoorC2
set_option linter.unusedVariables false
namespace Go.Proofs.YtppbjmhllmaakaaGreatDoor
open Go.RowKit

theorem wordS_lo {op : Int} (h : op < 0) : wordS op = ⟨#[63]⟩ := by
  unfold wordS; repeat rw [if_neg (by omega)]
theorem wordS_hi {op : Int} (h : 6 < op) : wordS op = ⟨#[63]⟩ := by
  unfold wordS; repeat rw [if_neg (by omega)]

set_option maxHeartbeats 2000000 in
theorem refWord_any (op : Int) (w : World) :
    Calls Tryz.prog 85 #[.int .i64 op] w fun e w' => e = .returned (.string (wordS op)) ∧ Below w.heap.size w w' := by
  by_cases h0 : op < 0
  · have e := Lib.hid (wordS_lo h0)
    go_enter Tryz.func85, Tryz.ntmps85
    go_wp2
    go_ret
    exact ⟨by rw [e.out]; rfl, by (repeat (first | exact Below.refl _ _ | assumption | (refine Below.setCell ?_ (by first | omega | (simp; done) | (simp; omega) | exact Below.size (by assumption)) _) | (refine Below.alloc ?_ (by first | omega | (simp; done) | (simp; omega) | exact Below.size (by assumption)) _) | refine Below.drew ?_ | refine Below.trans0 ?_ (by assumption)))⟩
  · by_cases h1 : 6 < op
    · have e := Lib.hid (wordS_hi h1)
      go_enter Tryz.func85, Tryz.ntmps85
      go_wp2
      go_ret
      exact ⟨by rw [e.out]; rfl, by (repeat (first | exact Below.refl _ _ | assumption | (refine Below.setCell ?_ (by first | omega | (simp; done) | (simp; omega) | exact Below.size (by assumption)) _) | (refine Below.alloc ?_ (by first | omega | (simp; done) | (simp; omega) | exact Below.size (by assumption)) _) | refine Below.drew ?_ | refine Below.trans0 ?_ (by assumption)))⟩
    · have : op = 0 ∨ op = 1 ∨ op = 2 ∨ op = 3 ∨ op = 4 ∨ op = 5 ∨ op = 6 := by omega
      clear h0 h1
      rcases this with rfl | rfl | rfl | rfl | rfl | rfl | rfl
      all_goals
        go_enter Tryz.func85, Tryz.ntmps85
        go_wp2
        go_ret
        exact ⟨by first | rfl | (simp [wordS]; done), by (repeat (first | exact Below.refl _ _ | assumption | (refine Below.setCell ?_ (by first | omega | (simp; done) | (simp; omega) | exact Below.size (by assumption)) _) | (refine Below.alloc ?_ (by first | omega | (simp; done) | (simp; omega) | exact Below.size (by assumption)) _) | refine Below.drew ?_ | refine Below.trans0 ?_ (by assumption)))⟩

theorem needOk_no {n : Need} (h : nameOk n.name = false) : needOk n = false := by unfold needOk; rw [h]; rfl
theorem needOk_any {n : Need} (h : nameOk n.name = true) (h0 : n.op = 0) : needOk n = (n.ver.parts.isEmpty && n.ver.tail.toList.isEmpty) := by unfold needOk; rw [h, if_pos h0, ByteArray.toList_eq]; rfl
theorem needOk_op {n : Need} (h : nameOk n.name = true) (h0 : n.op ≠ 0) : needOk n = (decide (1 ≤ n.op) && decide (n.op ≤ 6) && verOk n.ver) := by unfold needOk; rw [h, if_neg h0]; rfl

set_option maxHeartbeats 2000000 in
theorem refNeed_any (n : Need) (va : List Value) (S : Nat → Prop) (w : World) (h : Cd.rep w S n va) :
    Calls Tryz.prog 89 #[.agg va.toArray] w fun e w' => e = .returned (.bool (needOk n)) ∧ Below w.heap.size w w' := by
  obtain ⟨A, ca, rfl, hn, ho, ha, hta⟩ := h
  have hla := ha.len
  cases hk : nameOk n.name
  · have fin := Lib.hid (needOk_no hk)
    have Hk := Lib.hid hk
    clear hk
    go_enter Tryz.func89, Tryz.ntmps89
    go_wp2_with (go_at_call 39; refine (refName_any _ _ hn).mono ?_; rintro e w1 ⟨rfl, hw1⟩; rw [Hk.out])
    go_ret
    exact ⟨ret_bool fin.out.symm, by (repeat (first | exact Below.refl _ _ | assumption | (refine Below.setCell ?_ (by first | omega | (simp; done) | (simp; omega) | exact Below.size (by assumption)) _) | (refine Below.alloc ?_ (by first | omega | (simp; done) | (simp; omega) | exact Below.size (by assumption)) _) | refine Below.drew ?_ | refine Below.trans0 ?_ (by assumption)))⟩
  · have Hk := Lib.hid hk
    by_cases h0 : n.op = 0
    · have fin := Lib.hid (needOk_any hk h0)
      have h0' : (n.op == 0) = true := by simp [h0]
      clear hk h0
      go_enter Tryz.func89, Tryz.ntmps89
      go_wp2_with (go_at_call 39; refine (refName_any _ _ hn).mono ?_; rintro e w1 ⟨rfl, hw1⟩; rw [Hk.out]; have z0 : w.heap.size < w1.heap.size := (by have := hw1.size; simp at this; omega); obtain ⟨q1, -⟩ := bcell hw1)
      all_goals
        go_ret
        refine ⟨ret_bool ?_, by (repeat (first | exact Below.refl _ _ | assumption | (refine Below.setCell ?_ (by first | omega | (simp; done) | (simp; omega) | exact Below.size (by assumption)) _) | (refine Below.alloc ?_ (by first | omega | (simp; done) | (simp; omega) | exact Below.size (by assumption)) _) | refine Below.drew ?_ | refine Below.trans0 ?_ (by assumption)))⟩
        rw [fin.out]
      all_goals simp [*]
    · have fin := Lib.hid (needOk_op hk h0)
      have h0' : (n.op == 0) = false := by simp [h0]
      clear hk
      by_cases h1 : 1 ≤ n.op ∧ n.op ≤ 6
      · have hword : (wordS n.op).toList ≠ [63] := by
          have : n.op = 1 ∨ n.op = 2 ∨ n.op = 3 ∨ n.op = 4 ∨ n.op = 5 ∨ n.op = 6 := by omega
          rcases this with e | e | e | e | e | e <;> rw [e] <;> decide +kernel
        clear h0
        cases hv : verOk n.ver
        all_goals
          have Hv := Lib.hid hv
          clear hv
          go_enter Tryz.func89, Tryz.ntmps89
          go_wp2_with (go_at_call 39; refine (refName_any _ _ hn).mono ?_; rintro e w1 ⟨rfl, hw1⟩; rw [Hk.out]; have z0 : w.heap.size < w1.heap.size := (by have := hw1.size; simp at this; omega); obtain ⟨q1, -⟩ := bcell hw1)
          go_wp2_with (go_at_call 85; refine (refWord_any _ _).mono ?_; rintro e w2 ⟨rfl, hw2⟩; have z1 : w.heap.size < w2.heap.size := (by have := hw2.size; omega); obtain ⟨q2, -⟩ := bcell hw2)
          have hb1 : Below w.heap.size w w1 := by (repeat (first | exact Below.refl _ _ | assumption | (refine Below.setCell ?_ (by first | omega | (simp; done) | (simp; omega) | exact Below.size (by assumption)) _) | (refine Below.alloc ?_ (by first | omega | (simp; done) | (simp; omega) | exact Below.size (by assumption)) _) | refine Below.drew ?_ | refine Below.trans0 ?_ (by assumption)))
          have hb2 := hb1.trans (hw2.mono hb1.size)
          go_wp2_with (go_at_call 104; refine (refCheckV_any n.ver [_, _] S _ ⟨_, _, rfl, ha.below hb2, hta⟩).mono ?_; rintro e w3 ⟨rfl, hw3⟩; rw [Hv.out])
          go_ret
          refine ⟨ret_bool ?_, hb2.trans (hw3.mono hb2.size)⟩
          rw [fin.out, Hv.out, decide_eq_true h1.1, decide_eq_true h1.2]; first | rfl | simp [hword]
      · have hword : (wordS n.op).toList = [63] := by
          by_cases h2 : n.op < 0
          · rw [wordS_lo h2]; decide +kernel
          · rw [wordS_hi (by omega)]; decide +kernel
        have fin2 : needOk n = false := by
          rw [fin.out]
          by_cases h2 : 1 ≤ n.op
          · rw [decide_eq_false (p := n.op ≤ 6) (by omega)]; simp
          · rw [decide_eq_false h2]; rfl
        have Fin2 := Lib.hid fin2
        clear fin2 h0 h1
        go_enter Tryz.func89, Tryz.ntmps89
        go_wp2_with (go_at_call 39; refine (refName_any _ _ hn).mono ?_; rintro e w1 ⟨rfl, hw1⟩; rw [Hk.out]; have z0 : w.heap.size < w1.heap.size := (by have := hw1.size; simp at this; omega); obtain ⟨q1, -⟩ := bcell hw1)
        go_wp2_with (go_at_call 85; refine (refWord_any _ _).mono ?_; rintro e w2 ⟨rfl, hw2⟩; have z1 : w.heap.size < w2.heap.size := (by have := hw2.size; omega); obtain ⟨q2, -⟩ := bcell hw2)
        have hb1 : Below w.heap.size w w1 := by (repeat (first | exact Below.refl _ _ | assumption | (refine Below.setCell ?_ (by first | omega | (simp; done) | (simp; omega) | exact Below.size (by assumption)) _) | (refine Below.alloc ?_ (by first | omega | (simp; done) | (simp; omega) | exact Below.size (by assumption)) _) | refine Below.drew ?_ | refine Below.trans0 ?_ (by assumption)))
        go_ret
        exact ⟨ret_bool Fin2.out.symm, hb1.trans (hw2.mono hb1.size)⟩

/-- What is proved of each need, clause. -/
theorem clauseOk_iff (c : Clause) : clauseOk c = true ↔ 1 ≤ c.any.length ∧ c.any.length ≤ 8 ∧ c.any.all needOk = true := by
  unfold clauseOk; simp [and_assoc]
theorem clausesOk_false {l : List Clause} {k : Nat} (hk : k < l.length) (h : clauseOk l[k] = false) : clausesOk l = false := by
  unfold clausesOk; rw [all_false hk h]; simp

set_option maxHeartbeats 2000000 in
theorem refCheckC_any (l : List Clause) (A : Option Addr) (ca : Nat) (S : Nat → Prop) (w : World) (h : Arr w S A l) :
    Calls Tryz.prog 37 #[.slice A l.length ca] w fun e w' => e = .returned (.int .i64 (okE (clausesOk l) 180)) ∧ Below w.heap.size w w' := by
  have hl := h.len
  go_enter Tryz.func37, Tryz.ntmps37
  go_wp2
  go_loopw [2, 3, 4] (fun r i j wr => r = .int .i64 0 ∧ Below w.heap.size w wr ∧ ∃ k : Nat, k ≤ l.length ∧ i = .int .i64 k ∧ AllTo clauseOk l k) (fun _ i _ _ => l.length - (intOf i).toNat)
  case atStart => exact ⟨rfl, Below.refl _ _, 0, Nat.zero_le _, rfl, AllTo.zero _ _⟩
  case round =>
    obtain ⟨rfl, hb, k, hk, rfl, hj⟩ := hrel
    have Hj := Lib.hid hj
    clear hj
    by_cases hlt : k < l.length
    · obtain ⟨b1, o1, B1, c1, rfl, hb1, hc11, hc12, -, hr1⟩ := (h.below hb).getClause k hlt
      have hll := hr1.len
      by_cases g1 : l[k].any.length < 1
      · have fin := Lib.hid (clausesOk_false hlt (by rw [← Bool.not_eq_true, clauseOk_iff]; omega))
        go_wp2
        go_ret
        exact ⟨ret_int (by rw [fin.out]; rfl), hb⟩
      · by_cases g2 : 8 < l[k].any.length
        · have fin := Lib.hid (clausesOk_false hlt (by rw [← Bool.not_eq_true, clauseOk_iff]; omega))
          go_wp2
          go_ret
          exact ⟨ret_int (by rw [fin.out]; rfl), hb⟩
        · go_wp2
          go_loopw [2, 4] (fun r j w2 => r = .int .i64 0 ∧ Below wr.heap.size wr w2 ∧ ∃ m : Nat, m ≤ l[k].any.length ∧ j = .int .i64 m ∧ AllTo needOk l[k].any m) (fun _ j _ => l[k].any.length - (intOf j).toNat)
          case atStart => exact ⟨rfl, Below.refl _ _, 0, Nat.zero_le _, rfl, AllTo.zero _ _⟩
          case round =>
            obtain ⟨rfl, hx, m, hm, rfl, hj⟩ := hrel
            have Hm := Lib.hid hj
            clear hj
            obtain ⟨q1, -⟩ := bcell hx
            rw [← q1 _ _ hb1] at hc11 hc12
            clear q1
            by_cases hmt : m < l[k].any.length
            · obtain ⟨b3, o3, B3, c3, rfl, hb3, hc31, hc32, hc33, hc34, hn1⟩ := (hr1.below hx).getNeed m hmt
              cases hv : needOk l[k].any[m]
              · have fin := Lib.hid (clausesOk_false hlt (by rw [← Bool.not_eq_true, clauseOk_iff]; rintro ⟨-, -, h3⟩; rw [all_false hmt hv] at h3; cases h3))
                have Hv := Lib.hid hv
                clear hv
                go_wp2_with (go_at_call 89; refine (refNeed_any _ [_, _, _, _] S _ hn1).mono ?_; rintro e w3 ⟨rfl, hw3⟩; rw [Hv.out])
                go_ret
                exact ⟨ret_int (by rw [fin.out]; rfl), hb.trans ((hx.trans (hw3.mono hx.size)).mono hb.size)⟩
              · have Hv := Lib.hid hv
                clear hv
                go_wp2_with (go_at_call 89; refine (refNeed_any _ [_, _, _, _] S _ hn1).mono ?_; rintro e w3 ⟨rfl, hw3⟩; rw [Hv.out])
                go_roundw
                case rel => exact ⟨rfl, hx.trans (hw3.mono hx.size), m + 1, by omega, by go_num, AllTo.succ hmt Hm.out Hv.out⟩
                case measure => simp [intOf]; omega
            · go_wp2
              go_roundw
              case rel => exact ⟨rfl, hb.trans (hx.mono hb.size), k + 1, by omega, by go_num, AllTo.succ hlt Hj.out ((clauseOk_iff _).2 ⟨by omega, by omega, Hm.out.all hmt⟩)⟩
              case measure => simp [intOf]; omega
    · have fin : clausesOk l = decide (l.length ≤ 32) := by unfold clausesOk; rw [Hj.out.all hlt]; simp
      by_cases g : 32 < l.length
      · have Fin := Lib.hid (fin.trans (decide_eq_false (by omega)))
        clear fin
        go_wp2
        go_ret
        exact ⟨ret_int (by rw [Fin.out]; rfl), hb⟩
      · have Fin := Lib.hid (fin.trans (decide_eq_true (by omega)))
        clear fin
        go_wp2
        go_ret
        exact ⟨ret_int (by rw [Fin.out]; rfl), hb⟩

end Go.Proofs.YtppbjmhllmaakaaGreatDoor
