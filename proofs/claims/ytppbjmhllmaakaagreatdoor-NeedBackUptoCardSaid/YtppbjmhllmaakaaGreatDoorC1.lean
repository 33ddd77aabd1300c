/- Contracts: the shared helpers of the statements (sutlerbase) that only read. -/
import Derived.Test.YtppbjmhllmaakaaGreatDoorRows
import Derived.Test.YtppbjmhllmaakaaGreatDoorX1
import Derived.BigQuiet
import Derived.Outline
set_option linter.unusedVariables false
namespace Go.Proofs.YtppbjmhllmaakaaGreatDoor
open Go.RowKit

set_option maxHeartbeats 400000 in
theorem hasInt_any (l : List Int) (n : Int) (A : Option Addr) (cap : Nat) (S : Nat → Prop) (w : World) (h : Arr w S A l) :
    Calls Tryz.prog 62 #[.slice A l.length cap, .int .i64 n] w fun e w' => e = .returned (.bool (decide (n ∈ l))) ∧ w' = w := by
  have hl := h.len
  go_enter Tryz.func62, Tryz.ntmps62
  go_wp2
  go_loop [4, 5] (fun r i => r = .bool false ∧ ∃ k : Nat, k ≤ l.length ∧ i = .int .i64 k ∧ ¬ n ∈ l.take k) (fun _ i => l.length - (intOf i).toNat)
  case atStart => exact ⟨rfl, 0, Nat.zero_le _, rfl, by simp⟩
  case round =>
    obtain ⟨rfl, k, hk, rfl, hj⟩ := hrel
    have Hj := Lib.hid hj
    clear hj
    by_cases hlt : k < l.length
    · obtain ⟨b, o, rfl, hb, hs, hc⟩ := h.getI k hlt
      go_wp2
      · rename_i he _
        go_ret
        have he := ieq_of he
        exact ⟨ret_bool (decide_eq_true (he ▸ List.getElem_mem hlt)).symm, rfl⟩
      · rename_i he
        have he := ine_of he
        go_round
        case rel => exact ⟨rfl, k + 1, by omega, by go_num, notin_succ hlt Hj.out he⟩
        case measure => simp [intOf]; omega
    · go_wp2
      go_ret
      exact ⟨ret_bool (decide_eq_false (notin_all hlt Hj.out)).symm, rfl⟩

set_option maxHeartbeats 400000 in
theorem has_any (l : List ByteArray) (s : ByteArray) (A : Option Addr) (cap : Nat) (S : Nat → Prop) (w : World) (h : Arr w S A l) :
    Calls Tryz.prog 72 #[.slice A l.length cap, .string s] w fun e w' => e = .returned (.bool (decide (s ∈ l))) ∧ w' = w := by
  have hl := h.len
  go_enter Tryz.func72, Tryz.ntmps72
  go_wp2
  go_loop [4, 5] (fun r i => r = .bool false ∧ ∃ k : Nat, k ≤ l.length ∧ i = .int .i64 k ∧ ¬ s ∈ l.take k) (fun _ i => l.length - (intOf i).toNat)
  case atStart => exact ⟨rfl, 0, Nat.zero_le _, rfl, by simp⟩
  case round =>
    obtain ⟨rfl, k, hk, rfl, hj⟩ := hrel
    have Hj := Lib.hid hj
    clear hj
    by_cases hlt : k < l.length
    · obtain ⟨b, o, rfl, hb, hs, hc⟩ := h.getS k hlt
      go_wp2
      · rename_i he _
        go_ret
        have he := seq_of he
        exact ⟨ret_bool (decide_eq_true (he ▸ List.getElem_mem hlt)).symm, rfl⟩
      · rename_i he
        have he := sne_of he
        go_round
        case rel => exact ⟨rfl, k + 1, by omega, by go_num, notin_succ hlt Hj.out he⟩
        case measure => simp [intOf]; omega
    · go_wp2
      go_ret
      exact ⟨ret_bool (decide_eq_false (notin_all hlt Hj.out)).symm, rfl⟩

set_option maxHeartbeats 400000 in
theorem sameInts_any (l m : List Int) (A B : Option Addr) (ca cb : Nat) (S T : Nat → Prop) (w : World) (h : Arr w S A l) (h' : Arr w T B m) :
    Calls Tryz.prog 17 #[.slice A l.length ca, .slice B m.length cb] w fun e w' => e = .returned (.bool (decide (l = m))) ∧ Below w.heap.size w w' := by
  have hl := h.len
  have hm := h'.len
  by_cases hlen : l.length = m.length
  case neg =>
    have hlen' : ((l.length : Int) != (m.length : Int)) = true := by simp; omega
    have hne : ¬ l = m := fun e => hlen (by rw [e])
    have Hlen := Lib.hid hlen
    clear hlen
    go_enter Tryz.func17, Tryz.ntmps17
    go_wp2
    go_ret
    exact ⟨ret_bool (decide_eq_false hne).symm, Below.refl _ _⟩
  have hlen' : ((l.length : Int) != (m.length : Int)) = false := by simp; omega
  have Hlen := Lib.hid hlen
  clear hlen
  go_enter Tryz.func17, Tryz.ntmps17
  go_wp2
  go_loopw [4, 5] (fun r i wr => r = .bool false ∧ Below w.heap.size w wr ∧ ∃ k : Nat, k ≤ l.length ∧ i = .int .i64 k ∧ l.take k = m.take k) (fun _ i _ => l.length - (intOf i).toNat)
  case atStart => exact ⟨rfl, Below.refl _ _, 0, Nat.zero_le _, rfl, by simp⟩
  case round =>
    obtain ⟨rfl, hb, k, hk, rfl, hj⟩ := hrel
    have Hj := Lib.hid hj
    clear hj
    by_cases hlt : k < l.length
    · have hltm : k < m.length := by have := Hlen.out; omega
      obtain ⟨b1, o1, rfl, hb1, hs1, hc1⟩ := (h.below hb).getI k hlt
      obtain ⟨b2, o2, rfl, hb2, hs2, hc2⟩ := (h'.below hb).getI k hltm
      go_wp2
      refine region_quiet (by kernel_rfl) (by kernel_rfl) ?_
      repeat (go_big_quiet_step (fail))
      refine wpQuiet_nil ?_
      intro W1 hw1
      replace hw1 := below_of_ext hw1
      go_wp2
      · rename_i he
        go_ret
        have hne : ¬ l = m := by
          intro e
          subst e
          simp at he
        exact ⟨ret_bool (decide_eq_false hne).symm, hb.trans (hw1.mono hb.size)⟩
      · rename_i he
        have he : l[k] = m[k] := by simpa using he
        go_roundw
        case rel => exact ⟨rfl, hb.trans (hw1.mono hb.size), k + 1, by omega, by go_num, by rw [← List.take_append_getElem hlt, ← List.take_append_getElem hltm, Hj.out, he]⟩
        case measure => simp [intOf]; omega
    · go_wp2
      go_ret
      have hj := Hj.out
      rw [List.take_of_length_le (by omega), List.take_of_length_le (by have := Hlen.out; omega)] at hj
      exact ⟨ret_bool (decide_eq_true hj).symm, hb⟩

set_option maxHeartbeats 400000 in
theorem sameTexts_any (l : List ByteArray) (A B : Option Addr) (ca cb : Nat) (S T : Nat → Prop) (w : World) (h : Arr w S A l) (h' : Arr w T B l) :
    Calls Tryz.prog 40 #[.slice A l.length ca, .slice B l.length cb] w fun e w' => e = .returned (.bool true) ∧ Below w.heap.size w w' := by
  have hl := h.len
  go_enter Tryz.func40, Tryz.ntmps40
  go_wp2
  go_loopw [4, 5] (fun r i wr => r = .bool false ∧ Below w.heap.size w wr ∧ ∃ k : Nat, k ≤ l.length ∧ i = .int .i64 k) (fun _ i _ => l.length - (intOf i).toNat)
  case atStart => exact ⟨rfl, Below.refl _ _, 0, Nat.zero_le _, rfl⟩
  case round =>
    obtain ⟨rfl, hb, k, hk, rfl⟩ := hrel
    by_cases hlt : k < l.length
    · obtain ⟨b1, o1, rfl, hb1, hs1, hc1⟩ := (h.below hb).getS k hlt
      obtain ⟨b2, o2, rfl, hb2, hs2, hc2⟩ := (h'.below hb).getS k hlt
      go_wp2
      refine region_quiet (by kernel_rfl) (by kernel_rfl) ?_
      repeat (go_big_quiet_step (fail))
      refine wpQuiet_nil ?_
      intro W1 hw1
      replace hw1 := below_of_ext hw1
      go_wp2
      go_roundw
      case rel => exact ⟨rfl, hb.trans (hw1.mono hb.size), k + 1, by omega, by go_num⟩
      case measure => simp [intOf]; omega
    · go_wp2
      go_ret
      exact ⟨rfl, hb⟩

set_option maxHeartbeats 400000 in
theorem sameVersion_any (v : Ver) (va vb : List Value) (S T : Nat → Prop) (w : World) (h : Cd.rep w S v va) (h' : Cd.rep w T v vb) :
    Calls Tryz.prog 54 #[.agg va.toArray, .agg vb.toArray] w fun e w' => e = .returned (.bool true) ∧ Below w.heap.size w w' := by
  obtain ⟨A, ca, rfl, ha, hta⟩ := h
  obtain ⟨B, cb, rfl, hb, htb⟩ := h'
  go_enter Tryz.func54, Tryz.ntmps54
  go_wp2_with (go_at_call 17; refine (sameInts_any _ _ _ _ _ _ S T _ (ha.below (by (repeat (first | exact Below.refl _ _ | assumption | (refine Below.setCell ?_ (by first | omega | (simp; done) | (simp; omega) | exact Below.size (by assumption)) _) | (refine Below.alloc ?_ (by first | omega | (simp; done) | (simp; omega) | exact Below.size (by assumption)) _) | refine Below.drew ?_ | refine Below.trans0 ?_ (by assumption))))) (hb.below (by (repeat (first | exact Below.refl _ _ | assumption | (refine Below.setCell ?_ (by first | omega | (simp; done) | (simp; omega) | exact Below.size (by assumption)) _) | (refine Below.alloc ?_ (by first | omega | (simp; done) | (simp; omega) | exact Below.size (by assumption)) _) | refine Below.drew ?_ | refine Below.trans0 ?_ (by assumption)))))).mono ?_; rintro e w1 ⟨rfl, hw1⟩)
  go_ret
  exact ⟨rfl, by (repeat (first | exact Below.refl _ _ | assumption | (refine Below.setCell ?_ (by first | omega | (simp; done) | (simp; omega) | exact Below.size (by assumption)) _) | (refine Below.alloc ?_ (by first | omega | (simp; done) | (simp; omega) | exact Below.size (by assumption)) _) | refine Below.drew ?_ | refine Below.trans0 ?_ (by assumption)))⟩

set_option maxHeartbeats 400000 in
theorem sameNeed_any (v : Need) (va vb : List Value) (S T : Nat → Prop) (w : World) (h : Cd.rep w S v va) (h' : Cd.rep w T v vb) :
    Calls Tryz.prog 80 #[.agg va.toArray, .agg vb.toArray] w fun e w' => e = .returned (.bool true) ∧ Below w.heap.size w w' := by
  obtain ⟨A, ca, rfl, h1, h2, ha, hta⟩ := h
  obtain ⟨B, cb, rfl, h3, h4, hb, htb⟩ := h'
  go_enter Tryz.func80, Tryz.ntmps80
  go_wp2_with (go_at_call 54; refine (sameVersion_any v.ver [_, _] [_, _] S T _ ⟨_, _, rfl, ha.below (by (repeat (first | exact Below.refl _ _ | assumption | (refine Below.setCell ?_ (by first | omega | (simp; done) | (simp; omega) | exact Below.size (by assumption)) _) | (refine Below.alloc ?_ (by first | omega | (simp; done) | (simp; omega) | exact Below.size (by assumption)) _) | refine Below.drew ?_ | refine Below.trans0 ?_ (by assumption)))), hta⟩ ⟨_, _, rfl, hb.below (by (repeat (first | exact Below.refl _ _ | assumption | (refine Below.setCell ?_ (by first | omega | (simp; done) | (simp; omega) | exact Below.size (by assumption)) _) | (refine Below.alloc ?_ (by first | omega | (simp; done) | (simp; omega) | exact Below.size (by assumption)) _) | refine Below.drew ?_ | refine Below.trans0 ?_ (by assumption)))), htb⟩).mono ?_; rintro e w1 ⟨rfl, hw1⟩)
  go_ret
  exact ⟨rfl, by (repeat (first | exact Below.refl _ _ | assumption | (refine Below.setCell ?_ (by first | omega | (simp; done) | (simp; omega) | exact Below.size (by assumption)) _) | (refine Below.alloc ?_ (by first | omega | (simp; done) | (simp; omega) | exact Below.size (by assumption)) _) | refine Below.drew ?_ | refine Below.trans0 ?_ (by assumption)))⟩

set_option maxHeartbeats 1000000 in
theorem sameClauses_any (l : List Clause) (A B : Option Addr) (ca cb : Nat) (S T : Nat → Prop) (w : World) (h : Arr w S A l) (h' : Arr w T B l) :
    Calls Tryz.prog 33 #[.slice A l.length ca, .slice B l.length cb] w fun e w' => e = .returned (.bool true) ∧ Below w.heap.size w w' := by
  have hl := h.len
  go_enter Tryz.func33, Tryz.ntmps33
  go_wp2
  go_loopw [4, 5, 6] (fun r i j wr => r = .bool false ∧ Below w.heap.size w wr ∧ ∃ k : Nat, k ≤ l.length ∧ i = .int .i64 k) (fun _ i _ _ => l.length - (intOf i).toNat)
  case atStart => exact ⟨rfl, Below.refl _ _, 0, Nat.zero_le _, rfl⟩
  case round =>
    obtain ⟨rfl, hb, k, hk, rfl⟩ := hrel
    by_cases hlt : k < l.length
    · obtain ⟨b1, o1, B1, c1, rfl, hb1, hc11, hc12, -, hr1⟩ := (h.below hb).getClause k hlt
      obtain ⟨b2, o2, B2, c2, rfl, hb2, hc21, hc22, -, hr2⟩ := (h'.below hb).getClause k hlt
      have hll := hr1.len
      have hneg : (l[k].neg != l[k].neg) = false := by simp
      go_wp2
      refine region_quiet (by kernel_rfl) (by kernel_rfl) ?_
      repeat (go_big_quiet_step (fail))
      refine wpQuiet_nil ?_
      intro W1 hw1
      replace hw1 := below_of_ext hw1
      go_wp2
      replace hb := hb.trans (hw1.mono hb.size)
      replace hr1 := hr1.below hw1
      replace hr2 := hr2.below hw1
      obtain ⟨q1, q2⟩ := bcell hw1
      rw [← q1 _ _ hb1] at hc11 hc12
      rw [← q1 _ _ hb2] at hc21 hc22
      clear q1 q2
      replace hb1 := Nat.lt_of_lt_of_le hb1 hw1.size
      replace hb2 := Nat.lt_of_lt_of_le hb2 hw1.size
      clear hw1 hneg
      go_loopw [4, 6] (fun r j w2 => r = .bool false ∧ Below W1.heap.size W1 w2 ∧ ∃ m : Nat, m ≤ l[k].any.length ∧ j = .int .i64 m) (fun _ j _ => l[k].any.length - (intOf j).toNat)
      case atStart => exact ⟨rfl, Below.refl _ _, 0, Nat.zero_le _, rfl⟩
      case round =>
        obtain ⟨rfl, hx, m, hm, rfl⟩ := hrel
        obtain ⟨q1, q2⟩ := bcell hx
        rw [← q1 _ _ hb1] at hc11 hc12
        rw [← q1 _ _ hb2] at hc21 hc22
        clear q1 q2
        by_cases hmt : m < l[k].any.length
        · obtain ⟨b3, o3, B3, c3, rfl, hb3, hc31, hc32, hc33, hc34, hn1⟩ := (hr1.below hx).getNeed m hmt
          obtain ⟨b4, o4, B4, c4, rfl, hb4, hc41, hc42, hc43, hc44, hn2⟩ := (hr2.below hx).getNeed m hmt
          replace hb1 := Nat.lt_of_lt_of_le hb1 hx.size
          replace hb2 := Nat.lt_of_lt_of_le hb2 hx.size
          go_wp2
          refine region_quiet (by kernel_rfl) (by kernel_rfl) ?_
          repeat (go_big_quiet_step ((go_at_call 80; exact call_quiet (sameNeed_any _ [_, _, _, _] [_, _, _, _] S T _ (hn1.below (ext_below _ _)) (hn2.below (ext_below _ _))))))
          refine wpQuiet_nil ?_
          intro W2 hw2
          replace hw2 := below_of_ext hw2
          go_wp2
          go_roundw
          case rel => exact ⟨rfl, hx.trans (hw2.mono hx.size), m + 1, by omega, by go_num⟩
          case measure => simp [intOf]; omega
        · go_wp2
          go_roundw
          case rel => exact ⟨rfl, hb.trans (hx.mono hb.size), k + 1, by omega, by go_num⟩
          case measure => simp [intOf]; omega
    · go_wp2
      go_ret
      exact ⟨rfl, hb⟩

set_option maxHeartbeats 400000 in
theorem samePkg_any (v : Pkg) (va vb : List Value) (S T : Nat → Prop) (w : World) (h : Cd.rep w S v va) (h' : Cd.rep w T v vb) :
    Calls Tryz.prog 16 #[.agg va.toArray, .agg vb.toArray] w fun e w' => e = .returned (.bool true) ∧ Below w.heap.size w w' := by
  obtain ⟨A, a, B, b, C, c, rfl, h1, h2, h3, h4, h5⟩ := h
  obtain ⟨A', a', B', b', C', c', rfl, h1', h2', h3', h4', h5'⟩ := h'
  go_enter Tryz.func16, Tryz.ntmps16
  go_wp2_with (go_at_call 54; refine (sameVersion_any v.ver [_, _] [_, _] S T _ ⟨_, _, rfl, h2.below (by (repeat (first | exact Below.refl _ _ | assumption | (refine Below.setCell ?_ (by first | omega | (simp; done) | (simp; omega) | exact Below.size (by assumption)) _) | (refine Below.alloc ?_ (by first | omega | (simp; done) | (simp; omega) | exact Below.size (by assumption)) _) | refine Below.drew ?_ | refine Below.trans0 ?_ (by assumption)))), h3⟩ ⟨_, _, rfl, h2'.below (by (repeat (first | exact Below.refl _ _ | assumption | (refine Below.setCell ?_ (by first | omega | (simp; done) | (simp; omega) | exact Below.size (by assumption)) _) | (refine Below.alloc ?_ (by first | omega | (simp; done) | (simp; omega) | exact Below.size (by assumption)) _) | refine Below.drew ?_ | refine Below.trans0 ?_ (by assumption)))), h3⟩).mono ?_; rintro e w1 ⟨rfl, hw1⟩; obtain ⟨q1, q2⟩ := bcell hw1)
  have hb1 : Below w.heap.size w w1 := by (repeat (first | exact Below.refl _ _ | assumption | (refine Below.setCell ?_ (by first | omega | (simp; done) | (simp; omega) | exact Below.size (by assumption)) _) | (refine Below.alloc ?_ (by first | omega | (simp; done) | (simp; omega) | exact Below.size (by assumption)) _) | refine Below.drew ?_ | refine Below.trans0 ?_ (by assumption)))
  have z0 : w.heap.size < w1.heap.size := by have := hw1.size; simp at this; omega
  have z1 : w.heap.size + 1 < w1.heap.size := by have := hw1.size; simp at this; omega
  go_wp2_with (go_at_call 40; refine (sameTexts_any _ _ _ _ _ S T _ (h4.below hb1) (h4'.below hb1)).mono ?_; rintro e w2 ⟨rfl, hw2⟩; obtain ⟨q3, q4⟩ := bcell hw2)
  have hb2 := hb1.trans (hw2.mono hb1.size)
  go_wp2_with (go_at_call 33; refine (sameClauses_any _ _ _ _ _ S T _ (h5.below hb2) (h5'.below hb2)).mono ?_; rintro e w3 ⟨rfl, hw3⟩)
  go_ret
  exact ⟨rfl, hb2.trans (hw3.mono hb2.size)⟩

end Go.Proofs.YtppbjmhllmaakaaGreatDoor
