/- Contracts: the references of the layers version and need (check, compare, meet). -/
import Derived.Test.YtppbjmhllmaakaaGreatDoorC1
set_option linter.unusedVariables false
namespace Go.Proofs.YtppbjmhllmaakaaGreatDoor
open Go.RowKit

theorem pcmp_step {a b : List Int} {k n : Nat} (hk : k < n) : pcmp a b k (n - k) = if pt a k < pt b k then -1 else if pt b k < pt a k then 1 else pcmp a b (k + 1) (n - (k + 1)) := by
  rw [show n - k = (n - (k + 1)) + 1 from by omega, pcmp]
theorem vcmp_lt {a b : Ver} {c : Int} (h : pcmp a.parts b.parts 0 (max a.parts.length b.parts.length) = c) (hc : c ≠ 0) : vcmp a b = c := by
  unfold vcmp; simp only [h]; rw [if_neg hc]
theorem vcmp_eq {a b : Ver} (h : pcmp a.parts b.parts 0 (max a.parts.length b.parts.length) = 0) : vcmp a b = tcmp a.tail b.tail := by
  unfold vcmp; simp only [h, if_true]

set_option maxHeartbeats 2000000 in
theorem refCompare_any (a b : Ver) (va vb : List Value) (S T : Nat → Prop) (w : World) (ha : Cd.rep w S a va) (hb : Cd.rep w T b vb) :
    Calls Tryz.prog 105 #[.agg va.toArray, .agg vb.toArray] w fun e w' => e = .returned (.int .i64 (vcmp a b)) ∧ Below w.heap.size w w' := by
  obtain ⟨A, ca, rfl, ha, hta⟩ := ha
  obtain ⟨B, cb, rfl, hb, htb⟩ := hb
  have hla := ha.len
  have hlb := hb.len
  go_enter Tryz.func105, Tryz.ntmps105
  go_wp2
  go_loop [5] (fun i => ∃ k : Nat, k ≤ max a.parts.length b.parts.length ∧ i = .int .i64 k ∧ pcmp a.parts b.parts 0 (max a.parts.length b.parts.length) = pcmp a.parts b.parts k (max a.parts.length b.parts.length - k)) (fun i => max a.parts.length b.parts.length - (intOf i).toNat)
  case atStart => exact ⟨0, Nat.zero_le _, rfl, rfl⟩
  case round =>
    obtain ⟨k, hk, rfl, hp⟩ := hrel
    by_cases h1 : k < a.parts.length
    · obtain ⟨b1, o1, rfl, hb1, hs1, hc1⟩ := ha.getI k h1
      have hb1' : b1 < w.heap.size + 1 := by omega
      rw [pcmp_step (n := max a.parts.length b.parts.length) (by omega), pt_lt h1] at hp
      by_cases h2 : k < b.parts.length
      · obtain ⟨b2, o2, rfl, hb2, hs2, hc2⟩ := hb.getI k h2
        have hb2' : b2 < w.heap.size + 1 := by omega
        rw [pt_lt h2] at hp
        have Hp := Lib.hid hp
        clear hp
        go_wp2
        · go_ret
          refine ⟨ret_int (vcmp_lt (by rw [Hp.out, if_pos (by assumption)]) (by decide)).symm, by (repeat (first | exact Below.refl _ _ | assumption | (refine Below.setCell ?_ (by first | omega | (simp; done) | (simp; omega) | exact Below.size (by assumption)) _) | (refine Below.alloc ?_ (by first | omega | (simp; done) | (simp; omega) | exact Below.size (by assumption)) _) | refine Below.drew ?_ | refine Below.trans0 ?_ (by assumption)))⟩
        · go_ret
          refine ⟨ret_int (vcmp_lt (by rw [Hp.out, if_neg (by omega), if_pos (by omega)]) (by decide)).symm, by (repeat (first | exact Below.refl _ _ | assumption | (refine Below.setCell ?_ (by first | omega | (simp; done) | (simp; omega) | exact Below.size (by assumption)) _) | (refine Below.alloc ?_ (by first | omega | (simp; done) | (simp; omega) | exact Below.size (by assumption)) _) | refine Below.drew ?_ | refine Below.trans0 ?_ (by assumption)))⟩
        · go_round
          case rel => exact ⟨k + 1, by omega, by go_num, by rw [Hp.out, if_neg (by omega), if_neg (by omega)]⟩
          case measure => simp [intOf]; omega
      · rw [pt_ge h2] at hp
        have Hp := Lib.hid hp
        clear hp
        go_wp2
        · go_ret
          refine ⟨ret_int (vcmp_lt (by rw [Hp.out, if_pos (by assumption)]) (by decide)).symm, by (repeat (first | exact Below.refl _ _ | assumption | (refine Below.setCell ?_ (by first | omega | (simp; done) | (simp; omega) | exact Below.size (by assumption)) _) | (refine Below.alloc ?_ (by first | omega | (simp; done) | (simp; omega) | exact Below.size (by assumption)) _) | refine Below.drew ?_ | refine Below.trans0 ?_ (by assumption)))⟩
        · go_ret
          refine ⟨ret_int (vcmp_lt (by rw [Hp.out, if_neg (by omega), if_pos (by omega)]) (by decide)).symm, by (repeat (first | exact Below.refl _ _ | assumption | (refine Below.setCell ?_ (by first | omega | (simp; done) | (simp; omega) | exact Below.size (by assumption)) _) | (refine Below.alloc ?_ (by first | omega | (simp; done) | (simp; omega) | exact Below.size (by assumption)) _) | refine Below.drew ?_ | refine Below.trans0 ?_ (by assumption)))⟩
        · go_round
          case rel => exact ⟨k + 1, by omega, by go_num, by rw [Hp.out, if_neg (by omega), if_neg (by omega)]⟩
          case measure => simp [intOf]; omega
    · by_cases h2 : k < b.parts.length
      · obtain ⟨b2, o2, rfl, hb2, hs2, hc2⟩ := hb.getI k h2
        have hb2' : b2 < w.heap.size + 1 := by omega
        rw [pcmp_step (n := max a.parts.length b.parts.length) (by omega), pt_ge h1, pt_lt h2] at hp
        have Hp := Lib.hid hp
        clear hp
        go_wp2
        · go_ret
          refine ⟨ret_int (vcmp_lt (by rw [Hp.out, if_pos (by assumption)]) (by decide)).symm, by (repeat (first | exact Below.refl _ _ | assumption | (refine Below.setCell ?_ (by first | omega | (simp; done) | (simp; omega) | exact Below.size (by assumption)) _) | (refine Below.alloc ?_ (by first | omega | (simp; done) | (simp; omega) | exact Below.size (by assumption)) _) | refine Below.drew ?_ | refine Below.trans0 ?_ (by assumption)))⟩
        · go_ret
          refine ⟨ret_int (vcmp_lt (by rw [Hp.out, if_neg (by omega), if_pos (by omega)]) (by decide)).symm, by (repeat (first | exact Below.refl _ _ | assumption | (refine Below.setCell ?_ (by first | omega | (simp; done) | (simp; omega) | exact Below.size (by assumption)) _) | (refine Below.alloc ?_ (by first | omega | (simp; done) | (simp; omega) | exact Below.size (by assumption)) _) | refine Below.drew ?_ | refine Below.trans0 ?_ (by assumption)))⟩
        · go_round
          case rel => exact ⟨k + 1, by omega, by go_num, by rw [Hp.out, if_neg (by omega), if_neg (by omega)]⟩
          case measure => simp [intOf]; omega
      · rw [show max a.parts.length b.parts.length - k = 0 from by omega, pcmp] at hp
        have Hp := Lib.hid hp
        clear hp
        go_wp2
        all_goals go_ret
        · refine ⟨ret_int ?_, by (repeat (first | exact Below.refl _ _ | assumption | (refine Below.setCell ?_ (by first | omega | (simp; done) | (simp; omega) | exact Below.size (by assumption)) _) | (refine Below.alloc ?_ (by first | omega | (simp; done) | (simp; omega) | exact Below.size (by assumption)) _) | refine Below.drew ?_ | refine Below.trans0 ?_ (by assumption)))⟩
          rw [vcmp_eq Hp.out, tcmp, if_pos (by assumption)]
        · refine ⟨ret_int ?_, by (repeat (first | exact Below.refl _ _ | assumption | (refine Below.setCell ?_ (by first | omega | (simp; done) | (simp; omega) | exact Below.size (by assumption)) _) | (refine Below.alloc ?_ (by first | omega | (simp; done) | (simp; omega) | exact Below.size (by assumption)) _) | refine Below.drew ?_ | refine Below.trans0 ?_ (by assumption)))⟩
          rw [vcmp_eq Hp.out, tcmp, if_neg (by simp [*]), if_pos (by assumption)]
        · refine ⟨ret_int ?_, by (repeat (first | exact Below.refl _ _ | assumption | (refine Below.setCell ?_ (by first | omega | (simp; done) | (simp; omega) | exact Below.size (by assumption)) _) | (refine Below.alloc ?_ (by first | omega | (simp; done) | (simp; omega) | exact Below.size (by assumption)) _) | refine Below.drew ?_ | refine Below.trans0 ?_ (by assumption)))⟩
          rw [vcmp_eq Hp.out, tcmp, if_neg (by simp [*]), if_neg (by simp [*]), if_pos (by simp [*])]
        · rename_i g4 _
          refine ⟨ret_int ?_, by (repeat (first | exact Below.refl _ _ | assumption | (refine Below.setCell ?_ (by first | omega | (simp; done) | (simp; omega) | exact Below.size (by assumption)) _) | (refine Below.alloc ?_ (by first | omega | (simp; done) | (simp; omega) | exact Below.size (by assumption)) _) | refine Below.drew ?_ | refine Below.trans0 ?_ (by assumption)))⟩
          rw [vcmp_eq Hp.out, tcmp, if_neg (by simp [*]), if_neg (by simp [*])]
          rcases g4 with g4 | g4
          · rw [if_pos g4]
          · simp [g4]
        · rename_i g4 _
          refine ⟨ret_int ?_, by (repeat (first | exact Below.refl _ _ | assumption | (refine Below.setCell ?_ (by first | omega | (simp; done) | (simp; omega) | exact Below.size (by assumption)) _) | (refine Below.alloc ?_ (by first | omega | (simp; done) | (simp; omega) | exact Below.size (by assumption)) _) | refine Below.drew ?_ | refine Below.trans0 ?_ (by assumption)))⟩
          rw [vcmp_eq Hp.out, tcmp, if_neg (by simp [*]), if_neg (by simp [*]), if_neg (by simp [*]), if_neg (by simp [*])]

set_option maxHeartbeats 1000000 in
theorem refHolds_any (op : Int) (a b : Ver) (va vb : List Value) (S T : Nat → Prop) (w : World) (ha : Cd.rep w S a va) (hb : Cd.rep w T b vb) :
    Calls Tryz.prog 73 #[.int .i64 op, .agg va.toArray, .agg vb.toArray] w fun e w' => e = .returned (.tuple #[.bool (vholds op a b), .int .i64 (vholdsE op)]) ∧ Below w.heap.size w w' := by
  have ha' := ha
  have hb' := hb
  obtain ⟨A, ca, rfl, -, -⟩ := ha
  obtain ⟨B, cb, rfl, -, -⟩ := hb
  generalize hv : vcmp a b = c
  have Hv := Lib.hid hv
  clear hv
  have fin : ∀ r s, vholds op a b = r → vholdsE op = s → vholds op a b = r ∧ vholdsE op = s := fun _ _ h h' => ⟨h, h'⟩
  have e1 : vholds op a b = (if op = 0 then true else if op = 1 then (c == 0) else if op = 2 then decide (c < 0) else if op = 3 then decide (c ≤ 0) else if op = 4 then decide (0 < c) else if op = 5 then decide (0 ≤ c) else if op = 6 then (c != 0) else false) := by
    unfold vholds; simp only [Hv.out]
  have E1 := Lib.hid e1
  clear e1 fin
  go_enter Tryz.func73, Tryz.ntmps73
  go_wp2_with (go_at_call 105; refine (refCompare_any a b [_, _] [_, _] S T _ (ha'.below (by (repeat (first | exact Below.refl _ _ | assumption | (refine Below.setCell ?_ (by first | omega | (simp; done) | (simp; omega) | exact Below.size (by assumption)) _) | (refine Below.alloc ?_ (by first | omega | (simp; done) | (simp; omega) | exact Below.size (by assumption)) _) | refine Below.drew ?_ | refine Below.trans0 ?_ (by assumption))))) (hb'.below (by (repeat (first | exact Below.refl _ _ | assumption | (refine Below.setCell ?_ (by first | omega | (simp; done) | (simp; omega) | exact Below.size (by assumption)) _) | (refine Below.alloc ?_ (by first | omega | (simp; done) | (simp; omega) | exact Below.size (by assumption)) _) | refine Below.drew ?_ | refine Below.trans0 ?_ (by assumption)))))).mono ?_; rintro e w1 ⟨rfl, hw1⟩; rw [Hv.out])
  all_goals
    go_ret2
    refine ⟨ret_bi ?_ ?_, by (repeat (first | exact Below.refl _ _ | assumption | (refine Below.setCell ?_ (by first | omega | (simp; done) | (simp; omega) | exact Below.size (by assumption)) _) | (refine Below.alloc ?_ (by first | omega | (simp; done) | (simp; omega) | exact Below.size (by assumption)) _) | refine Below.drew ?_ | refine Below.trans0 ?_ (by assumption)))⟩
    · rw [E1.out]; simp_all
    · simp_all [vholdsE]
      try omega

theorem at_data (s : ByteArray) (k : Nat) (h : k < s.size) : s.data.toList[k]'(by simpa using h) = s[k] := rfl

set_option maxHeartbeats 1000000 in
theorem refTail_any (s : ByteArray) (w : World) (hs : s.size ≤ reach) :
    Calls Tryz.prog 138 #[.string s] w fun e w' => e = .returned (.bool (tailOk s)) ∧ Below w.heap.size w w' := by
  unfold reach at hs
  go_enter Tryz.func138, Tryz.ntmps138
  go_wp2
  go_loopw [2, 3] (fun r i wr => r = .bool false ∧ Below w.heap.size w wr ∧ ∃ k : Nat, k ≤ s.size ∧ i = .int .i64 k ∧ AllTo lowc s.data.toList k) (fun _ i _ => s.size - (intOf i).toNat)
  case atStart => exact ⟨rfl, Below.refl _ _, 0, Nat.zero_le _, rfl, AllTo.zero _ _⟩
  case round =>
    obtain ⟨rfl, hb, k, hk, rfl, hj⟩ := hrel
    have Hj := Lib.hid hj
    clear hj
    by_cases hlt : k < s.size
    · have hlt' : k < s.data.toList.length := by simpa using hlt
      by_cases hc : lowc s[k] = true
      · have Hc := Lib.hid hc
        have hc' := (lowc_iff _).1 hc
        clear hc
        rcases hc' with ⟨c1, c2⟩ | ⟨c1, c2⟩
        all_goals
          go_wp2
          go_roundw
          case rel => exact ⟨rfl, hb, k + 1, by omega, by go_num, AllTo.succ hlt' Hj.out Hc.out⟩
          case measure => simp [intOf]; omega
      · have Hc := Lib.hid hc
        have hc' : ¬ ((97 ≤ (s[k].toNat : Int) ∧ (s[k].toNat : Int) ≤ 122) ∨ (48 ≤ (s[k].toNat : Int) ∧ (s[k].toNat : Int) ≤ 57)) := fun h => hc ((lowc_iff _).2 h)
        clear hc
        have d : (s[k].toNat : Int) < 48 ∨ (57 < (s[k].toNat : Int) ∧ (s[k].toNat : Int) < 97) ∨ 122 < (s[k].toNat : Int) := by omega
        clear hc'
        have fin : tailOk s = false := by
          unfold tailOk
          rw [all_false hlt' (by rw [at_data s k hlt]; simpa using Hc.out)]; rfl
        rcases d with d | ⟨d, d'⟩ | d
        all_goals
          go_wp2
          all_goals (go_ret; first | exact ⟨rfl, hb⟩ | exact ⟨ret_bool fin.symm, hb⟩)
    · have fin : tailOk s = decide (s.size ≤ 8) := by
        unfold tailOk
        rw [Hj.out.all (by simpa using hlt)]; simp
      have Fin := Lib.hid fin
      clear fin
      go_wp2
      go_ret
      refine ⟨ret_bool ?_, hb⟩
      rw [Fin.out]
      simp
      omega

set_option maxHeartbeats 1000000 in
theorem refCheckV_any (v : Ver) (va : List Value) (S : Nat → Prop) (w : World) (h : Cd.rep w S v va) :
    Calls Tryz.prog 104 #[.agg va.toArray] w fun e w' => e = .returned (.int .i64 (okE (verOk v) 170)) ∧ Below w.heap.size w w' := by
  obtain ⟨A, ca, rfl, ha, hta⟩ := h
  have hla := ha.len
  by_cases h1 : 1 ≤ v.parts.length ∧ v.parts.length ≤ 4
  case neg =>
    have fin : verOk v = false := by unfold verOk; simp; omega
    by_cases h2 : v.parts.length < 1
    · go_enter Tryz.func104, Tryz.ntmps104
      go_wp2
      all_goals (go_ret; first | exact ⟨rfl, by (repeat (first | exact Below.refl _ _ | assumption | (refine Below.setCell ?_ (by first | omega | (simp; done) | (simp; omega) | exact Below.size (by assumption)) _) | (refine Below.alloc ?_ (by first | omega | (simp; done) | (simp; omega) | exact Below.size (by assumption)) _) | refine Below.drew ?_ | refine Below.trans0 ?_ (by assumption)))⟩ | exact ⟨ret_int (by rw [fin]; rfl), by (repeat (first | exact Below.refl _ _ | assumption | (refine Below.setCell ?_ (by first | omega | (simp; done) | (simp; omega) | exact Below.size (by assumption)) _) | (refine Below.alloc ?_ (by first | omega | (simp; done) | (simp; omega) | exact Below.size (by assumption)) _) | refine Below.drew ?_ | refine Below.trans0 ?_ (by assumption)))⟩)
    · have h3 : 4 < v.parts.length := by omega
      clear h1
      go_enter Tryz.func104, Tryz.ntmps104
      go_wp2
      all_goals (go_ret; first | exact ⟨rfl, by (repeat (first | exact Below.refl _ _ | assumption | (refine Below.setCell ?_ (by first | omega | (simp; done) | (simp; omega) | exact Below.size (by assumption)) _) | (refine Below.alloc ?_ (by first | omega | (simp; done) | (simp; omega) | exact Below.size (by assumption)) _) | refine Below.drew ?_ | refine Below.trans0 ?_ (by assumption)))⟩ | exact ⟨ret_int (by rw [fin]; rfl), by (repeat (first | exact Below.refl _ _ | assumption | (refine Below.setCell ?_ (by first | omega | (simp; done) | (simp; omega) | exact Below.size (by assumption)) _) | (refine Below.alloc ?_ (by first | omega | (simp; done) | (simp; omega) | exact Below.size (by assumption)) _) | refine Below.drew ?_ | refine Below.trans0 ?_ (by assumption)))⟩)
  obtain ⟨h1, h2⟩ := h1
  cases ht : tailOk v.tail
  · have fin : verOk v = false := by unfold verOk; simp [ht]
    have Ht := Lib.hid ht
    clear ht
    go_enter Tryz.func104, Tryz.ntmps104
    go_wp2_with (go_at_call 138; refine (refTail_any _ _ hta).mono ?_; rintro e w1 ⟨rfl, hw1⟩; rw [Ht.out])
    all_goals (go_ret; first | exact ⟨rfl, by (repeat (first | exact Below.refl _ _ | assumption | (refine Below.setCell ?_ (by first | omega | (simp; done) | (simp; omega) | exact Below.size (by assumption)) _) | (refine Below.alloc ?_ (by first | omega | (simp; done) | (simp; omega) | exact Below.size (by assumption)) _) | refine Below.drew ?_ | refine Below.trans0 ?_ (by assumption)))⟩ | exact ⟨ret_int (by rw [fin]; rfl), by (repeat (first | exact Below.refl _ _ | assumption | (refine Below.setCell ?_ (by first | omega | (simp; done) | (simp; omega) | exact Below.size (by assumption)) _) | (refine Below.alloc ?_ (by first | omega | (simp; done) | (simp; omega) | exact Below.size (by assumption)) _) | refine Below.drew ?_ | refine Below.trans0 ?_ (by assumption)))⟩)
  · have Ht := Lib.hid ht
    clear ht
    go_enter Tryz.func104, Tryz.ntmps104
    go_wp2_with (go_at_call 138; refine (refTail_any _ _ hta).mono ?_; rintro e w1 ⟨rfl, hw1⟩; rw [Ht.out])
    have hb1 : Below w.heap.size w w1 := by (repeat (first | exact Below.refl _ _ | assumption | (refine Below.setCell ?_ (by first | omega | (simp; done) | (simp; omega) | exact Below.size (by assumption)) _) | (refine Below.alloc ?_ (by first | omega | (simp; done) | (simp; omega) | exact Below.size (by assumption)) _) | refine Below.drew ?_ | refine Below.trans0 ?_ (by assumption)))
    have z0 : w.heap.size < w1.heap.size := by have := hw1.size; simp at this; omega
    obtain ⟨q1, -⟩ := bcell hw1
    have hbox := q1 w.heap.size 0 (by simp)
    simp at hbox
    clear q1 hw1
    go_loopw [2, 3] (fun r i wr => Below w1.heap.size w1 wr ∧ ∃ k : Nat, k ≤ v.parts.length ∧ i = .int .i64 k ∧ AllTo (fun n => decide (0 ≤ n) && decide (n ≤ 999999)) v.parts k) (fun _ i _ => v.parts.length - (intOf i).toNat)
    case atStart => exact ⟨Below.refl _ _, 0, Nat.zero_le _, rfl, AllTo.zero _ _⟩
    case round =>
      obtain ⟨hb, k, hk, rfl, hj⟩ := hrel
      have Hj := Lib.hid hj
      clear hj
      obtain ⟨q1, -⟩ := bcell hb
      rw [← q1 _ _ z0] at hbox
      clear q1
      by_cases hlt : k < v.parts.length
      · obtain ⟨b1, o1, rfl, hb1', hs1, hc1⟩ := ((ha.below hb1).below hb).getI k hlt
        by_cases c1 : v.parts[k] < 0
        · have fin : verOk v = false := by
            unfold verOk
            rw [all_false hlt (by simp; omega)]; simp
          go_wp2
          all_goals (go_ret; first | exact ⟨rfl, hb1.trans (hb.mono hb1.size)⟩ | exact ⟨ret_int (by rw [fin]; rfl), hb1.trans (hb.mono hb1.size)⟩)
        · by_cases c2 : 999999 < v.parts[k]
          · have fin : verOk v = false := by
              unfold verOk
              rw [all_false hlt (by simp; omega)]; simp
            go_wp2
            all_goals (go_ret; first | exact ⟨rfl, hb1.trans (hb.mono hb1.size)⟩ | exact ⟨ret_int (by rw [fin]; rfl), hb1.trans (hb.mono hb1.size)⟩)
          · go_wp2
            go_roundw
            case rel => exact ⟨hb, k + 1, by omega, by go_num, AllTo.succ hlt Hj.out (by simp; omega)⟩
            case measure => simp [intOf]; omega
      · have fin : verOk v = true := by
          unfold verOk
          rw [Hj.out.all hlt, Ht.out]; simp; omega
        go_wp2
        all_goals (go_ret; first | exact ⟨rfl, hb1.trans (hb.mono hb1.size)⟩ | exact ⟨ret_int (by rw [fin]; rfl), hb1.trans (hb.mono hb1.size)⟩)

theorem nameOk_cons {s : ByteArray} {c : UInt8} {r : List UInt8} (h : s.data.toList = c :: r) : nameOk s = (lowc c && r.all nextc && decide (r.length < 32)) := by
  unfold nameOk; rw [h]
theorem nameOk_nil {s : ByteArray} (h : s.data.toList = []) : nameOk s = false := by
  unfold nameOk; rw [h]
/-- The first k letters are a name's. -/
def NameTo (s : ByteArray) (k : Nat) : Prop := ∀ i, (h : i < s.size) → i < k → nextc s[i] = true ∧ (i = 0 → lowc s[i] = true)
theorem NameTo.no {s : ByteArray} {k : Nat} (hk : k < s.size) (h : nextc s[k] = false ∨ (k = 0 ∧ lowc s[k] = false)) : nameOk s = false := by
  cases hd : s.data.toList with
  | nil => exact nameOk_nil hd
  | cons c r =>
    rw [nameOk_cons hd]
    have hat := at_data s k hk
    have hl : k < (c :: r).length := by rw [← hd]; simpa using hk
    have hk' : (c :: r)[k] = s[k] := by rw [← hat]; congr 1; exact hd.symm
    rcases h with h | ⟨rfl, h⟩
    · cases k with
      | zero =>
        have : c = s[0] := hk'
        have hn : lowc c = false := by
          rw [this]
          cases hc : lowc s[0] with
          | false => rfl
          | true => rw [(nextc_iff _).2 (.inl hc)] at h; cases h
        rw [hn]; rfl
      | succ k =>
        have hr : r[k]'(by simpa using hl) = s[k + 1] := hk'
        rw [all_false (k := k) (by simpa using hl) (by rw [hr]; exact h)]; simp
    · have : c = s[0] := hk'
      rw [this, h]; rfl
theorem NameTo.yes {s : ByteArray} (h : NameTo s s.size) : nameOk s = (!s.toList.isEmpty && decide ((s.size : Int) ≤ 32)) := by
  cases hd : s.data.toList with
  | nil => rw [nameOk_nil hd]; simp [ByteArray.toList_eq, hd]
  | cons c r =>
    rw [nameOk_cons hd]
    have hs : s.size = r.length + 1 := by
      have : s.data.toList.length = s.size := by simp
      rw [← this, hd]; rfl
    have h0 := h 0 (by omega) (by omega)
    have e0 : c = s[0]'(by omega) := by
      have := at_data s 0 (by omega)
      rw [← this]
      have e : s.data.toList[0]'(by rw [hd]; simp) = (c :: r)[0]'(by simp) := by congr 1
      exact e.symm
    have hr : r.all nextc = true := by
      rw [List.all_eq_true]
      intro x hx
      obtain ⟨i, hi, rfl⟩ := List.getElem_of_mem hx
      have := (h (i + 1) (by omega) (by omega)).1
      have e : s[i + 1]'(by omega) = r[i] := by
        rw [← at_data s (i + 1) (by omega)]
        have e : s.data.toList[i + 1]'(by rw [hd]; simpa using hi) = (c :: r)[i + 1]'(by simpa using hi) := by congr 1
        exact e
      rw [← e]; exact this
    rw [hr, e0, h0.2 rfl]
    simp [ByteArray.toList_eq, hd]
    omega

set_option maxHeartbeats 2000000 in
theorem refName_any (s : ByteArray) (w : World) (hs : s.size ≤ reach) :
    Calls Tryz.prog 39 #[.string s] w fun e w' => e = .returned (.bool (nameOk s)) ∧ Below w.heap.size w w' := by
  unfold reach at hs
  go_enter Tryz.func39, Tryz.ntmps39
  go_wp2
  go_loopw [2, 3, 4] (fun r i l wr => r = .bool false ∧ Below w.heap.size w wr ∧ ∃ k : Nat, k ≤ s.size ∧ i = .int .i64 k ∧ NameTo s k) (fun _ i _ _ => s.size - (intOf i).toNat)
  case atStart => exact ⟨rfl, Below.refl _ _, 0, Nat.zero_le _, rfl, fun i _ h => absurd h (Nat.not_lt_zero _)⟩
  case round =>
    obtain ⟨rfl, hb, k, hk, rfl, hj⟩ := hrel
    have Hj := Lib.hid hj
    clear hj
    by_cases hlt : k < s.size
    · have hrange : 0 ≤ (s[k].toNat : Int) := by omega
      by_cases hc : lowc s[k] = true
      · have step : NameTo s (k + 1) := fun i hi hik => by
          by_cases e : i = k
          · subst e; exact ⟨(nextc_iff _).2 (.inl hc), fun _ => hc⟩
          · exact Hj.out i hi (by omega)
        have hc' := (lowc_iff _).1 hc
        clear hc
        rcases hc' with ⟨c1, c2⟩ | ⟨c1, c2⟩
        all_goals
          have Step := Lib.hid step
          clear step
          go_wp2
          go_roundw
          case rel => exact ⟨rfl, hb, k + 1, by omega, by go_num, Step.out⟩
          case measure => simp [intOf]; omega
      · have hc' : ¬ ((97 ≤ (s[k].toNat : Int) ∧ (s[k].toNat : Int) ≤ 122) ∨ (48 ≤ (s[k].toNat : Int) ∧ (s[k].toNat : Int) ≤ 57)) := fun h => hc ((lowc_iff _).2 h)
        have Hc := Lib.hid hc
        clear hc
        by_cases hn : k ≠ 0 ∧ ((s[k].toNat : Int) = 43 ∨ (s[k].toNat : Int) = 45)
        · have step : NameTo s (k + 1) := fun i hi hik => by
            by_cases e : i = k
            · subst e; exact ⟨(nextc_iff _).2 (.inr hn.2), fun h => absurd h hn.1⟩
            · exact Hj.out i hi (by omega)
          have Step := Lib.hid step
          clear step hc'
          obtain ⟨h0, h2⟩ := hn
          have h0' : (((k : Int)) == 0) = false := by simp; omega
          clear h0
          rcases h2 with h2 | h2
          · have a1 : ((s[k].toNat : Int) != 43) = false := by simp; omega
            have a2 : (s[k].toNat : Int) < 97 := by omega
            have a3 : (s[k].toNat : Int) < 48 := by omega
            clear h2
            go_wp2
            go_roundw
            case rel => exact ⟨rfl, hb, k + 1, by omega, by go_num, Step.out⟩
            case measure => simp [intOf]; omega
          · have a1 : ((s[k].toNat : Int) != 43) = true := by simp; omega
            have a4 : ((s[k].toNat : Int) != 45) = false := by simp; omega
            have a2 : (s[k].toNat : Int) < 97 := by omega
            have a3 : (s[k].toNat : Int) < 48 := by omega
            clear h2
            go_wp2
            go_roundw
            case rel => exact ⟨rfl, hb, k + 1, by omega, by go_num, Step.out⟩
            case measure => simp [intOf]; omega
        · have fin : nameOk s = false := by
            refine NameTo.no hlt ?_
            by_cases h0 : k = 0
            · exact .inr ⟨h0, by simpa using Hc.out⟩
            · refine .inl (nextc_no ?_)
              rintro (h | h)
              · exact Hc.out h
              · exact hn ⟨h0, h⟩
          have Fin := Lib.hid fin
          clear fin
          have d : (s[k].toNat : Int) < 48 ∨ (57 < (s[k].toNat : Int) ∧ (s[k].toNat : Int) < 97) ∨ 122 < (s[k].toNat : Int) := by omega
          have d0 : k = 0 ∨ (0 < k ∧ ((s[k].toNat : Int) != 43) = true ∧ ((s[k].toNat : Int) != 45) = true) := by simp; omega
          clear hn hc'
          rcases d0 with rfl | ⟨d0, d1, d2⟩
          · rcases d with d | ⟨d, d'⟩ | d
            all_goals
              go_wp2
              all_goals first | (go_ret; exact ⟨ret_bool Fin.out.symm, hb⟩) | (rename_i h; exfalso; simp at h; omega)
          · have d0' : (((k : Int)) == 0) = false := by simp; omega
            rcases d with d | ⟨d, d'⟩ | d
            all_goals
              go_wp2
              all_goals first | (go_ret; exact ⟨ret_bool Fin.out.symm, hb⟩) | (rename_i h; exfalso; simp at h; omega)
    · have hks : k = s.size := by omega
      have fin := NameTo.yes (hks ▸ Hj.out)
      clear hks
      have Fin := Lib.hid fin
      clear fin
      go_wp2
      all_goals
        go_ret
        refine ⟨ret_bool ?_, hb⟩
        rw [Fin.out]
        first | rfl | (simp_all; done) | trace_state

end Go.Proofs.YtppbjmhllmaakaaGreatDoor
