/- Contract: NeedBack (of a text that is not too great). -/
import Derived.Test.YtppbjmhllmaakaaGreatDoorC70
import Derived.Test.YtppbjmhllmaakaaGreatDoorX26
set_option linter.unusedVariables false
namespace Go.Proofs.YtppbjmhllmaakaaGreatDoor
open Go.RowKit

theorem txt_small {l : List Clause} (h : clausesOk l = true) : (txt (clausesTold l)).size < 4294967281 := by
  rw [txt_size]
  unfold clausesTold
  rw [if_pos h]
  unfold clausesOk at h
  simp only [Bool.and_eq_true, decide_eq_true_eq, List.all_eq_true] at h
  have := join_len [44, 32] (l.map clauseTold) 9000 (fun x hx => by
    obtain ⟨c, hc, rfl⟩ := List.mem_map.1 hx
    exact clauseTold_len (h.2 c hc))
  rw [List.length_map] at this
  have h2 : l.length * (9000 + ([44, 32] : List UInt8).length) ≤ 32 * (9000 + 2) := Nat.mul_le_mul h.1 (Nat.le_refl _)
  omega

/-- What the law does with its text. -/
def BackTail (s : ByteArray) (r : Option (List Clause)) : Prop := match r with | some m => clausesOk m = true ∧ txt (clausesTold m) = s | none => True
theorem back_tail (s : ByteArray) : BackTail s (clausesParse s) := by
  unfold BackTail
  cases h : clausesParse s with
  | none => exact trivial
  | some m => exact clauses_read h

set_option maxHeartbeats 0 in
set_option maxRecDepth 100000 in
theorem needBack_any (s : ByteArray) (l : List Clause) (A : Option Addr) (ca : Nat) (S : Nat → Prop) (w : World) (h : Arr w S A l) (hs : s.size ≤ 1048576) (hN : LaidN w) :
    Calls Tryz.prog 6 #[.string s, .slice A l.length ca] w fun e w' => e = .returned (.bool true) ∧ Below w.heap.size w w' := by
  have hpr := Lib.hid (fun W (hb : Below w.heap.size w W) => print_any l A ca S W (h.below hb) (hN.below hb))
  have hps := Lib.hid (fun W (hb : Below w.heap.size w W) => parse_any s W (by omega) (hN.below hb))
  have tl := back_tail s
  generalize clausesParse s = R at *
  have Htl := Lib.hid tl
  clear tl
  have fin : ∀ (W : World), Below w.heap.size w W → True := fun _ _ => trivial
  clear fin
  go_enter Tryz.func6, Tryz.ntmps6
  go_wp2_with fail
  refine (works18_any _ hN).mono ?_
  rintro e w1 ⟨rfl, hw1⟩
  go_wp2_with fail
  refine (hpr.out _ hw1).mono ?_
  rintro e w2 ⟨rfl, hw2⟩
  have B2 := Below.trans0 hw1 hw2 hw1.size
  clear hpr
  cases hok : clausesOk l
  · clear hok
    go_wp2_with fail
    refine (hps.out _ B2).mono ?_
    intro e w3 hr
    obtain ⟨hw3, hr⟩ := hr
    have B3 := Below.trans0 B2 hw3 B2.size
    clear hps
    cases R with
    | none =>
      simp only at hr
      subst hr
      go_wp2
      go_ret
      exact ⟨rfl, B3⟩
    | some m =>
      obtain ⟨M, cm, rfl, hM⟩ := hr
      obtain ⟨ho, ht⟩ := Htl.out
      have hpm := Lib.hid (print_any m M cm _ w3 hM (hN.below B3))
      rw [ho, ht] at hpm
      clear ho ht Htl
      go_wp2_with fail
      refine hpm.out.mono ?_
      rintro e w4 ⟨rfl, hw4⟩
      clear hpm
      go_wp2
      go_ret
      exact ⟨rfl, Below.trans0 B3 hw4 B3.size⟩
  · have hpt := Lib.hid (fun W (hb : Below w.heap.size w W) => parse_any (txt (clausesTold l)) W (txt_small hok) (hN.below hb))
    rw [clauses_told hok] at hpt
    generalize txt (clausesTold l) = t at *
    clear hok
    go_wp2_with fail
    refine (hpt.out _ B2).mono ?_
    intro e w3 hr
    obtain ⟨hw3, M, cm, rfl, hM⟩ := hr
    have B3 := Below.trans0 B2 hw3 B2.size
    clear hpt
    have hsame := Lib.hid (sameClauses_any l M A cm ca _ S w3 hM (h.below B3))
    clear hM
    go_wp2_with fail
    refine hsame.out.mono ?_
    rintro e w4 ⟨rfl, hw4⟩
    have B4 := Below.trans0 B3 hw4 B3.size
    clear hsame
    go_wp2_with fail
    refine (hps.out _ B4).mono ?_
    intro e w5 hr
    obtain ⟨hw5, hr⟩ := hr
    have B5 := Below.trans0 B4 hw5 B4.size
    clear hps
    cases R with
    | none =>
      simp only at hr
      subst hr
      go_wp2
      go_ret
      exact ⟨rfl, B5⟩
    | some m =>
      obtain ⟨M, cm, rfl, hM⟩ := hr
      obtain ⟨ho, ht⟩ := Htl.out
      have hpm := Lib.hid (print_any m M cm _ w5 hM (hN.below B5))
      rw [ho, ht] at hpm
      clear ho ht Htl
      go_wp2_with fail
      refine hpm.out.mono ?_
      rintro e w6 ⟨rfl, hw6⟩
      clear hpm
      go_wp2
      go_ret
      exact ⟨rfl, Below.trans0 B5 hw6 B5.size⟩

end Go.Proofs.YtppbjmhllmaakaaGreatDoor
