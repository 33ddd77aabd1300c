/- Contracts: the program's versions, on. -/
import Derived.Test.YtppbjmhllmaakaaGreatDoorC5
set_option linter.unusedVariables false
namespace Go.Proofs.YtppbjmhllmaakaaGreatDoor
open Go.RowKit

set_option maxHeartbeats 400000 in
theorem part_any (v : Ver) (k : Nat) (va : List Value) (S : Nat → Prop) (w : World) (h : Cd.rep w S v va) (hk : (k : Int) ≤ 9223372036854775807) :
    Calls Tryz.prog 178 #[.agg va.toArray, .int .i64 k] w fun e w' => e = .returned (.int .i64 (pt v.parts k)) ∧ Below w.heap.size w w' := by
  obtain ⟨A, ca, rfl, ha, hta⟩ := h
  have hla := ha.len
  by_cases h1 : k < v.parts.length
  · obtain ⟨b1, o1, rfl, hb1, hs1, hc1⟩ := ha.getI k h1
    have fin := Lib.hid (pt_lt h1)
    go_enter Tryz.func178, Tryz.ntmps178
    go_wp2
    go_ret
    exact ⟨ret_int fin.out.symm, by (repeat (first | exact Below.refl _ _ | assumption | (refine Below.setCell ?_ (by first | omega | (simp; done) | (simp; omega) | exact Below.size (by assumption)) _) | (refine Below.alloc ?_ (by first | omega | (simp; done) | (simp; omega) | exact Below.size (by assumption)) _) | refine Below.drew ?_ | refine Below.trans0 ?_ (by assumption)))⟩
  · have fin := Lib.hid (pt_ge h1)
    go_enter Tryz.func178, Tryz.ntmps178
    go_wp2
    go_ret
    exact ⟨ret_int fin.out.symm, by (repeat (first | exact Below.refl _ _ | assumption | (refine Below.setCell ?_ (by first | omega | (simp; done) | (simp; omega) | exact Below.size (by assumption)) _) | (refine Below.alloc ?_ (by first | omega | (simp; done) | (simp; omega) | exact Below.size (by assumption)) _) | refine Below.drew ?_ | refine Below.trans0 ?_ (by assumption)))⟩

theorem cmpI_len {a b : ByteArray} (ha : a.toList = []) (hb : ¬ b.toList = []) : cmpI b.size a.size = tcmp a b := by
  have e1 : a.size = 0 := by rw [ByteArray.toList_eq] at ha; rw [← ByteArray.size_data, ← Array.length_toList, ha]; rfl
  have e2 : 0 < b.size := by
    rcases Nat.eq_zero_or_pos b.size with h | h
    · exfalso; apply hb; rw [ByteArray.toList_eq]; apply List.eq_nil_of_length_eq_zero; simpa using h
    · exact h
  unfold cmpI tcmp
  rw [if_neg (by omega), if_pos (by omega), if_neg (by rw [ha]; simp; exact fun e => hb e), if_pos (by simp [ha])]
theorem cmpI_len' {a b : ByteArray} (ha : ¬ a.toList = []) (hb : b.toList = []) : cmpI b.size a.size = tcmp a b := by
  have e1 : b.size = 0 := by rw [ByteArray.toList_eq] at hb; rw [← ByteArray.size_data, ← Array.length_toList, hb]; rfl
  have e2 : 0 < a.size := by
    rcases Nat.eq_zero_or_pos a.size with h | h
    · exfalso; apply ha; rw [ByteArray.toList_eq]; apply List.eq_nil_of_length_eq_zero; simpa using h
    · exact h
  unfold cmpI tcmp
  rw [if_pos (by omega), if_neg (by rw [hb]; simpa using ha), if_neg (by simpa using ha), if_pos (by simp [hb])]
theorem bytesLess_irrefl (a : List UInt8) : Op.bytesLess a a = false := by
  induction a with
  | nil => rfl
  | cons c r ih => simp [Op.bytesLess, ih]
theorem bytesLess_nil_left {a : List UInt8} (h : ¬ a = []) : Op.bytesLess [] a = true := by
  cases a with
  | nil => exact absurd rfl h
  | cons c r => rfl
theorem bytesLess_nil_right (a : List UInt8) : Op.bytesLess a [] = false := by cases a <;> rfl
theorem cmpS_tcmp {a b : ByteArray} (h : a.toList = [] ↔ b.toList = []) : cmpS a b = tcmp a b := by
  unfold cmpS tcmp
  by_cases e : a.toList = b.toList
  · rw [e, bytesLess_irrefl]; simp
  · have ha : ¬ a.toList = [] := fun x => e (x.trans (h.1 x).symm)
    have hb : ¬ b.toList = [] := fun x => ha (h.2 x)
    simp [e, ha, hb]
theorem pcmp_cmpI {a b : List Int} {k n : Nat} (hk : k < n) : pcmp a b k (n - k) = if cmpI (pt a k) (pt b k) = 0 then pcmp a b (k + 1) (n - (k + 1)) else cmpI (pt a k) (pt b k) := by
  rw [pcmp_step hk, cmpI]
  split
  · rfl
  · split
    · rfl
    · rfl

set_option maxHeartbeats 2000000 in
theorem against_any (a b : Ver) (va vb : List Value) (S T : Nat → Prop) (w : World) (ha : Cd.rep w S a va) (hb : Cd.rep w T b vb) :
    Calls Tryz.prog 143 #[.agg va.toArray, .agg vb.toArray] w fun e w' => e = .returned (.int .i64 (vcmp a b)) ∧ Below w.heap.size w w' := by
  have ra := ha
  have rb := hb
  obtain ⟨A, ca, rfl, ha, hta⟩ := ha
  obtain ⟨B, cb, rfl, hb, htb⟩ := hb
  have hla := ha.len
  have hlb := hb.len
  go_enter Tryz.func143, Tryz.ntmps143
  go_wp2
  refine region_quiet (by kernel_rfl) (by kernel_rfl) ?_
  repeat (go_big_quiet_step (fail))
  refine wpQuiet_nil ?_
  intro W1 hw1
  replace hw1 := below_of_ext hw1
  have z0 : w.heap.size < W1.heap.size := by have := hw1.size; simp at this; omega
  have z1 : w.heap.size + 1 < W1.heap.size := by have := hw1.size; simp at this; omega
  obtain ⟨q1, -⟩ := bcell hw1
  have x0 := q1 w.heap.size 0 (by simp; omega)
  have x1 := q1 w.heap.size 1 (by simp; omega)
  have y0 := q1 (w.heap.size + 1) 0 (by simp)
  have y1 := q1 (w.heap.size + 1) 1 (by simp)
  simp at x0 x1 y0 y1
  have hbW : Below w.heap.size w W1 := by (repeat (first | exact Below.refl _ _ | assumption | (refine Below.setCell ?_ (by first | omega | (simp; done) | (simp; omega) | exact Below.size (by assumption)) _) | (refine Below.alloc ?_ (by first | omega | (simp; done) | (simp; omega) | exact Below.size (by assumption)) _) | refine Below.drew ?_ | refine Below.trans0 ?_ (by assumption)))
  clear q1 hw1
  by_cases hmx : a.parts.length < b.parts.length
  · have hmx' : max a.parts.length b.parts.length = b.parts.length := by omega
    have Hmx := Lib.hid hmx'
    clear hmx'
    go_wp2
    go_loopw [4, 7, 8, 20] (fun r x y c wr => r = .int .i64 0 ∧ Below W1.heap.size W1 wr ∧ ∃ k : Nat, k ≤ b.parts.length ∧ c = .int .i64 k ∧ Hid (pcmp a.parts b.parts 0 b.parts.length = pcmp a.parts b.parts k (b.parts.length - k))) (fun _ _ _ c _ => b.parts.length - (intOf c).toNat)
    case atStart => exact ⟨rfl, Below.refl _ _, 0, Nat.zero_le _, rfl, Lib.hid rfl⟩
    case round =>
      obtain ⟨rfl, hx, k, hk, rfl, Hp⟩ := hrel
      obtain ⟨q1, -⟩ := bcell hx
      rw [← q1 _ _ z0] at x0 x1
      rw [← q1 _ _ z1] at y0 y1
      clear q1
      have hW := hbW.trans (hx.mono hbW.size)
      by_cases hlt : k < b.parts.length
      · have hp2 := Lib.hid (pcmp_cmpI (a := a.parts) (b := b.parts) hlt)
        generalize hg : cmpI (pt a.parts k) (pt b.parts k) = g at *
        have Hg := Lib.hid hg
        clear hg
        by_cases h0 : g = 0
        · have h0' : (g != 0) = false := by simp [h0]
          have H0 := Lib.hid h0
          clear h0
          go_wp2_with fail
          refine (part_any a k _ S _ (ra.below hW) (by omega)).mono ?_
          rintro e w1 ⟨rfl, hw1⟩
          go_wp2_with fail
          refine (part_any b k _ T _ (rb.below (hW.trans (hw1.mono hW.size))) (by omega)).mono ?_
          rintro e w2 ⟨rfl, hw2⟩
          go_wp2_with fail
          refine (cmpI_any _ _ _).mono ?_
          rintro e w3 ⟨rfl, rfl⟩
          rw [Hg.out]
          go_wp2
          go_roundw
          case rel => exact ⟨rfl, (hx.trans (hw1.mono hx.size)).trans (hw2.mono (Nat.le_trans hx.size hw1.size)), k + 1, by omega, by go_num, Lib.hid (by rw [Hp.out, hp2.out, if_pos H0.out])⟩
          case measure => simp [intOf]; omega
        · have h0' : (g != 0) = true := by simp [h0]
          have H0 := Lib.hid h0
          clear h0
          go_wp2_with fail
          refine (part_any a k _ S _ (ra.below hW) (by omega)).mono ?_
          rintro e w1 ⟨rfl, hw1⟩
          go_wp2_with fail
          refine (part_any b k _ T _ (rb.below (hW.trans (hw1.mono hW.size))) (by omega)).mono ?_
          rintro e w2 ⟨rfl, hw2⟩
          go_wp2_with fail
          refine (cmpI_any _ _ _).mono ?_
          rintro e w3 ⟨rfl, rfl⟩
          rw [Hg.out]
          go_wp2
          go_ret
          exact ⟨ret_int (vcmp_lt (by rw [Hmx.out, Hp.out, hp2.out, if_neg H0.out]) H0.out).symm, (hW.trans (hw1.mono hW.size)).trans (hw2.mono (Nat.le_trans hW.size hw1.size))⟩
      · have hk0 : k = b.parts.length := by omega
        have fin : vcmp a b = tcmp a.tail b.tail := vcmp_eq (by rw [Hmx.out, Hp.out, hk0, Nat.sub_self]; rfl)
        have Fin := Lib.hid fin
        clear fin hk0
        by_cases ea : a.tail.toList = [] <;> by_cases eb : b.tail.toList = []
        · have f2 := Lib.hid (cmpS_tcmp (a := a.tail) (b := b.tail) ⟨fun _ => eb, fun _ => ea⟩)
          have hne : (a.tail.toList.isEmpty == b.tail.toList.isEmpty) = true := by
            generalize a.tail.toList = x at ea
            generalize b.tail.toList = y at eb
            cases x <;> cases y <;> simp_all
          clear ea eb
          go_wp2_with (go_at_call 180; refine (cmpS_any _ _ _).mono ?_; rintro e w3 ⟨rfl, rfl⟩)
          go_ret
          exact ⟨ret_int (by rw [Fin.out, f2.out]), hW⟩
        · have f2 := Lib.hid (cmpI_len ea eb)
          have hne : (a.tail.toList.isEmpty == b.tail.toList.isEmpty) = false := by
            generalize a.tail.toList = x at ea
            generalize b.tail.toList = y at eb
            cases x <;> cases y <;> simp_all
          clear ea eb
          go_wp2_with (go_at_call 179; refine (cmpI_any _ _ _).mono ?_; rintro e w3 ⟨rfl, rfl⟩)
          go_ret
          exact ⟨ret_int (by rw [Fin.out, f2.out]), hW⟩
        · have f2 := Lib.hid (cmpI_len' ea eb)
          have hne : (a.tail.toList.isEmpty == b.tail.toList.isEmpty) = false := by
            generalize a.tail.toList = x at ea
            generalize b.tail.toList = y at eb
            cases x <;> cases y <;> simp_all
          clear ea eb
          go_wp2_with (go_at_call 179; refine (cmpI_any _ _ _).mono ?_; rintro e w3 ⟨rfl, rfl⟩)
          go_ret
          exact ⟨ret_int (by rw [Fin.out, f2.out]), hW⟩
        · have f2 := Lib.hid (cmpS_tcmp (a := a.tail) (b := b.tail) ⟨fun h => absurd h ea, fun h => absurd h eb⟩)
          have hne : (a.tail.toList.isEmpty == b.tail.toList.isEmpty) = true := by
            generalize a.tail.toList = x at ea
            generalize b.tail.toList = y at eb
            cases x <;> cases y <;> simp_all
          clear ea eb
          go_wp2_with (go_at_call 180; refine (cmpS_any _ _ _).mono ?_; rintro e w3 ⟨rfl, rfl⟩)
          go_ret
          exact ⟨ret_int (by rw [Fin.out, f2.out]), hW⟩
  · have hmx' : max a.parts.length b.parts.length = a.parts.length := by omega
    have Hmx := Lib.hid hmx'
    clear hmx'
    go_wp2
    go_loopw [4, 7, 8, 20] (fun r x y c wr => r = .int .i64 0 ∧ Below W1.heap.size W1 wr ∧ ∃ k : Nat, k ≤ a.parts.length ∧ c = .int .i64 k ∧ Hid (pcmp a.parts b.parts 0 a.parts.length = pcmp a.parts b.parts k (a.parts.length - k))) (fun _ _ _ c _ => a.parts.length - (intOf c).toNat)
    case atStart => exact ⟨rfl, Below.refl _ _, 0, Nat.zero_le _, rfl, Lib.hid rfl⟩
    case round =>
      obtain ⟨rfl, hx, k, hk, rfl, Hp⟩ := hrel
      obtain ⟨q1, -⟩ := bcell hx
      rw [← q1 _ _ z0] at x0 x1
      rw [← q1 _ _ z1] at y0 y1
      clear q1
      have hW := hbW.trans (hx.mono hbW.size)
      by_cases hlt : k < a.parts.length
      · have hp2 := Lib.hid (pcmp_cmpI (a := a.parts) (b := b.parts) hlt)
        generalize hg : cmpI (pt a.parts k) (pt b.parts k) = g at *
        have Hg := Lib.hid hg
        clear hg
        by_cases h0 : g = 0
        · have h0' : (g != 0) = false := by simp [h0]
          have H0 := Lib.hid h0
          clear h0
          go_wp2_with fail
          refine (part_any a k _ S _ (ra.below hW) (by omega)).mono ?_
          rintro e w1 ⟨rfl, hw1⟩
          go_wp2_with fail
          refine (part_any b k _ T _ (rb.below (hW.trans (hw1.mono hW.size))) (by omega)).mono ?_
          rintro e w2 ⟨rfl, hw2⟩
          go_wp2_with fail
          refine (cmpI_any _ _ _).mono ?_
          rintro e w3 ⟨rfl, rfl⟩
          rw [Hg.out]
          go_wp2
          go_roundw
          case rel => exact ⟨rfl, (hx.trans (hw1.mono hx.size)).trans (hw2.mono (Nat.le_trans hx.size hw1.size)), k + 1, by omega, by go_num, Lib.hid (by rw [Hp.out, hp2.out, if_pos H0.out])⟩
          case measure => simp [intOf]; omega
        · have h0' : (g != 0) = true := by simp [h0]
          have H0 := Lib.hid h0
          clear h0
          go_wp2_with fail
          refine (part_any a k _ S _ (ra.below hW) (by omega)).mono ?_
          rintro e w1 ⟨rfl, hw1⟩
          go_wp2_with fail
          refine (part_any b k _ T _ (rb.below (hW.trans (hw1.mono hW.size))) (by omega)).mono ?_
          rintro e w2 ⟨rfl, hw2⟩
          go_wp2_with fail
          refine (cmpI_any _ _ _).mono ?_
          rintro e w3 ⟨rfl, rfl⟩
          rw [Hg.out]
          go_wp2
          go_ret
          exact ⟨ret_int (vcmp_lt (by rw [Hmx.out, Hp.out, hp2.out, if_neg H0.out]) H0.out).symm, (hW.trans (hw1.mono hW.size)).trans (hw2.mono (Nat.le_trans hW.size hw1.size))⟩
      · have hk0 : k = a.parts.length := by omega
        have fin : vcmp a b = tcmp a.tail b.tail := vcmp_eq (by rw [Hmx.out, Hp.out, hk0, Nat.sub_self]; rfl)
        have Fin := Lib.hid fin
        clear fin hk0
        by_cases ea : a.tail.toList = [] <;> by_cases eb : b.tail.toList = []
        · have f2 := Lib.hid (cmpS_tcmp (a := a.tail) (b := b.tail) ⟨fun _ => eb, fun _ => ea⟩)
          have hne : (a.tail.toList.isEmpty == b.tail.toList.isEmpty) = true := by
            generalize a.tail.toList = x at ea
            generalize b.tail.toList = y at eb
            cases x <;> cases y <;> simp_all
          clear ea eb
          go_wp2_with (go_at_call 180; refine (cmpS_any _ _ _).mono ?_; rintro e w3 ⟨rfl, rfl⟩)
          go_ret
          exact ⟨ret_int (by rw [Fin.out, f2.out]), hW⟩
        · have f2 := Lib.hid (cmpI_len ea eb)
          have hne : (a.tail.toList.isEmpty == b.tail.toList.isEmpty) = false := by
            generalize a.tail.toList = x at ea
            generalize b.tail.toList = y at eb
            cases x <;> cases y <;> simp_all
          clear ea eb
          go_wp2_with (go_at_call 179; refine (cmpI_any _ _ _).mono ?_; rintro e w3 ⟨rfl, rfl⟩)
          go_ret
          exact ⟨ret_int (by rw [Fin.out, f2.out]), hW⟩
        · have f2 := Lib.hid (cmpI_len' ea eb)
          have hne : (a.tail.toList.isEmpty == b.tail.toList.isEmpty) = false := by
            generalize a.tail.toList = x at ea
            generalize b.tail.toList = y at eb
            cases x <;> cases y <;> simp_all
          clear ea eb
          go_wp2_with (go_at_call 179; refine (cmpI_any _ _ _).mono ?_; rintro e w3 ⟨rfl, rfl⟩)
          go_ret
          exact ⟨ret_int (by rw [Fin.out, f2.out]), hW⟩
        · have f2 := Lib.hid (cmpS_tcmp (a := a.tail) (b := b.tail) ⟨fun h => absurd h ea, fun h => absurd h eb⟩)
          have hne : (a.tail.toList.isEmpty == b.tail.toList.isEmpty) = true := by
            generalize a.tail.toList = x at ea
            generalize b.tail.toList = y at eb
            cases x <;> cases y <;> simp_all
          clear ea eb
          go_wp2_with (go_at_call 180; refine (cmpS_any _ _ _).mono ?_; rintro e w3 ⟨rfl, rfl⟩)
          go_ret
          exact ⟨ret_int (by rw [Fin.out, f2.out]), hW⟩

set_option maxHeartbeats 400000 in
theorem compare_any (a b : Ver) (va vb : List Value) (S T : Nat → Prop) (w : World) (ha : Cd.rep w S a va) (hb : Cd.rep w T b vb) :
    Calls Tryz.prog 116 #[.agg va.toArray, .agg vb.toArray] w fun e w' => e = .returned (.int .i64 (vcmp a b)) ∧ Below w.heap.size w w' := by
  have ra := ha
  have rb := hb
  obtain ⟨A, ca, rfl, ha, hta⟩ := ha
  obtain ⟨B, cb, rfl, hb, htb⟩ := hb
  go_enter Tryz.func116, Tryz.ntmps116
  go_wp2_with (go_at_call 143; refine (against_any a b [_, _] [_, _] S T _ (ra.below (by (repeat (first | exact Below.refl _ _ | assumption | (refine Below.setCell ?_ (by first | omega | (simp; done) | (simp; omega) | exact Below.size (by assumption)) _) | (refine Below.alloc ?_ (by first | omega | (simp; done) | (simp; omega) | exact Below.size (by assumption)) _) | refine Below.drew ?_ | refine Below.trans0 ?_ (by assumption))))) (rb.below (by (repeat (first | exact Below.refl _ _ | assumption | (refine Below.setCell ?_ (by first | omega | (simp; done) | (simp; omega) | exact Below.size (by assumption)) _) | (refine Below.alloc ?_ (by first | omega | (simp; done) | (simp; omega) | exact Below.size (by assumption)) _) | refine Below.drew ?_ | refine Below.trans0 ?_ (by assumption)))))).mono ?_; rintro e w1 ⟨rfl, hw1⟩)
  go_ret
  exact ⟨rfl, by (repeat (first | exact Below.refl _ _ | assumption | (refine Below.setCell ?_ (by first | omega | (simp; done) | (simp; omega) | exact Below.size (by assumption)) _) | (refine Below.alloc ?_ (by first | omega | (simp; done) | (simp; omega) | exact Below.size (by assumption)) _) | refine Below.drew ?_ | refine Below.trans0 ?_ (by assumption)))⟩

set_option maxHeartbeats 1000000 in
theorem holds_any (op : Int) (a b : Ver) (va vb : List Value) (S T : Nat → Prop) (w : World) (ha : Cd.rep w S a va) (hb : Cd.rep w T b vb) :
    Calls Tryz.prog 70 #[.int .i64 op, .agg va.toArray, .agg vb.toArray] w fun e w' => e = .returned (.tuple #[.bool (vholds op a b), .int .i64 (vholdsE op)]) ∧ Below w.heap.size w w' := by
  have ha' := ha
  have hb' := hb
  obtain ⟨A, ca, rfl, -, -⟩ := ha
  obtain ⟨B, cb, rfl, -, -⟩ := hb
  generalize hv : vcmp a b = c
  have Hv := Lib.hid hv
  clear hv
  have e1 : vholds op a b = (if op = 0 then true else if op = 1 then (c == 0) else if op = 2 then decide (c < 0) else if op = 3 then decide (c ≤ 0) else if op = 4 then decide (0 < c) else if op = 5 then decide (0 ≤ c) else if op = 6 then (c != 0) else false) := by
    unfold vholds; simp only [Hv.out]
  have E1 := Lib.hid e1
  clear e1
  have cases7 : op = 0 ∨ op = 1 ∨ op = 2 ∨ op = 3 ∨ op = 4 ∨ op = 5 ∨ op = 6 ∨ (op < 0 ∨ 6 < op) := by omega
  rcases cases7 with rfl | rfl | rfl | rfl | rfl | rfl | rfl | h
  all_goals
    go_enter Tryz.func70, Tryz.ntmps70
    go_wp2_with (go_at_call 116; refine (compare_any a b [_, _] [_, _] S T _ (ha'.below (by (repeat (first | exact Below.refl _ _ | assumption | (refine Below.setCell ?_ (by first | omega | (simp; done) | (simp; omega) | exact Below.size (by assumption)) _) | (refine Below.alloc ?_ (by first | omega | (simp; done) | (simp; omega) | exact Below.size (by assumption)) _) | refine Below.drew ?_ | refine Below.trans0 ?_ (by assumption))))) (hb'.below (by (repeat (first | exact Below.refl _ _ | assumption | (refine Below.setCell ?_ (by first | omega | (simp; done) | (simp; omega) | exact Below.size (by assumption)) _) | (refine Below.alloc ?_ (by first | omega | (simp; done) | (simp; omega) | exact Below.size (by assumption)) _) | refine Below.drew ?_ | refine Below.trans0 ?_ (by assumption)))))).mono ?_; rintro e w1 ⟨rfl, hw1⟩; rw [Hv.out])
    all_goals
      go_ret2
      refine ⟨ret_bi ?_ ?_, by (repeat (first | exact Below.refl _ _ | assumption | (refine Below.setCell ?_ (by first | omega | (simp; done) | (simp; omega) | exact Below.size (by assumption)) _) | (refine Below.alloc ?_ (by first | omega | (simp; done) | (simp; omega) | exact Below.size (by assumption)) _) | refine Below.drew ?_ | refine Below.trans0 ?_ (by assumption)))⟩
      · rw [E1.out]
        first
          | rfl
          | (simp; done)
          | (by_cases g : c < 0 <;> by_cases g' : 0 < c <;> simp [g, g'] <;> omega)
          | (simp_all; done)
          | (simp_all; omega)
          | trace_state
      · first
          | rfl
          | (unfold vholdsE; rw [if_neg (by omega)])
          | trace_state

end Go.Proofs.YtppbjmhllmaakaaGreatDoor
