/- Contracts: the program's version.Check, need.word, need.right, need.Check. -/
import Derived.Test.YtppbjmhllmaakaaGreatDoorC8
set_option linter.unusedVariables false
namespace Go.Proofs.YtppbjmhllmaakaaGreatDoor
open Go.RowKit

theorem dropWhile_nil {p : UInt8 → Bool} : ∀ {l : List UInt8}, l.dropWhile p = [] ↔ l.all p = true
  | [] => by simp
  | c :: r => by
    rw [List.dropWhile_cons]
    cases h : p c
    · simp [h]
    · simp only [if_true, List.all_cons, h, Bool.true_and]; exact dropWhile_nil
theorem dropWhile_head {p : UInt8 → Bool} : ∀ {l : List UInt8} {c : UInt8} {r : List UInt8}, l.dropWhile p = c :: r → p c = false
  | [], _, _, h => by simp at h
  | x :: t, c, r, h => by
    rw [List.dropWhile_cons] at h
    cases hx : p x
    · rw [hx] at h; simp at h; rw [← h.1]; exact hx
    · rw [hx] at h; simp at h; exact dropWhile_head h
theorem trim_nil {l cs : List UInt8} : Lib.trimS l cs = [] ↔ l.all (cs.contains ·) = true := by
  unfold Lib.trimS Lib.trimLeftS Lib.trimRightS
  rw [dropWhile_nil]
  constructor
  · intro h
    cases hd : l.reverse.dropWhile (cs.contains ·) with
    | nil =>
      have := dropWhile_nil.1 hd
      rwa [List.all_reverse] at this
    | cons c r =>
      have h1 := dropWhile_head hd
      rw [hd, List.all_reverse, List.all_cons, h1] at h
      cases h
  · intro h
    have : l.reverse.dropWhile (cs.contains ·) = [] := dropWhile_nil.2 (by rwa [List.all_reverse])
    rw [this]; rfl
theorem letters_contains (c : UInt8) : letters.data.toList.contains c = lowc c := by
  have : ∀ n : Fin 256, letters.data.toList.contains (UInt8.ofNat n.1) = lowc (UInt8.ofNat n.1) := by decide +kernel
  have h := this ⟨c.toNat, c.toNat_lt⟩
  simpa using h
theorem letters_ascii : ∀ (j : Nat) b, letters.data.toList[j]? = some b → b.toNat < 128 := ascii_of_all (by decide +kernel)

set_option maxHeartbeats 400000 in
theorem tailed_any (s : ByteArray) (w : World) (hs : s.size ≤ reach) :
    Calls Tryz.prog 133 #[.string s] w fun e w' => e = .returned (.bool (tailOk s)) ∧ Below w.heap.size w w' := by
  unfold reach at hs
  by_cases h8 : s.size ≤ 8
  · have ht := Any.strings_Trim_laid Tryz.lays160 (by kernel_rfl) s letters w (by omega) (by rw [show letters.size = 36 from rfl]; omega) letters_ascii
    have fin : tailOk s = decide (Lib.trimS s.data.toList letters.data.toList = []) := by
      unfold tailOk
      rw [decide_eq_true h8, Bool.and_true]
      have : s.data.toList.all lowc = s.data.toList.all (letters.data.toList.contains ·) := by
        congr 1; funext c; exact (letters_contains c).symm
      rw [this]
      by_cases g : s.data.toList.all (letters.data.toList.contains ·) = true
      · rw [g, decide_eq_true (trim_nil.2 g)]
      · rw [decide_eq_false (fun e => g (trim_nil.1 e))]; simpa using g
    have Fin := Lib.hid fin
    clear fin
    generalize Lib.trimS s.data.toList letters.data.toList = r at *
    have Ht := Lib.hid ht
    clear ht
    go_enter Tryz.func133, Tryz.ntmps133
    go_wp2_with fail
    refine Ht.out.mono ?_
    rintro e w1 ⟨rfl, hw1⟩
    go_wp2
    go_ret
    refine ⟨ret_bool ?_, hw1⟩
    rw [Fin.out]
    cases r <;> simp
  · have fin : tailOk s = false := by unfold tailOk; rw [decide_eq_false h8]; simp
    have Fin := Lib.hid fin
    clear fin
    go_enter Tryz.func133, Tryz.ntmps133
    go_wp2
    go_ret
    exact ⟨ret_bool Fin.out.symm, Below.refl _ _⟩

theorem odd_pred (w : World) (S : Nat → Prop) (l : List Int) : PredI 131 #[] w S (fun n => !(decide (0 ≤ n) && decide (n ≤ 999999))) l := by
  intro x hx W hb hi
  by_cases h1 : x < 0
  · have fin := Lib.hid (show (!(decide (0 ≤ x) && decide (x ≤ 999999))) = true by simp; omega)
    go_enter Tryz.func131, Tryz.ntmps131
    go_wp2
    go_ret
    exact ⟨ret_bool fin.out.symm, Below.refl _ _⟩
  · have fin := Lib.hid (show (!(decide (0 ≤ x) && decide (x ≤ 999999))) = decide (999999 < x) by
      rw [decide_eq_true (p := 0 ≤ x) (by omega), Bool.true_and]
      by_cases h2 : x ≤ 999999
      · rw [decide_eq_true h2, decide_eq_false (by omega)]; rfl
      · rw [decide_eq_false h2, decide_eq_true (by omega)]; rfl)
    go_enter Tryz.func131, Tryz.ntmps131
    go_wp2
    go_ret
    exact ⟨ret_bool (by first | exact fin.out.symm | (by_cases h2 : x ≤ 999999 <;> simp [h2] <;> omega)), Below.refl _ _⟩

theorem any_not_all {α : Type} (p : α → Bool) (l : List α) : (l.any fun x => !p x) = !l.all p := by
  induction l with
  | nil => rfl
  | cons a r ih => simp [ih]

set_option maxHeartbeats 1000000 in
theorem checkV_any (v : Ver) (va : List Value) (S : Nat → Prop) (w : World) (h : Cd.rep w S v va) :
    Calls Tryz.prog 97 #[.agg va.toArray] w fun e w' => e = .returned (.int .i64 (okE (verOk v) 170)) ∧ Below w.heap.size w w' := by
  obtain ⟨A, ca, rfl, ha, hta⟩ := h
  have hla := ha.len
  have eg : ∀ args w, (callFunc 131 args).run Tryz.prog w = .ok (.enter 131 args) w := enters_of Tryz.func131 (by kernel_rfl) rfl
  by_cases h1 : v.parts.length < 1
  · have fin := Lib.hid (show verOk v = false by unfold verOk; simp; omega)
    go_enter Tryz.func97, Tryz.ntmps97
    go_wp2
    go_ret
    exact ⟨ret_int (by rw [fin.out]; rfl), by (repeat (first | exact Below.refl _ _ | assumption | (refine Below.setCell ?_ (by first | omega | (simp; done) | (simp; omega) | exact Below.size (by assumption)) _) | (refine Below.alloc ?_ (by first | omega | (simp; done) | (simp; omega) | exact Below.size (by assumption)) _) | refine Below.drew ?_ | refine Below.trans0 ?_ (by assumption)))⟩
  · by_cases h2 : 4 < v.parts.length
    · have fin := Lib.hid (show verOk v = false by unfold verOk; simp; omega)
      have h1' : 1 ≤ v.parts.length := by omega
      clear h1
      go_enter Tryz.func97, Tryz.ntmps97
      go_wp2
      go_ret
      exact ⟨ret_int (by rw [fin.out]; rfl), by (repeat (first | exact Below.refl _ _ | assumption | (refine Below.setCell ?_ (by first | omega | (simp; done) | (simp; omega) | exact Below.size (by assumption)) _) | (refine Below.alloc ?_ (by first | omega | (simp; done) | (simp; omega) | exact Below.size (by assumption)) _) | refine Below.drew ?_ | refine Below.trans0 ?_ (by assumption)))⟩
    · have fin := Lib.hid (show verOk v = ((v.parts.all fun n => decide (0 ≤ n) && decide (n ≤ 999999)) && tailOk v.tail) by
        unfold verOk; rw [decide_eq_true (by omega), decide_eq_true (by omega)]; rfl)
      cases hp : v.parts.all fun n => decide (0 ≤ n) && decide (n ≤ 999999)
      · have Hp := Lib.hid hp
        clear hp
        go_enter Tryz.func97, Tryz.ntmps97
        go_wp2_with fail
        refine (containsInt_any v.parts _ _ #[] _ _ S _ eg (ha.below (by (repeat (first | exact Below.refl _ _ | assumption | (refine Below.setCell ?_ (by first | omega | (simp; done) | (simp; omega) | exact Below.size (by assumption)) _) | (refine Below.alloc ?_ (by first | omega | (simp; done) | (simp; omega) | exact Below.size (by assumption)) _) | refine Below.drew ?_ | refine Below.trans0 ?_ (by assumption))))) (odd_pred _ S _)).mono ?_
        rintro e w1 ⟨rfl, hw1⟩
        rw [any_not_all, Hp.out]
        have z0 : w.heap.size < w1.heap.size := by have := hw1.size; simp at this; omega
        obtain ⟨q1, -⟩ := bcell hw1
        go_wp2
        go_ret
        exact ⟨ret_int (by rw [fin.out, Hp.out]; rfl), by (repeat (first | exact Below.refl _ _ | assumption | (refine Below.setCell ?_ (by first | omega | (simp; done) | (simp; omega) | exact Below.size (by assumption)) _) | (refine Below.alloc ?_ (by first | omega | (simp; done) | (simp; omega) | exact Below.size (by assumption)) _) | refine Below.drew ?_ | refine Below.trans0 ?_ (by assumption)))⟩
      · have Hp := Lib.hid hp
        clear hp
        cases ht : tailOk v.tail
        all_goals
          have Ht := Lib.hid ht
          clear ht
          go_enter Tryz.func97, Tryz.ntmps97
          go_wp2_with fail
          refine (containsInt_any v.parts _ _ #[] _ _ S _ eg (ha.below (by (repeat (first | exact Below.refl _ _ | assumption | (refine Below.setCell ?_ (by first | omega | (simp; done) | (simp; omega) | exact Below.size (by assumption)) _) | (refine Below.alloc ?_ (by first | omega | (simp; done) | (simp; omega) | exact Below.size (by assumption)) _) | refine Below.drew ?_ | refine Below.trans0 ?_ (by assumption))))) (odd_pred _ S _)).mono ?_
          rintro e w1 ⟨rfl, hw1⟩
          rw [any_not_all, Hp.out]
          have z0 : w.heap.size < w1.heap.size := by have := hw1.size; simp at this; omega
          have hb1 : Below w.heap.size w w1 := by (repeat (first | exact Below.refl _ _ | assumption | (refine Below.setCell ?_ (by first | omega | (simp; done) | (simp; omega) | exact Below.size (by assumption)) _) | (refine Below.alloc ?_ (by first | omega | (simp; done) | (simp; omega) | exact Below.size (by assumption)) _) | refine Below.drew ?_ | refine Below.trans0 ?_ (by assumption)))
          obtain ⟨q1, -⟩ := bcell hw1
          go_wp2_with fail
          refine (tailed_any _ _ hta).mono ?_
          rintro e w2 ⟨rfl, hw2⟩
          rw [Ht.out]
          go_wp2
          go_ret
          exact ⟨ret_int (by rw [fin.out, Hp.out, Ht.out]; rfl), hb1.trans (hw2.mono hb1.size)⟩

/-! ### need.word, need.right -/
def wordP (op : Int) : ByteArray := if 1 ≤ op ∧ op ≤ 6 then wordS op else ⟨#[]⟩
def wordOk (op : Int) : Bool := decide (1 ≤ op) && decide (op ≤ 6)
theorem ret_sb {a b : ByteArray} {x y : Bool} (h : a = b) (h' : x = y) : Ending.returned (.tuple #[.string a, .bool x]) = .returned (.tuple #[.string b, .bool y]) := by rw [h, h']

theorem ops_at0 (w : World) : (Instr.index 160 (.agg #[.string ⟨#[60, 61]⟩, .int .i64 3, .string ⟨#[62, 61]⟩, .int .i64 5, .string ⟨#[33, 61]⟩, .int .i64 6, .string ⟨#[61]⟩, .int .i64 1, .string ⟨#[60]⟩, .int .i64 2, .string ⟨#[62]⟩, .int .i64 4]) (.int .i64 0)).run Tryz.prog w = .ok (.agg #[.string ⟨#[60, 61]⟩, .int .i64 3]) w := by kernel_rfl
theorem ops_at1 (w : World) : (Instr.index 160 (.agg #[.string ⟨#[60, 61]⟩, .int .i64 3, .string ⟨#[62, 61]⟩, .int .i64 5, .string ⟨#[33, 61]⟩, .int .i64 6, .string ⟨#[61]⟩, .int .i64 1, .string ⟨#[60]⟩, .int .i64 2, .string ⟨#[62]⟩, .int .i64 4]) (.int .i64 1)).run Tryz.prog w = .ok (.agg #[.string ⟨#[62, 61]⟩, .int .i64 5]) w := by kernel_rfl
theorem ops_at2 (w : World) : (Instr.index 160 (.agg #[.string ⟨#[60, 61]⟩, .int .i64 3, .string ⟨#[62, 61]⟩, .int .i64 5, .string ⟨#[33, 61]⟩, .int .i64 6, .string ⟨#[61]⟩, .int .i64 1, .string ⟨#[60]⟩, .int .i64 2, .string ⟨#[62]⟩, .int .i64 4]) (.int .i64 2)).run Tryz.prog w = .ok (.agg #[.string ⟨#[33, 61]⟩, .int .i64 6]) w := by kernel_rfl
theorem ops_at3 (w : World) : (Instr.index 160 (.agg #[.string ⟨#[60, 61]⟩, .int .i64 3, .string ⟨#[62, 61]⟩, .int .i64 5, .string ⟨#[33, 61]⟩, .int .i64 6, .string ⟨#[61]⟩, .int .i64 1, .string ⟨#[60]⟩, .int .i64 2, .string ⟨#[62]⟩, .int .i64 4]) (.int .i64 3)).run Tryz.prog w = .ok (.agg #[.string ⟨#[61]⟩, .int .i64 1]) w := by kernel_rfl
theorem ops_at4 (w : World) : (Instr.index 160 (.agg #[.string ⟨#[60, 61]⟩, .int .i64 3, .string ⟨#[62, 61]⟩, .int .i64 5, .string ⟨#[33, 61]⟩, .int .i64 6, .string ⟨#[61]⟩, .int .i64 1, .string ⟨#[60]⟩, .int .i64 2, .string ⟨#[62]⟩, .int .i64 4]) (.int .i64 4)).run Tryz.prog w = .ok (.agg #[.string ⟨#[60]⟩, .int .i64 2]) w := by kernel_rfl
theorem ops_at5 (w : World) : (Instr.index 160 (.agg #[.string ⟨#[60, 61]⟩, .int .i64 3, .string ⟨#[62, 61]⟩, .int .i64 5, .string ⟨#[33, 61]⟩, .int .i64 6, .string ⟨#[61]⟩, .int .i64 1, .string ⟨#[60]⟩, .int .i64 2, .string ⟨#[62]⟩, .int .i64 4]) (.int .i64 5)).run Tryz.prog w = .ok (.agg #[.string ⟨#[62]⟩, .int .i64 4]) w := by kernel_rfl

set_option maxHeartbeats 4000000 in
theorem word_any (op : Int) (w : World) (hL : Laid w) :
    Calls Tryz.prog 119 #[.int .i64 op] w fun e w' => e = .returned (.tuple #[.string (wordP op), .bool (wordOk op)]) ∧ Below w.heap.size w w' := by
  have hops := hL.ops
  have o0 := hops 0 _ rfl
  have o1 := hops 1 _ rfl
  have o2 := hops 2 _ rfl
  have o3 := hops 3 _ rfl
  have o4 := hops 4 _ rfl
  have o5 := hops 5 _ rfl
  have o6 := hops 6 _ rfl
  have o7 := hops 7 _ rfl
  have o8 := hops 8 _ rfl
  have o9 := hops 9 _ rfl
  have o10 := hops 10 _ rfl
  have o11 := hops 11 _ rfl
  clear hops
  have cs : op = 3 ∨ op = 5 ∨ op = 6 ∨ op = 1 ∨ op = 2 ∨ op = 4 ∨ (op < 1 ∨ 6 < op) := by omega
  go_enter Tryz.func119, Tryz.ntmps119
  go_wp2
  clear o0 o1 o2 o3 o4 o5 o6 o7 o8 o9 o10 o11
  go_loopw [2, 3, 7] (fun r x i wr => r = .string ⟨#[]⟩ ∧ x = .bool false ∧ Below w.heap.size w wr ∧ ∃ k : Nat, k ≤ 6 ∧ i = .int .i64 k ∧ (1 ≤ k → op ≠ 3) ∧ (2 ≤ k → op ≠ 5) ∧ (3 ≤ k → op ≠ 6) ∧ (4 ≤ k → op ≠ 1) ∧ (5 ≤ k → op ≠ 2) ∧ (6 ≤ k → op ≠ 4)) (fun _ _ i _ => 6 - (intOf i).toNat)
  case atStart => exact ⟨rfl, rfl, Below.refl _ _, 0, by omega, rfl, by omega, by omega, by omega, by omega, by omega, by omega⟩
  case round =>
    obtain ⟨rfl, rfl, hb, k, hk, rfl, n1, n2, n3, n4, n5, n6⟩ := hrel
    have hN := Lib.hid (⟨n1, n2, n3, n4, n5, n6⟩ : _ ∧ _ ∧ _ ∧ _ ∧ _ ∧ _)
    clear n1 n2 n3 n4 n5 n6
    have hkk : k = 0 ∨ k = 1 ∨ k = 2 ∨ k = 3 ∨ k = 4 ∨ k = 5 ∨ k = 6 := by omega
    clear hk
    rcases hkk with rfl | rfl | rfl | rfl | rfl | rfl | rfl
    case inr.inr.inr.inr.inr.inr =>
      have hbad : op < 1 ∨ 6 < op := by have := hN.out; omega
      have f1 := Lib.hid (show wordP op = ⟨#[]⟩ by unfold wordP; rw [if_neg (by omega)])
      have f2 := Lib.hid (show wordOk op = false by unfold wordOk; simp; omega)
      clear cs hbad
      go_wp2
      go_ret2
      exact ⟨ret_sb f1.out.symm f2.out.symm, hb⟩
    all_goals
      have i0 := ops_at0
      have i1 := ops_at1
      have i2 := ops_at2
      have i3 := ops_at3
      have i4 := ops_at4
      have i5 := ops_at5
      go_wp2
      · rename_i he
        have he' := ieq_of he
        subst he'
        go_ret2
        exact ⟨rfl, by (repeat (first | exact Below.refl _ _ | assumption | (refine Below.setCell ?_ (by first | omega | (simp; done) | (simp; omega) | exact Below.size (by assumption)) _) | (refine Below.alloc ?_ (by first | omega | (simp; done) | (simp; omega) | exact Below.size (by assumption)) _) | refine Below.drew ?_ | refine Below.trans0 ?_ (by assumption)))⟩
      · rename_i he
        have he' := ine_of he
        go_roundw
        case rel =>
          have := hN.out
          first | exact ⟨rfl, rfl, by (repeat (first | exact Below.refl _ _ | assumption | (refine Below.setCell ?_ (by first | omega | (simp; done) | (simp; omega) | exact Below.size (by assumption)) _) | (refine Below.alloc ?_ (by first | omega | (simp; done) | (simp; omega) | exact Below.size (by assumption)) _) | refine Below.drew ?_ | refine Below.trans0 ?_ (by assumption))), 1, by omega, by first | rfl | go_num, by omega, by omega, by omega, by omega, by omega, by omega⟩ | exact ⟨rfl, rfl, by (repeat (first | exact Below.refl _ _ | assumption | (refine Below.setCell ?_ (by first | omega | (simp; done) | (simp; omega) | exact Below.size (by assumption)) _) | (refine Below.alloc ?_ (by first | omega | (simp; done) | (simp; omega) | exact Below.size (by assumption)) _) | refine Below.drew ?_ | refine Below.trans0 ?_ (by assumption))), 2, by omega, by first | rfl | go_num, by omega, by omega, by omega, by omega, by omega, by omega⟩ | exact ⟨rfl, rfl, by (repeat (first | exact Below.refl _ _ | assumption | (refine Below.setCell ?_ (by first | omega | (simp; done) | (simp; omega) | exact Below.size (by assumption)) _) | (refine Below.alloc ?_ (by first | omega | (simp; done) | (simp; omega) | exact Below.size (by assumption)) _) | refine Below.drew ?_ | refine Below.trans0 ?_ (by assumption))), 3, by omega, by first | rfl | go_num, by omega, by omega, by omega, by omega, by omega, by omega⟩ | exact ⟨rfl, rfl, by (repeat (first | exact Below.refl _ _ | assumption | (refine Below.setCell ?_ (by first | omega | (simp; done) | (simp; omega) | exact Below.size (by assumption)) _) | (refine Below.alloc ?_ (by first | omega | (simp; done) | (simp; omega) | exact Below.size (by assumption)) _) | refine Below.drew ?_ | refine Below.trans0 ?_ (by assumption))), 4, by omega, by first | rfl | go_num, by omega, by omega, by omega, by omega, by omega, by omega⟩ | exact ⟨rfl, rfl, by (repeat (first | exact Below.refl _ _ | assumption | (refine Below.setCell ?_ (by first | omega | (simp; done) | (simp; omega) | exact Below.size (by assumption)) _) | (refine Below.alloc ?_ (by first | omega | (simp; done) | (simp; omega) | exact Below.size (by assumption)) _) | refine Below.drew ?_ | refine Below.trans0 ?_ (by assumption))), 5, by omega, by first | rfl | go_num, by omega, by omega, by omega, by omega, by omega, by omega⟩ | exact ⟨rfl, rfl, by (repeat (first | exact Below.refl _ _ | assumption | (refine Below.setCell ?_ (by first | omega | (simp; done) | (simp; omega) | exact Below.size (by assumption)) _) | (refine Below.alloc ?_ (by first | omega | (simp; done) | (simp; omega) | exact Below.size (by assumption)) _) | refine Below.drew ?_ | refine Below.trans0 ?_ (by assumption))), 6, by omega, by first | rfl | go_num, by omega, by omega, by omega, by omega, by omega, by omega⟩
        case measure => simp [intOf]

end Go.Proofs.YtppbjmhllmaakaaGreatDoor
