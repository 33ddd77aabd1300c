/- Contract: SolveNone. -/
import Derived.Test.YteoafnkcplealaaDoorC50
set_option linter.unusedVariables false
namespace Go.Proofs.YteoafnkcplealaaDoor
open Go.RowKit

set_option maxHeartbeats 0 in
set_option maxRecDepth 100000 in
theorem solveNone_any (cat0 : List Pkg) (hv : List Int) (want : List Clause) (l : List Int) (A0 B C D : Option Addr) (ca cb cc cd : Nat) (S T U V : Nat → Prop) (w : World) (hA0 : Arr w S A0 cat0) (hB : Arr w T B hv) (hC : Arr w U C want) (hD : Arr w V D l) (hcap : Cap A0 cat0.length ca) (hL : Laid w) :
    Calls Tryd.prog 10 #[.slice A0 cat0.length ca, .slice B hv.length cb, .slice C want.length cc, .slice D l.length cd] w fun e w' => e = .returned (.bool true) ∧ Below w.heap.size w w' := by
  go_enter Tryd.func10, Tryd.ntmps10
  go_wp2_with fail
  refine (works20_any _ hL).mono ?_
  rintro e w1 ⟨rfl, HW1⟩
  go_wp2_with fail
  refine (small_any cat0 A0 ca S _ (hA0.below HW1) hcap).mono ?_
  rintro e wa ⟨⟨A, rfl, hA⟩, hwa⟩
  have hwa' := hwa.symm
  clear hwa
  subst hwa'
  have hcl : (cat0.take 9).length ≤ 9 := by rw [List.length_take]; omega
  generalize cat0.take 9 = cat at *
  clear hcap hA0
  go_wp2_with fail
  refine (solve_any cat hv want A B C ca cb cc S T U 1048576 _ hA (hB.below HW1) (hC.below HW1) ⟨by omega, by omega⟩ (hL.below HW1)).mono ?_
  rintro e w2 ⟨hw2, A2, c2, rfl, hr2⟩
  have HW2 := Below.trans0 HW1 hw2 HW1.size
  have hA2 := hA.below hw2
  have hC2 := hC.below HW2
  have hD2 := hD.below HW2
  have hL2 := hL.below HW2
  clear hw2 hA hB hC hD hL hr2
  have hst := Lib.hid (@solve_none cat hv want 1048576)
  generalize solveS cat hv want 1048576 = R at *
  obtain ⟨l1, n1, e1⟩ := R
  simp only at hst
  by_cases he : e1 = 200
  · subst he
    obtain ⟨h1, h2⟩ := hst.out rfl
    have h1' : n1 = ((2 ^ cat.length : Nat) : Int) := h1
    have hct := Lib.hid ((countS_small (n := cat.length) (by omega)).trans h1'.symm)
    have hgood := Lib.hid h2
    clear hst h1 h2 h1'
    have HX : Below w2.heap.size w2 (w2.alloc (.cells #[] 3)) := (Below.refl _ _).alloc (Nat.le_refl _) _
    go_wp2
    go_loopw [12, 13] (fun o i wr => Below w2.heap.size w2 wr ∧ ∃ k : Nat, k ≤ cat.length ∧ i = .int .i64 k ∧ Own wr w2.heap.size 3 (fun _ => False) o (someTo l k)) (fun _ i _ => cat.length - (intOf i).toNat)
    case atStart => exact ⟨HX, 0, Nat.zero_le _, rfl, Own.made _ _ _ _ (Nat.le_refl _)⟩
    case round =>
      obtain ⟨hb, k, hk, rfl, hown⟩ := hrel
      have hlen := someTo_len l k
      have h72 : cat.length * 8 ≤ reach := by unfold reach; omega
      by_cases hlt : k < cat.length
      · by_cases hm : (k : Int) ∈ l
        · have Hm := Lib.hid (decide_eq_true hm)
          have hst := Lib.hid (someTo_yes hm)
          have hs : In64 (k : Int) := ⟨by omega, by omega⟩
          clear hm
          go_wp2_with (first | (go_at_call 40; refine (hasInt_any l k D cd V _ (hD2.below hb)).mono ?_; rintro e w1 ⟨rfl, hw1⟩; have hw1' := hw1.symm; clear hw1; subst hw1'; rw [Hm.out]) | (at_builtin; refine Hold.out ?_))
          refine ⟨?_⟩
          refine wpList_own_app rfl _ _ 23 rfl w2.heap.size 3 elInt (fun _ => False) u12 (someTo l k) ?_ (hown.below ((Below.refl _ _).alloc (Nat.le_refl _) _)) ⟨wr.heap.size, 0, none⟩ 1 [(k : Int)] ?_ (Src.one 3 (show Cd.rep wr (fun b => False ∧ Value.ownBlock u12 ≠ some b) (k : Int) [.int .i64 k] from ⟨rfl, hs⟩)) ?_ ?_ ?_ ?_
          · simp [Act.eval]
          · simp [Act.eval]
          · exact app_bound (n := cat.length) h72 (by simp; omega)
          · simp; omega
          · have := hb.size; simp; omega
          intro v2 w6 hown6 hg6 hat6
          have hb6 : Below w2.heap.size w2 w6 := (hb.alloc hb.size _).grown hg6 (by have := hb.size; simp; omega) (fun b e => (hown.block_ge _ e).1)
          clear hg6 hat6 hown
          go_wp2
          go_roundw
          case rel => exact ⟨hb6, k + 1, by omega, by go_num, by rw [hst.out]; exact hown6⟩
          case measure => simp [intOf]; omega
        · have Hm := Lib.hid (decide_eq_false hm)
          have hst := Lib.hid (someTo_no hm)
          clear hm
          go_wp2_with (go_at_call 40; refine (hasInt_any l k D cd V _ (hD2.below hb)).mono ?_; rintro e w1 ⟨rfl, hw1⟩; have hw1' := hw1.symm; clear hw1; subst hw1'; rw [Hm.out])
          go_roundw
          case rel => exact ⟨hb, k + 1, by omega, by go_num, by rw [hst.out]; exact hown⟩
          case measure => simp [intOf]; omega
      · have hke : k = cat.length := by omega
        subst hke
        obtain ⟨A3, c3, e3, hr3, hc3⟩ := hown.rep2 (S' := fun _ => True) (fun b _ h => h.elim) (fun b h _ => trivial) (mul_bound h72 hlen) (by omega)
        subst e3
        generalize someTo l cat.length = tt at *
        have HWr := Below.trans0 HW2 hb HW2.size
        have hAr := hA2.below hb
        have hCr := hC2.below hb
        have hLr := hL2.below hb
        have hg := hgood.out tt
        clear hown HX hgood
        go_wp2_with fail
        refine (count_any _ _ ⟨by omega, by omega⟩).mono ?_
        rintro e wa ⟨rfl, hwa⟩
        have hwa' := hwa.symm
        clear hwa
        subst hwa'
        rw [hct.out]
        go_wp2_with fail
        refine (planValid_any cat tt A A3 ca c3 S (fun _ => True) _ hAr hr3 hLr).mono ?_
        rintro e w7 ⟨rfl, hw7⟩
        cases hval : validP cat tt
        · clear hg hval
          go_wp2
          go_ret
          exact ⟨by simp, Below.trans0 HWr hw7 HWr.size⟩
        · have hgr : grants cat tt want = false := by
            unfold good at hg
            rw [hval, Bool.true_and] at hg
            exact hg
          have Hg := Lib.hid hgr
          clear hg hval hgr
          go_wp2_with fail
          refine (planGrants_any cat tt want A A3 C ca c3 cc S (fun _ => True) U _ (hAr.below hw7) (hr3.below hw7) (hCr.below hw7)).mono ?_
          rintro e w8 ⟨rfl, hw8⟩
          rw [Hg.out]
          go_wp2
          go_ret
          exact ⟨by simp, Below.trans0 (Below.trans0 HWr hw7 HWr.size) hw8 (Nat.le_trans HWr.size hw7.size)⟩
  · have heb : (e1 == 200) = false := beq_eq_false_iff_ne.2 he
    have heb2 : (e1 != 200) = true := by rw [bne_iff_ne]; exact he
    clear hst
    go_wp2
    go_ret
    exact ⟨rfl, HW2⟩

end Go.Proofs.YteoafnkcplealaaDoor
