/- Contract: the reference's Check of a catalogue. -/
import Derived.Test.YtppbjmhllmaakaaGreatDoorC19
set_option linter.unusedVariables false
namespace Go.Proofs.YtppbjmhllmaakaaGreatDoor
open Go.RowKit

set_option maxHeartbeats 0 in
set_option maxRecDepth 100000 in
theorem refPlanCheck_any (cat : List Pkg) (A : Option Addr) (ca : Nat) (S : Nat → Prop) (w : World) (h : Arr w S A cat) :
    Calls Tryz.prog 49 #[.slice A cat.length ca] w fun e w' => e = .returned (.int .i64 (okE (planOk cat) 190)) ∧ Below w.heap.size w w' := by
  have hl := h.len
  by_cases h256 : 256 < cat.length
  · have fin := Lib.hid (show planOk cat = false by unfold planOk; rw [decide_eq_false (by omega)]; rfl)
    go_enter Tryz.func49, Tryz.ntmps49
    go_wp2
    go_ret
    exact ⟨ret_int (by rw [fin.out]; rfl), Below.refl _ _⟩
  · go_enter Tryz.func49, Tryz.ntmps49
    go_wp2
    go_loopw [2, 3] (fun r i wr => Below w.heap.size w wr ∧ ∃ k : Nat, k ≤ cat.length ∧ i = .int .i64 k ∧ Hid (To (planAt cat) k)) (fun _ i _ => cat.length - (intOf i).toNat)
    case atStart => exact ⟨Below.refl _ _, 0, Nat.zero_le _, rfl, Lib.hid (To.zero _)⟩
    case round =>
      obtain ⟨hB, k, hk, rfl, hj⟩ := hrel
      by_cases hlt : k < cat.length
      · obtain ⟨wo, hwo⟩ : ∃ wo : World, wo = wr := ⟨_, rfl⟩
        subst hwo
        obtain ⟨b, o, B2, cb2, C2, cc2, D2, cd2, rfl, hb0, e0, e1, e2, e3, e4, hrep, hparts, hprov, hcls⟩ := (h.below hB).getPkg k hlt
        obtain ⟨-, -, -, -, -, -, -, hsn, -, hst, -, -⟩ := id hrep
        have hat := Lib.hid (planAt_eq hlt)
        have c0 : (wo.alloc (.cells #[.string cat[k].name, .slice B2 cat[k].ver.parts.length cb2, .string cat[k].ver.tail, .slice C2 cat[k].provides.length cc2, .slice D2 cat[k].clauses.length cd2] 36)).cell? ⟨wo.heap.size, 0, none⟩ = some (.string cat[k].name) := by simp
        have c1 : (wo.alloc (.cells #[.string cat[k].name, .slice B2 cat[k].ver.parts.length cb2, .string cat[k].ver.tail, .slice C2 cat[k].provides.length cc2, .slice D2 cat[k].clauses.length cd2] 36)).cell? ⟨wo.heap.size, 1, none⟩ = some (.slice B2 cat[k].ver.parts.length cb2) := by simp
        have c2 : (wo.alloc (.cells #[.string cat[k].name, .slice B2 cat[k].ver.parts.length cb2, .string cat[k].ver.tail, .slice C2 cat[k].provides.length cc2, .slice D2 cat[k].clauses.length cd2] 36)).cell? ⟨wo.heap.size, 2, none⟩ = some (.string cat[k].ver.tail) := by simp
        have c3 : (wo.alloc (.cells #[.string cat[k].name, .slice B2 cat[k].ver.parts.length cb2, .string cat[k].ver.tail, .slice C2 cat[k].provides.length cc2, .slice D2 cat[k].clauses.length cd2] 36)).cell? ⟨wo.heap.size, 3, none⟩ = some (.slice C2 cat[k].provides.length cc2) := by simp
        have c4 : (wo.alloc (.cells #[.string cat[k].name, .slice B2 cat[k].ver.parts.length cb2, .string cat[k].ver.tail, .slice C2 cat[k].provides.length cc2, .slice D2 cat[k].clauses.length cd2] 36)).cell? ⟨wo.heap.size, 4, none⟩ = some (.slice D2 cat[k].clauses.length cd2) := by simp
        have HW : Below w.heap.size w (wo.alloc (.cells #[.string cat[k].name, .slice B2 cat[k].ver.parts.length cb2, .string cat[k].ver.tail, .slice C2 cat[k].provides.length cc2, .slice D2 cat[k].clauses.length cd2] 36)) := hB.alloc hB.size _
        have HX : Below wo.heap.size wo (wo.alloc (.cells #[.string cat[k].name, .slice B2 cat[k].ver.parts.length cb2, .string cat[k].ver.tail, .slice C2 cat[k].provides.length cc2, .slice D2 cat[k].clauses.length cd2] 36)) := (Below.refl _ _).alloc (Nat.le_refl _) _
        cases hn : nameOk cat[k].name
        · have Hn := Lib.hid hn
          have fin := Lib.hid (show planOk cat = false by unfold planOk; rw [range_no hlt (by rw [hat.out, hn]; rfl)]; simp)
          clear hn
          go_wp2_with (first | (go_at_call 39; refine (refName_any _ _ hsn).mono ?_; rintro e w1 ⟨rfl, hw1⟩; rw [Hn.out]; have c0 := box_below hw1 c0; have c1 := box_below hw1 c1; have c2 := box_below hw1 c2; have c3 := box_below hw1 c3; have c4 := box_below hw1 c4; have HW := Below.trans0 HW hw1 HW.size; have HX := Below.trans0 HX hw1 HX.size) | (go_at_call 104; refine (refCheckV_any cat[k].ver [_, _] S _ ⟨_, _, rfl, hparts.below HX, hst⟩).mono ?_; rintro e w2 ⟨rfl, hw2⟩; rw [Hv.out]; have c0 := box_below hw2 c0; have c1 := box_below hw2 c1; have c2 := box_below hw2 c2; have c3 := box_below hw2 c3; have c4 := box_below hw2 c4; have HW := Below.trans0 HW hw2 HW.size; have HX := Below.trans0 HX hw2 HX.size) | (go_at_call 37; refine (refCheckC_any cat[k].clauses _ _ S _ (hcls.below HX)).mono ?_; rintro e w4 ⟨rfl, hw4⟩; rw [Hc.out]; have c0 := box_below hw4 c0; have c1 := box_below hw4 c1; have c2 := box_below hw4 c2; have c3 := box_below hw4 c3; have c4 := box_below hw4 c4; have HW := Below.trans0 HW hw4 HW.size; have HX := Below.trans0 HX hw4 HX.size))
          go_ret
          exact ⟨ret_int (by rw [fin.out]; rfl), HW⟩
        · have Hn := Lib.hid hn
          cases hv : verOk cat[k].ver
          · have Hv := Lib.hid hv
            have fin := Lib.hid (show planOk cat = false by unfold planOk; rw [range_no hlt (by rw [hat.out, hn, hv]; rfl)]; simp)
            clear hn hv
            go_wp2_with (first | (go_at_call 39; refine (refName_any _ _ hsn).mono ?_; rintro e w1 ⟨rfl, hw1⟩; rw [Hn.out]; have c0 := box_below hw1 c0; have c1 := box_below hw1 c1; have c2 := box_below hw1 c2; have c3 := box_below hw1 c3; have c4 := box_below hw1 c4; have HW := Below.trans0 HW hw1 HW.size; have HX := Below.trans0 HX hw1 HX.size) | (go_at_call 104; refine (refCheckV_any cat[k].ver [_, _] S _ ⟨_, _, rfl, hparts.below HX, hst⟩).mono ?_; rintro e w2 ⟨rfl, hw2⟩; rw [Hv.out]; have c0 := box_below hw2 c0; have c1 := box_below hw2 c1; have c2 := box_below hw2 c2; have c3 := box_below hw2 c3; have c4 := box_below hw2 c4; have HW := Below.trans0 HW hw2 HW.size; have HX := Below.trans0 HX hw2 HX.size) | (go_at_call 37; refine (refCheckC_any cat[k].clauses _ _ S _ (hcls.below HX)).mono ?_; rintro e w4 ⟨rfl, hw4⟩; rw [Hc.out]; have c0 := box_below hw4 c0; have c1 := box_below hw4 c1; have c2 := box_below hw4 c2; have c3 := box_below hw4 c3; have c4 := box_below hw4 c4; have HW := Below.trans0 HW hw4 HW.size; have HX := Below.trans0 HX hw4 HX.size))
            go_ret
            exact ⟨ret_int (by rw [fin.out]; rfl), HW⟩
          · have Hv := Lib.hid hv
            by_cases h16 : 16 < cat[k].provides.length
            · have fin := Lib.hid (show planOk cat = false by unfold planOk; rw [range_no hlt (by rw [hat.out]; unfold provOk; rw [decide_eq_false (p := cat[k].provides.length ≤ 16) (by omega)]; simp)]; simp)
              clear hn hv
              go_wp2_with (first | (go_at_call 39; refine (refName_any _ _ hsn).mono ?_; rintro e w1 ⟨rfl, hw1⟩; rw [Hn.out]; have c0 := box_below hw1 c0; have c1 := box_below hw1 c1; have c2 := box_below hw1 c2; have c3 := box_below hw1 c3; have c4 := box_below hw1 c4; have HW := Below.trans0 HW hw1 HW.size; have HX := Below.trans0 HX hw1 HX.size) | (go_at_call 104; refine (refCheckV_any cat[k].ver [_, _] S _ ⟨_, _, rfl, hparts.below HX, hst⟩).mono ?_; rintro e w2 ⟨rfl, hw2⟩; rw [Hv.out]; have c0 := box_below hw2 c0; have c1 := box_below hw2 c1; have c2 := box_below hw2 c2; have c3 := box_below hw2 c3; have c4 := box_below hw2 c4; have HW := Below.trans0 HW hw2 HW.size; have HX := Below.trans0 HX hw2 HX.size) | (go_at_call 37; refine (refCheckC_any cat[k].clauses _ _ S _ (hcls.below HX)).mono ?_; rintro e w4 ⟨rfl, hw4⟩; rw [Hc.out]; have c0 := box_below hw4 c0; have c1 := box_below hw4 c1; have c2 := box_below hw4 c2; have c3 := box_below hw4 c3; have c4 := box_below hw4 c4; have HW := Below.trans0 HW hw4 HW.size; have HX := Below.trans0 HX hw4 HX.size))
              go_ret
              exact ⟨ret_int (by rw [fin.out]; rfl), HW⟩
            · cases hc : clausesOk cat[k].clauses
              · have Hc := Lib.hid hc
                have fin := Lib.hid (show planOk cat = false by unfold planOk; rw [range_no hlt (by rw [hat.out, hc]; simp)]; simp)
                clear hn hv hc
                go_wp2_with (first | (go_at_call 39; refine (refName_any _ _ hsn).mono ?_; rintro e w1 ⟨rfl, hw1⟩; rw [Hn.out]; have c0 := box_below hw1 c0; have c1 := box_below hw1 c1; have c2 := box_below hw1 c2; have c3 := box_below hw1 c3; have c4 := box_below hw1 c4; have HW := Below.trans0 HW hw1 HW.size; have HX := Below.trans0 HX hw1 HX.size) | (go_at_call 104; refine (refCheckV_any cat[k].ver [_, _] S _ ⟨_, _, rfl, hparts.below HX, hst⟩).mono ?_; rintro e w2 ⟨rfl, hw2⟩; rw [Hv.out]; have c0 := box_below hw2 c0; have c1 := box_below hw2 c1; have c2 := box_below hw2 c2; have c3 := box_below hw2 c3; have c4 := box_below hw2 c4; have HW := Below.trans0 HW hw2 HW.size; have HX := Below.trans0 HX hw2 HX.size) | (go_at_call 37; refine (refCheckC_any cat[k].clauses _ _ S _ (hcls.below HX)).mono ?_; rintro e w4 ⟨rfl, hw4⟩; rw [Hc.out]; have c0 := box_below hw4 c0; have c1 := box_below hw4 c1; have c2 := box_below hw4 c2; have c3 := box_below hw4 c3; have c4 := box_below hw4 c4; have HW := Below.trans0 HW hw4 HW.size; have HX := Below.trans0 HX hw4 HX.size))
                go_ret
                exact ⟨ret_int (by rw [fin.out]; rfl), HW⟩
              · have Hc := Lib.hid hc
                clear hn hv hc
                go_wp2_with (first | (go_at_call 39; refine (refName_any _ _ hsn).mono ?_; rintro e w1 ⟨rfl, hw1⟩; rw [Hn.out]; have c0 := box_below hw1 c0; have c1 := box_below hw1 c1; have c2 := box_below hw1 c2; have c3 := box_below hw1 c3; have c4 := box_below hw1 c4; have HW := Below.trans0 HW hw1 HW.size; have HX := Below.trans0 HX hw1 HX.size) | (go_at_call 104; refine (refCheckV_any cat[k].ver [_, _] S _ ⟨_, _, rfl, hparts.below HX, hst⟩).mono ?_; rintro e w2 ⟨rfl, hw2⟩; rw [Hv.out]; have c0 := box_below hw2 c0; have c1 := box_below hw2 c1; have c2 := box_below hw2 c2; have c3 := box_below hw2 c3; have c4 := box_below hw2 c4; have HW := Below.trans0 HW hw2 HW.size; have HX := Below.trans0 HX hw2 HX.size) | (go_at_call 37; refine (refCheckC_any cat[k].clauses _ _ S _ (hcls.below HX)).mono ?_; rintro e w4 ⟨rfl, hw4⟩; rw [Hc.out]; have c0 := box_below hw4 c0; have c1 := box_below hw4 c1; have c2 := box_below hw4 c2; have c3 := box_below hw4 c3; have c4 := box_below hw4 c4; have HW := Below.trans0 HW hw4 HW.size; have HX := Below.trans0 HX hw4 HX.size))
                have hbx : wo.heap.size < w4.heap.size := World.block_lt_of_cell? w4 ⟨wo.heap.size, 0, none⟩ c0
                have HX4 : Below wo.heap.size wo w4 := HX
                have HW4 : Below w.heap.size w w4 := HW
                clear hw1 hw2 hw4 e0 e1 e2 e3 e4
                clear HX HW
                go_loopw [5] (fun j wr => Below w4.heap.size w4 wr ∧ ∃ m : Nat, m ≤ cat[k].provides.length ∧ j = .int .i64 m ∧ Hid (To (provAt cat[k].provides) m)) (fun j _ => cat[k].provides.length - (intOf j).toNat)
                case atStart => exact ⟨Below.refl _ _, 0, Nat.zero_le _, rfl, Lib.hid (To.zero _)⟩
                case round =>
                  obtain ⟨hb2, m, hm, rfl, hjm⟩ := hrel
                  have d3 : wr.cell? ⟨wo.heap.size, 3, none⟩ = some (.slice C2 cat[k].provides.length cc2) := box_below hb2 c3
                  have hbx2 : wo.heap.size < wr.heap.size := Nat.lt_of_lt_of_le hbx hb2.size
                  by_cases hmt : m < cat[k].provides.length
                  · have hmt' : (m : Int) < cat[k].provides.length := by omega
                    obtain ⟨b3, o3, rfl, hb3, hs3, hcc3⟩ := (hprov.below (Below.trans0 HX4 hb2 HX4.size)).getS m hmt
                    have hpa := Lib.hid (provAt_eq hmt)
                    cases hnm : nameOk cat[k].provides[m]
                    · have Hm := Lib.hid hnm
                      have fin := Lib.hid (show planOk cat = false by unfold planOk; rw [range_no hlt (by rw [hat.out]; unfold provOk; rw [range_no hmt (by rw [hpa.out, hnm]; rfl)]; simp)]; simp)
                      clear hnm
                      go_wp2
                      refine region_quiet (by kernel_rfl) (by kernel_rfl) ?_
                      repeat (go_big_quiet_step ((go_at_call 39; exact call_quiet (Hm.out ▸ refName_any _ _ hs3))))
                      refine wpQuiet_nil ?_
                      intro W1 hw1
                      replace hw1 := below_of_ext hw1
                      go_wp2
                      go_ret
                      exact ⟨ret_int (by rw [fin.out]; rfl), Below.trans0 HW4 (Below.trans0 hb2 hw1 hb2.size) HW4.size⟩
                    · have Hm := Lib.hid hnm
                      by_cases h0 : m = 0
                      · have h0' : ¬ (0 : Int) < m := by omega
                        have d0 : decide ((0 : Int) < m) = false := decide_eq_false h0'
                        have d1 : decide (0 < m) = false := by simp; omega
                        have d2 : ¬ 0 < m := by omega
                        have fin : Hid (To (provAt cat[k].provides) (m + 1)) := Lib.hid (hjm.out.succ (by rw [hpa.out, hnm, decide_eq_true h0]; rfl))
                        clear hnm h0
                        go_wp2
                        refine region_quiet (by kernel_rfl) (by kernel_rfl) ?_
                        repeat (go_big_quiet_step ((go_at_call 39; exact call_quiet (Hm.out ▸ refName_any _ _ hs3))))
                        refine wpQuiet_nil ?_
                        intro W1 hw1
                        replace hw1 := below_of_ext hw1
                        go_wp2
                        go_roundw
                        case rel => exact ⟨Below.trans0 hb2 hw1 hb2.size, m + 1, by omega, by go_num, fin⟩
                        case measure => simp [intOf]; omega
                      · have hm1 : m - 1 < cat[k].provides.length := by omega
                        have h0' : (0 : Int) < m := by omega
                        have d0 : decide ((0 : Int) < m) = true := decide_eq_true h0'
                        have d2 : 0 < m := by omega
                        have d1 : decide (0 < m) = true := decide_eq_true d2
                        have a1 : IntKind.i64.wrap ((m : Int) - 1) = (m : Int) - 1 := IntWalk.i64_in _ (by omega)
                        have a2 : (0 : Int) ≤ (m : Int) - 1 := by omega
                        have a3 : ((m : Int) - 1).toNat = m - 1 := by omega
                        have a4 : (m : Int) - 1 < cat[k].provides.length := by omega
                        obtain ⟨b4, o4, e, hb4, hs4, hcc4⟩ := (hprov.below (Below.trans0 HX4 hb2 HX4.size)).getS (m - 1) hm1
                        cases e
                        cases hle : Op.bytesLess cat[k].provides[m - 1].toList cat[k].provides[m].toList
                        · have fin := Lib.hid (show planOk cat = false by unfold planOk; rw [range_no hlt (by rw [hat.out]; unfold provOk; rw [range_no hmt (by rw [hpa.out, hnm, hle, decide_eq_false h0]; rfl)]; simp)]; simp)
                          clear hnm
                          go_wp2
                          refine region_quiet (by kernel_rfl) (by kernel_rfl) ?_
                          repeat (go_big_quiet_step ((go_at_call 39; exact call_quiet (Hm.out ▸ refName_any _ _ hs3))))
                          refine wpQuiet_nil ?_
                          intro W1 hw1
                          replace hw1 := below_of_ext hw1
                          go_wp2
                          go_ret
                          exact ⟨ret_int (by rw [fin.out]; rfl), Below.trans0 HW4 (Below.trans0 hb2 hw1 hb2.size) HW4.size⟩
                        · have fin : Hid (To (provAt cat[k].provides) (m + 1)) := Lib.hid (hjm.out.succ (by rw [hpa.out, hnm, hle]; simp))
                          clear hnm
                          go_wp2
                          refine region_quiet (by kernel_rfl) (by kernel_rfl) ?_
                          repeat (go_big_quiet_step ((go_at_call 39; exact call_quiet (Hm.out ▸ refName_any _ _ hs3))))
                          refine wpQuiet_nil ?_
                          intro W1 hw1
                          replace hw1 := below_of_ext hw1
                          go_wp2
                          go_roundw
                          case rel => exact ⟨Below.trans0 hb2 hw1 hb2.size, m + 1, by omega, by go_num, fin⟩
                          case measure => simp [intOf]; omega
                  · have hpr : Hid (provOk cat[k].provides = true) := Lib.hid (by unfold provOk; rw [To.all hmt hjm.out, decide_eq_true (by omega)]; rfl)
                    obtain ⟨w5, hw5⟩ : ∃ w5 : World, w5 = wr := ⟨_, rfl⟩
                    subst hw5
                    have HX5 : Below wo.heap.size wo w5 := Below.trans0 HX4 hb2 HX4.size
                    have HW5 : Below w.heap.size w w5 := Below.trans0 HW4 hb2 HW4.size
                    go_wp2
                    go_loopw [6] (fun j wr => Below w5.heap.size w5 wr ∧ ∃ q : Nat, q ≤ k ∧ j = .int .i64 q ∧ Hid (∀ i (h : i < cat.length), i < q → sameRank cat[i] cat[k] = false)) (fun j _ => k - (intOf j).toNat)
                    case atStart => exact ⟨Below.refl _ _, 0, Nat.zero_le _, rfl, Lib.hid (fun i _ h => by omega)⟩
                    case round =>
                      obtain ⟨hb6, q, hq, rfl, hjq⟩ := hrel
                      have HX6 : Below wo.heap.size wo wr := Below.trans0 HX5 hb6 HX5.size
                      have HW6 : Below w.heap.size w wr := Below.trans0 HW5 hb6 HW5.size
                      have g0 : wr.cell? ⟨wo.heap.size, 0, none⟩ = some (.string cat[k].name) := box_below hb6 (box_below hb2 c0)
                      have g1 : wr.cell? ⟨wo.heap.size, 1, none⟩ = some (.slice B2 cat[k].ver.parts.length cb2) := box_below hb6 (box_below hb2 c1)
                      have g2 : wr.cell? ⟨wo.heap.size, 2, none⟩ = some (.string cat[k].ver.tail) := box_below hb6 (box_below hb2 c2)
                      have hbx6 : wo.heap.size < wr.heap.size := Nat.lt_of_lt_of_le hbx2 hb6.size
                      by_cases hqk : q < k
                      · have hqc : q < cat.length := by omega
                        obtain ⟨b', o', B6, cb6, C6, cc6, D6, cd6, e, hb60, f0, f1, f2, -, -, hrq, hpq, -, -⟩ := (h.below HW6).getPkg q hqc
                        cases e
                        obtain ⟨-, -, -, -, -, -, -, -, -, hstq, -, -⟩ := hrq
                        cases he : (cat[q].name.toList == cat[k].name.toList)
                        · have hno : Hid (∀ i (h : i < cat.length), i < q + 1 → sameRank cat[i] cat[k] = false) := Lib.hid (fun i hi h => by
                            by_cases e : i = q
                            · subst e; unfold sameRank; rw [decide_eq_false (sne_of he)]; rfl
                            · exact hjq.out i hi (by omega))
                          go_wp2
                          refine region_quiet (by kernel_rfl) (by kernel_rfl) ?_
                          repeat (go_big_quiet_step (fail))
                          refine wpQuiet_nil ?_
                          intro W1 hw1
                          replace hw1 := below_of_ext hw1
                          go_wp2
                          go_roundw
                          case rel => exact ⟨Below.trans0 hb6 hw1 hb6.size, q + 1, by omega, by go_num, hno⟩
                          case measure => simp [intOf]; omega
                        · by_cases hz : vcmp cat[q].ver cat[k].ver = 0
                          · have Hz := Lib.hid hz
                            have fin := Lib.hid (show planOk cat = false by
                              unfold planOk; rw [range_no hlt (by
                                rw [hat.out, show ((cat.take k).any fun p => sameRank p cat[k]) = true from List.any_eq_true.2 ⟨cat[q], List.mem_take_iff_getElem.2 ⟨q, by omega, rfl⟩, by unfold sameRank; rw [decide_eq_true (seq_of he), decide_eq_true hz]; rfl⟩]; simp)]; simp)
                            clear hz
                            go_wp2
                            refine region_quiet (by kernel_rfl) (by kernel_rfl) ?_
                            repeat (go_big_quiet_step ((go_at_call 105; exact call_quiet (Hz.out ▸ refCompare_any cat[q].ver cat[k].ver [_, _] [_, _] S S _ ⟨_, _, rfl, hpq.below (ext_below _ _), hstq⟩ ⟨_, _, rfl, (hparts.below HX6).below (ext_below _ _), hst⟩))))
                            refine wpQuiet_nil ?_
                            intro W1 hw1
                            replace hw1 := below_of_ext hw1
                            go_wp2
                            go_ret
                            exact ⟨ret_int (by rw [fin.out]; rfl), Below.trans0 HW6 hw1 HW6.size⟩
                          · have hz1 : (vcmp cat[q].ver cat[k].ver == 0) = false := beq_eq_false_iff_ne.2 hz
                            have hno : Hid (∀ i (h : i < cat.length), i < q + 1 → sameRank cat[i] cat[k] = false) := Lib.hid (fun i hi h => by
                              by_cases e : i = q
                              · subst e; unfold sameRank; rw [decide_eq_false hz]; simp
                              · exact hjq.out i hi (by omega))
                            go_wp2
                            refine region_quiet (by kernel_rfl) (by kernel_rfl) ?_
                            repeat (go_big_quiet_step ((go_at_call 105; exact call_quiet (refCompare_any cat[q].ver cat[k].ver [_, _] [_, _] S S _ ⟨_, _, rfl, hpq.below (ext_below _ _), hstq⟩ ⟨_, _, rfl, (hparts.below HX6).below (ext_below _ _), hst⟩))))
                            refine wpQuiet_nil ?_
                            intro W1 hw1
                            replace hw1 := below_of_ext hw1
                            go_wp2
                            go_roundw
                            case rel => exact ⟨Below.trans0 hb6 hw1 hb6.size, q + 1, by omega, by go_num, hno⟩
                            case measure => simp [intOf]; omega
                      · have fin : Hid (To (planAt cat) (k + 1)) := Lib.hid (hj.out.succ (by
                          rw [hat.out, Hn.out, Hv.out, hpr.out, Hc.out, show ((cat.take k).any fun p => sameRank p cat[k]) = false from List.any_eq_false.2 (fun p hp => by
                            obtain ⟨i, hi, rfl⟩ := List.mem_take_iff_getElem.1 hp
                            rw [hjq.out i (by omega) (by omega)]; simp)]
                          rfl))
                        go_wp2
                        go_roundw
                        case rel => exact ⟨HW6, k + 1, by omega, by go_num, fin⟩
                        case measure => simp [intOf]; omega
      · have fin := Lib.hid (show planOk cat = true by unfold planOk; rw [To.all hlt hj.out, decide_eq_true (by omega)]; rfl)
        go_wp2
        go_ret
        exact ⟨ret_int (by rw [fin.out]; rfl), hB⟩

end Go.Proofs.YtppbjmhllmaakaaGreatDoor
