/- Contract: PlanSteps. -/
import Derived.Test.YteoafnkcplealaaDoorC34
import Derived.Test.YteoafnkcplealaaDoorC26
set_option linter.unusedVariables false
namespace Go.Proofs.YteoafnkcplealaaDoor
open Go.RowKit

theorem in64_of {x : Int} (h : (Lit.int .i64 x).wf = true) : In64 x := by
  have h1 : IntKind.i64.min = -9223372036854775808 := by decide
  have h2 : IntKind.i64.max = 9223372036854775807 := by decide
  simp only [Lit.wf, Bool.and_eq_true, decide_eq_true_eq] at h
  exact ⟨by omega, by omega⟩
theorem among_any (x : Int) (m : Nat) (w : World) (hm : 0 < m) (hm2 : m ≤ 4000000000000) (hx : In64 x) : Calls Tryd.prog 32 #[.int .i64 x, .int .i64 m] w fun e w' => (∃ n : Nat, n < m ∧ e = .returned (.int .i64 n)) ∧ w' = w := by
  obtain ⟨h1, h2⟩ := hx
  have hm0 : ¬ (m : Int) = 0 := by omega
  have h0 : 0 ≤ IntKind.u64.wrap x := wrap_u64_nonneg x
  have h3 : 0 ≤ IntKind.u64.wrap x % m := Int.emod_nonneg _ hm0
  have h4 : IntKind.u64.wrap x % m < m := Int.emod_lt_of_pos _ (by omega)
  have h5 : Hid (wrap64 (IntKind.u64.wrap x % m) = ((IntKind.u64.wrap x % m).toNat : Int)) := Lib.hid (by rw [IntWalk.wrap64_in _ (by omega)]; omega)
  go_enter Tryd.func32, Tryd.ntmps32
  go_wp2
  go_ret
  exact ⟨⟨(IntKind.u64.wrap x % m).toNat, by omega, by show Ending.returned (.int .i64 (IntKind.u64.wrap x % m)) = _; rw [Int.toNat_of_nonneg h3]⟩, rfl⟩

theorem rises_some (l : List Int) (n : Nat) : Rises (someTo l n) := by
  unfold Rises someTo
  rw [List.pairwise_map]
  exact (List.Pairwise.filter _ List.pairwise_lt_range).imp fun h => by omega
theorem mem_some {l : List Int} {n i : Nat} (h : i < n) : (i : Int) ∈ someTo l n ↔ (i : Int) ∈ l := by
  unfold someTo
  simp only [List.mem_map, List.mem_filter, List.mem_range, decide_eq_true_eq]
  constructor
  · rintro ⟨j, ⟨_, hj⟩, e⟩; rw [← e]; exact hj
  · intro hl; exact ⟨i, ⟨h, hl⟩, rfl⟩
theorem some_congr {a b : List Int} {n : Nat} (h : ∀ i : Nat, i < n → ((i : Int) ∈ a ↔ (i : Int) ∈ b)) : someTo a n = someTo b n := by
  unfold someTo
  congr 1
  refine List.filter_congr fun i hi => ?_
  rw [Bool.eq_iff_iff]
  simpa using h i (List.mem_range.1 hi)
theorem mem_less {l b : List Int} {x : Int} : x ∈ lessL l b ↔ x ∈ l ∧ ¬ x ∈ b := by
  unfold lessL; simp

/-- What is left when the first i of outs are gone. -/
def goneTo (h outs : List Int) (i : Nat) : List Int := h.filter fun x => !decide (x ∈ outs.take i)
theorem gone_zero (h outs : List Int) : goneTo h outs 0 = h := by unfold goneTo; simp
theorem gone_succ {h outs : List Int} {i : Nat} (hi : i < outs.length) : goneTo h outs (i + 1) = (goneTo h outs i).filter fun x => !(x == outs[i]) := by
  unfold goneTo
  rw [List.filter_filter]
  refine List.filter_congr fun x _ => ?_
  rw [← List.take_append_getElem hi]
  simp only [List.mem_append, List.mem_singleton]
  by_cases h1 : x ∈ outs.take i <;> by_cases h2 : x = outs[i] <;> simp [h1, h2]
theorem outs_desc {h t : List Int} (hr : Rises h) {i j : Nat} (hij : i < j) (hj : j < (lessL h t).reverse.length) : (lessL h t).reverse[j] < (lessL h t).reverse[i]'(by omega) := by
  have := List.pairwise_iff_getElem.1 (hr.less t)
  simp only [List.length_reverse] at hj
  rw [List.getElem_reverse, List.getElem_reverse]
  exact this _ _ _ _ (by omega)
theorem outs_in {h t : List Int} (hr : Rises h) {i : Nat} (hi : i < (lessL h t).reverse.length) : (lessL h t).reverse[i] ∈ goneTo h (lessL h t).reverse i := by
  unfold goneTo
  rw [List.mem_filter]
  have hm := mem_less.1 (List.mem_reverse.1 (List.getElem_mem hi))
  refine ⟨hm.1, ?_⟩
  simp only [Bool.not_eq_true', decide_eq_false_iff_not]
  intro hin
  obtain ⟨j, hj, e⟩ := List.mem_take_iff_getElem.1 hin
  have := outs_desc hr (i := j) (j := i) (by omega) hi
  omega
theorem gone_end {hv l : List Int} {n : Nat} : someTo (goneTo (someTo hv n) (lessL (someTo hv n) (someTo l n)).reverse (lessL (someTo hv n) (someTo l n)).reverse.length ++ lessL (someTo l n) (someTo hv n)) n = someTo l n := by
  refine (some_congr fun i hi => ?_).trans (some_congr fun i hi => mem_some hi)
  rw [List.mem_append, mem_less]
  unfold goneTo
  rw [List.take_length, List.mem_filter]
  simp only [List.mem_reverse, mem_less, Bool.not_eq_true', decide_eq_false_iff_not]
  by_cases h1 : (i : Int) ∈ someTo hv n <;> by_cases h2 : (i : Int) ∈ someTo l n <;> simp [h1, h2]

/-- append, to a slice of the call's own, of elements without slices of their own. -/
theorem wpList_own_flat {α : Type} [Cd α] [Flat α] {P : Program} {w : World} {ops : Array Oper} {rest : List Oper} {o : Oper} {a : Act} {Q : Exit → Act → World → Prop} (hgd : o.guard = none) (s x : Operand) (t : TypeId)
    (ho : o.op = .call { callee := .builtin .append, args := #[s, x], argTypes := #[t, t] })
    (base : Nat) (e : TypeId) (hE : ElemT P t e (Cd.n α) (Cd.bytes α)) (S S2 : Nat → Prop) (v : Value) (l : List α) (hs : a.eval s = v) (hown : Own w base e S v l)
    (A : Option Addr) (c : Nat) (r : List α) (hx : a.eval x = .slice A r.length c) (hsrc : Arr w S2 A r)
    (hbytes : (l.length + r.length) * Cd.bytes α ≤ 140737488355328) (hlen : l.length + r.length ≤ 9223372036854775807) (hbase : base ≤ w.heap.size)
    (h : ∀ v' w', Own w' base e S v' (l ++ r) → w.grownBy w' v.ownBlock → wpList P ops Q rest (a.put o.dst v') w') : wpList P ops Q (o :: rest) a w := by
  refine wpList_plain hgd fun K hK => ?_
  obtain ⟨v', w', hrun, h1, h2, h3⟩ := run_own_flat (P := P) t o.type base e hE S S2 v l hown A c r hsrc hbytes hlen hbase
  unfold Oper.wp
  simp [execOp, ho, resolve, invoke, builtin, hs, hx, hrun, Result.andThen]
  exact hK _ _ (h v' w' h1 h2)

set_option maxHeartbeats 0 in
set_option maxRecDepth 100000 in
theorem planSteps_any (hv l : List Int) (A B : Option Addr) (ca cb : Nat) (S T : Nat → Prop) (x : Int) (w : World) (h : Arr w S A hv) (hl : Arr w T B l) (hx : In64 x) (hL : Laid w) :
    Calls Tryd.prog 13 #[.slice A hv.length ca, .slice B l.length cb, .int .i64 x] w fun e w' => e = .returned (.bool true) ∧ Below w.heap.size w w' := by
  go_enter Tryd.func13, Tryd.ntmps13
  go_wp2_with fail
  refine (works19_any _ hL).mono ?_
  rintro e w1 ⟨rfl, HW1⟩
  go_wp2_with fail
  refine (among_any x 30 _ (by omega) (by omega) hx).mono ?_
  rintro e wa ⟨⟨n, hn, rfl⟩, hwa⟩
  have hwa' := hwa.symm
  clear hwa
  subst hwa'
  have hn8 : n * 8 ≤ reach := by unfold reach; omega
  go_wp2_with fail
  refine (some_any hv n A ca S _ (h.below HW1) hn8).mono ?_
  rintro e w2 ⟨hw2, A2, c2, rfl, hs2, -⟩
  have HW2 := Below.trans0 HW1 hw2 HW1.size
  go_wp2_with fail
  refine (some_any l n B cb T _ (hl.below HW2) hn8).mono ?_
  rintro e w3 ⟨hw3, A3, c3, rfl, hs3, -⟩
  have HW3 := Below.trans0 HW2 hw3 HW2.size
  replace hs2 := hs2.below hw3
  go_wp2_with fail
  refine (steps_any (someTo hv n) (someTo l n) A2 A3 c2 c3 _ _ _ hs2 hs3 (rises_some _ _) (rises_some _ _)).mono ?_
  rintro e w4 ⟨hw4, A4, c4, A5, c5, rfl, ho4, hi4⟩
  have HW4 := Below.trans0 HW3 hw4 HW3.size
  have hh4 : Arr w4 (fun _ => True) A2 (someTo hv n) := (hs2.below hw4).mono (fun _ _ _ => trivial)
  have ht4 : Arr w4 (fun _ => True) A3 (someTo l n) := (hs3.below hw4).mono (fun _ _ _ => trivial)
  have hlen1 := someTo_len hv n
  have hlen2 := someTo_len l n
  have hge := Lib.hid (gone_end (hv := hv) (l := l) (n := n))
  have hrh := rises_some hv n
  have hrt := rises_some l n
  have hle1 : (lessL (someTo hv n) (someTo l n)).length ≤ (someTo hv n).length := List.length_filter_le _ _
  have hle2 : (lessL (someTo l n) (someTo hv n)).length ≤ (someTo l n).length := List.length_filter_le _ _
  clear hw2 hw3 hw4 HW1 HW2 HW3 hs2 hs3
  generalize someTo hv n = hh at *
  generalize hte : someTo l n = tt at *
  obtain ⟨outs, houts⟩ : ∃ o, o = (lessL hh tt).reverse := ⟨_, rfl⟩
  have hdesc : Hid (∀ (i j : Nat) (hij : i < j) (hj : j < outs.length), outs[j] < outs[i]'(by omega)) := by subst houts; exact Lib.hid (fun i j a b => outs_desc hrh a b)
  have hin : Hid (∀ (i : Nat) (hi : i < outs.length), outs[i] ∈ goneTo hh outs i) := by subst houts; exact Lib.hid (fun i a => outs_in hrh a)
  have hol : Hid (outs.length = (lessL hh tt).length) := Lib.hid (by rw [houts, List.length_reverse])
  rw [← houts] at ho4 hge
  rw [← hol.out]
  clear houts
  have hgl : ∀ i, (goneTo hh outs i).length ≤ hh.length := fun i => List.length_filter_le _ _
  have hoo : outs.length ≤ 30 := by have := hol.out; omega
  go_wp2_with fail
  go_loopw [11, 12] (fun a i wr => Below w4.heap.size w4 wr ∧ ∃ k : Nat, k ≤ outs.length ∧ i = .int .i64 k ∧ ∃ A9 c9, a = .slice A9 (goneTo hh outs k).length c9 ∧ Arr wr (fun _ => True) A9 (goneTo hh outs k)) (fun _ i _ => outs.length - (intOf i).toNat)
  case atStart => exact ⟨Below.refl _ _, 0, Nat.zero_le _, rfl, A2, c2, by rw [gone_zero], by rw [gone_zero]; exact hh4⟩
  case round =>
    obtain ⟨hb, k, hk, rfl, A9, c9, rfl, hat⟩ := hrel
    have HWr : Below w.heap.size w wr := Below.trans0 HW4 hb HW4.size
    by_cases hlt : k < outs.length
    · have hlt' : (k : Int) < outs.length := by omega
      obtain ⟨bo, oo, hAe, hbo, hso, hco⟩ := (ho4.below hb).getI k hlt
      subst hAe
      have hsucc := Lib.hid (gone_succ (h := hh) hlt)
      have hmem := Lib.hid (decide_eq_true (hin.out k hlt))
      have hgk := hgl k
      obtain ⟨wo, hwo⟩ : ∃ wo : World, wo = wr := ⟨_, rfl⟩
      subst hwo
      have step : ∀ W1, Below wo.heap.size wo W1 → True := fun _ _ => trivial
      generalize hae : goneTo hh outs k = at0 at *
      have hcon : ∀ X, Calls Tryd.prog 40 #[.slice A9 at0.length c9, .int .i64 outs[k]] (wo.ext X) fun e W => e = .returned (.bool true) ∧ Below (wo.ext X).heap.size (wo.ext X) W := fun X =>
        (hasInt_any at0 outs[k] A9 c9 _ _ (hat.below (ext_below _ _))).mono fun e W ⟨he, hw⟩ => ⟨by rw [he, hmem.out], by rw [hw]; exact Below.refl _ _⟩
      by_cases h0 : k = 0
      · have d2 : ¬ 0 < k := by omega
        have d3 : ¬ (0 : Int) < k := by omega
        have d0 : decide ((0 : Int) < k) = false := decide_eq_false d3
        have d1 : decide (0 < k) = false := decide_eq_false d2
        clear h0
        go_wp2
        refine region_quiet (by kernel_rfl) (by kernel_rfl) ?_
        repeat (go_big_quiet_step ((go_at_call 40; exact call_quiet (hcon _))))
        refine wpQuiet_nil ?_
        intro W1 hw1
        replace hw1 := below_of_ext hw1
        have HB1 : Below w4.heap.size w4 W1 := Below.trans0 hb hw1 hb.size
        have hat1 : Arr W1 (fun _ => True) A9 at0 := hat.below hw1
        have ho1 : Arr W1 (fun _ => True) (some ⟨bo, oo, none⟩) outs := ho4.below HB1
        clear hw1 hco hbo
        go_wp2
        go_loopw [13, 14] (fun r j wr => Below W1.heap.size W1 wr ∧ ∃ m : Nat, m ≤ at0.length ∧ j = .int .i64 m ∧ Own wr W1.heap.size 3 (fun _ => False) r ((at0.take m).filter fun x => !(x == outs[k]))) (fun _ j _ => at0.length - (intOf j).toNat)
        case atStart => exact ⟨by (repeat (first | exact Below.refl _ _ | assumption | (refine Below.setCell ?_ (by first | omega | (simp; done) | (simp; omega) | exact Below.size (by assumption)) _) | (refine Below.alloc ?_ (by first | omega | (simp; done) | (simp; omega) | exact Below.size (by assumption)) _) | refine Below.drew ?_ | refine Below.trans0 ?_ (by assumption))), 0, Nat.zero_le _, rfl, Own.made _ _ _ _ (Nat.le_refl _)⟩
        case round =>
          obtain ⟨hb2, m, hm, rfl, hown⟩ := hrel
          by_cases hmt : m < at0.length
          · have hmt' : (m : Int) < at0.length := by omega
            obtain ⟨ba, oa, rfl, hba, hsa, hca⟩ := (hat1.below hb2).getI m hmt
            obtain ⟨bo2, oo2, e, hbo2, -, hco2⟩ := (ho1.below hb2).getI k hlt
            cases e
            have hfl : ((at0.take m).filter fun x => !(x == outs[k])).length ≤ m := Nat.le_trans (List.length_filter_le _ _) (by simp; omega)
            cases he : (at0[m] == outs[k])
            · have hst : Hid ((at0.take (m + 1)).filter (fun x => !(x == outs[k])) = (at0.take m).filter (fun x => !(x == outs[k])) ++ [at0[m]]) := Lib.hid (by rw [← List.take_append_getElem hmt, List.filter_append]; simp [he])
              have hne : (at0[m] != outs[k]) = true := by unfold bne; rw [he]; rfl
              have hne2 : ¬ at0[m] = outs[k] := by simpa using he
              clear he
              go_wp2
              refine region_quiet (by kernel_rfl) (by kernel_rfl) ?_
              repeat (go_big_quiet_step (fail))
              refine wpQuiet_nil ?_
              intro W2 hw2
              replace hw2 := below_of_ext hw2
              replace hca := box_below hw2 hca
              have hb3 : Below W1.heap.size W1 W2 := Below.trans0 hb2 hw2 hb2.size
              have hown2 := hown.below hw2
              clear hw2 hown
              go_wp2_with (at_builtin; refine Hold.out ?_)
              refine ⟨?_⟩
              refine wpList_own_app rfl _ _ 23 rfl W1.heap.size 3 elInt (fun _ => False) u13 _ ?_ (hown2.below ((Below.refl _ _).alloc (Nat.le_refl _) _)) ⟨W2.heap.size, 0, none⟩ 1 [at0[m]] ?_ (Src.one 3 (show Cd.rep W2 (fun b => False ∧ Value.ownBlock u13 ≠ some b) at0[m] [.int .i64 at0[m]] from ⟨rfl, hsa⟩)) ?_ ?_ ?_ ?_
              · simp [Act.eval]
              · simp [Act.eval]
              · exact app_bound (n := 100) (by change 100 * 8 ≤ _; unfold reach; omega) (by simp; omega)
              · simp; omega
              · have := hb3.size; simp; omega
              intro v2 w6 hown6 hg6 hat6
              have hb6 : Below W1.heap.size W1 w6 := (hb3.alloc hb3.size _).grown hg6 (by have := hb3.size; simp; omega) (fun b e => (hown2.block_ge _ e).1)
              clear hg6 hat6 hown2
              go_wp2
              go_roundw
              case rel => exact ⟨hb6, m + 1, by omega, by go_num, by rw [hst.out]; exact hown6⟩
              case measure => simp [intOf]; omega
            · have hst : Hid ((at0.take (m + 1)).filter (fun x => !(x == outs[k])) = (at0.take m).filter (fun x => !(x == outs[k]))) := Lib.hid (by rw [← List.take_append_getElem hmt, List.filter_append]; simp [he])
              have hne : (at0[m] != outs[k]) = false := by unfold bne; rw [he]; rfl
              have hne2 : at0[m] = outs[k] := by simpa using he
              clear he
              go_wp2
              refine region_quiet (by kernel_rfl) (by kernel_rfl) ?_
              repeat (go_big_quiet_step (fail))
              refine wpQuiet_nil ?_
              intro W2 hw2
              replace hw2 := below_of_ext hw2
              go_wp2
              go_roundw
              case rel => exact ⟨Below.trans0 hb2 hw2 hb2.size, m + 1, by omega, by go_num, by rw [hst.out]; exact hown.below hw2⟩
              case measure => simp [intOf]; omega
          · rw [List.take_of_length_le (by omega), ← hsucc.out] at hown
            have hgk1 := hgl (k + 1)
            obtain ⟨A8, c8, e8, hr8⟩ := hown.rep (S' := fun _ => True) (fun _ _ _ => trivial) (fun _ _ _ => trivial) (by change _ * 8 ≤ _; unfold reach; omega) (by omega)
            subst e8
            go_wp2
            go_roundw
            case rel => exact ⟨Below.trans0 HB1 hb2 HB1.size, k + 1, by omega, by go_num, A8, c8, rfl, hr8⟩
            case measure => simp [intOf]; omega
      · have d2 : 0 < k := by omega
        have d3 : (0 : Int) < k := by omega
        have d0 : decide ((0 : Int) < k) = true := decide_eq_true d3
        have d1 : decide (0 < k) = true := decide_eq_true d2
        have hk1 : k - 1 < outs.length := by omega
        have a1 : IntKind.i64.wrap ((k : Int) - 1) = (k : Int) - 1 := IntWalk.i64_in _ (by omega)
        have a2 : (0 : Int) ≤ (k : Int) - 1 := by omega
        have a3 : ((k : Int) - 1).toNat = k - 1 := by omega
        have a4 : (k : Int) - 1 < outs.length := by omega
        obtain ⟨bp, op, e, hbp, -, hcp⟩ := (ho4.below hb).getI (k - 1) hk1
        cases e
        have hdd := hdesc.out (k - 1) k (by omega) hlt
        have d5 : decide (outs[k - 1] ≤ outs[k]) = false := by simp; omega
        have d6 : ¬ outs[k - 1] ≤ outs[k] := by omega
        go_wp2
        refine region_quiet (by kernel_rfl) (by kernel_rfl) ?_
        repeat (go_big_quiet_step ((go_at_call 40; exact call_quiet (hcon _))))
        refine wpQuiet_nil ?_
        intro W1 hw1
        replace hw1 := below_of_ext hw1
        clear hcp hbp hdd d5 d6
        have HB1 : Below w4.heap.size w4 W1 := Below.trans0 hb hw1 hb.size
        have hat1 : Arr W1 (fun _ => True) A9 at0 := hat.below hw1
        have ho1 : Arr W1 (fun _ => True) (some ⟨bo, oo, none⟩) outs := ho4.below HB1
        clear hw1 hco hbo
        go_wp2
        go_loopw [13, 14] (fun r j wr => Below W1.heap.size W1 wr ∧ ∃ m : Nat, m ≤ at0.length ∧ j = .int .i64 m ∧ Own wr W1.heap.size 3 (fun _ => False) r ((at0.take m).filter fun x => !(x == outs[k]))) (fun _ j _ => at0.length - (intOf j).toNat)
        case atStart => exact ⟨by (repeat (first | exact Below.refl _ _ | assumption | (refine Below.setCell ?_ (by first | omega | (simp; done) | (simp; omega) | exact Below.size (by assumption)) _) | (refine Below.alloc ?_ (by first | omega | (simp; done) | (simp; omega) | exact Below.size (by assumption)) _) | refine Below.drew ?_ | refine Below.trans0 ?_ (by assumption))), 0, Nat.zero_le _, rfl, Own.made _ _ _ _ (Nat.le_refl _)⟩
        case round =>
          obtain ⟨hb2, m, hm, rfl, hown⟩ := hrel
          by_cases hmt : m < at0.length
          · have hmt' : (m : Int) < at0.length := by omega
            obtain ⟨ba, oa, rfl, hba, hsa, hca⟩ := (hat1.below hb2).getI m hmt
            obtain ⟨bo2, oo2, e, hbo2, -, hco2⟩ := (ho1.below hb2).getI k hlt
            cases e
            have hfl : ((at0.take m).filter fun x => !(x == outs[k])).length ≤ m := Nat.le_trans (List.length_filter_le _ _) (by simp; omega)
            cases he : (at0[m] == outs[k])
            · have hst : Hid ((at0.take (m + 1)).filter (fun x => !(x == outs[k])) = (at0.take m).filter (fun x => !(x == outs[k])) ++ [at0[m]]) := Lib.hid (by rw [← List.take_append_getElem hmt, List.filter_append]; simp [he])
              have hne : (at0[m] != outs[k]) = true := by unfold bne; rw [he]; rfl
              have hne2 : ¬ at0[m] = outs[k] := by simpa using he
              clear he
              go_wp2
              refine region_quiet (by kernel_rfl) (by kernel_rfl) ?_
              repeat (go_big_quiet_step (fail))
              refine wpQuiet_nil ?_
              intro W2 hw2
              replace hw2 := below_of_ext hw2
              replace hca := box_below hw2 hca
              have hb3 : Below W1.heap.size W1 W2 := Below.trans0 hb2 hw2 hb2.size
              have hown2 := hown.below hw2
              clear hw2 hown
              go_wp2_with (at_builtin; refine Hold.out ?_)
              refine ⟨?_⟩
              refine wpList_own_app rfl _ _ 23 rfl W1.heap.size 3 elInt (fun _ => False) u13 _ ?_ (hown2.below ((Below.refl _ _).alloc (Nat.le_refl _) _)) ⟨W2.heap.size, 0, none⟩ 1 [at0[m]] ?_ (Src.one 3 (show Cd.rep W2 (fun b => False ∧ Value.ownBlock u13 ≠ some b) at0[m] [.int .i64 at0[m]] from ⟨rfl, hsa⟩)) ?_ ?_ ?_ ?_
              · simp [Act.eval]
              · simp [Act.eval]
              · exact app_bound (n := 100) (by change 100 * 8 ≤ _; unfold reach; omega) (by simp; omega)
              · simp; omega
              · have := hb3.size; simp; omega
              intro v2 w6 hown6 hg6 hat6
              have hb6 : Below W1.heap.size W1 w6 := (hb3.alloc hb3.size _).grown hg6 (by have := hb3.size; simp; omega) (fun b e => (hown2.block_ge _ e).1)
              clear hg6 hat6 hown2
              go_wp2
              go_roundw
              case rel => exact ⟨hb6, m + 1, by omega, by go_num, by rw [hst.out]; exact hown6⟩
              case measure => simp [intOf]; omega
            · have hst : Hid ((at0.take (m + 1)).filter (fun x => !(x == outs[k])) = (at0.take m).filter (fun x => !(x == outs[k]))) := Lib.hid (by rw [← List.take_append_getElem hmt, List.filter_append]; simp [he])
              have hne : (at0[m] != outs[k]) = false := by unfold bne; rw [he]; rfl
              have hne2 : at0[m] = outs[k] := by simpa using he
              clear he
              go_wp2
              refine region_quiet (by kernel_rfl) (by kernel_rfl) ?_
              repeat (go_big_quiet_step (fail))
              refine wpQuiet_nil ?_
              intro W2 hw2
              replace hw2 := below_of_ext hw2
              go_wp2
              go_roundw
              case rel => exact ⟨Below.trans0 hb2 hw2 hb2.size, m + 1, by omega, by go_num, by rw [hst.out]; exact hown.below hw2⟩
              case measure => simp [intOf]; omega
          · rw [List.take_of_length_le (by omega), ← hsucc.out] at hown
            have hgk1 := hgl (k + 1)
            obtain ⟨A8, c8, e8, hr8⟩ := hown.rep (S' := fun _ => True) (fun _ _ _ => trivial) (fun _ _ _ => trivial) (by change _ * 8 ≤ _; unfold reach; omega) (by omega)
            subst e8
            go_wp2
            go_roundw
            case rel => exact ⟨Below.trans0 HB1 hb2 HB1.size, k + 1, by omega, by go_num, A8, c8, rfl, hr8⟩
            case measure => simp [intOf]; omega
    · have hke : k = outs.length := by omega
      subst hke
      have hgk := hgl outs.length
      generalize hae : goneTo hh outs outs.length = at0 at *
      go_wp2_with fail
      refine (baseInts_any at0 A9 c9 _ _ hat).mono ?_
      rintro e w5 ⟨hw5, v5, rfl, hown5⟩
      have B5 : Below w4.heap.size w4 w5 := Below.trans0 hb hw5 hb.size
      go_wp2_with (at_builtin; refine Hold.out ?_)
      refine ⟨?_⟩
      refine wpList_own_flat rfl _ _ 23 rfl wr.heap.size 3 elInt _ (fun _ => True) v5 at0 rfl hown5 A5 c5 (lessL tt hh) rfl (hi4.below B5) (app_bound (n := 100) (by change 100 * 8 ≤ _; unfold reach; omega) (by omega)) (by omega) hw5.size ?_
      intro v6 w6 hown6 hg6
      have B6 : Below wr.heap.size wr w6 := Below.grown hw5 hg6 hw5.size (fun b e => (hown5.block_ge _ e).1)
      obtain ⟨both, hbo⟩ : ∃ b, b = at0 ++ lessL tt hh := ⟨_, rfl⟩
      have hbl : both.length ≤ 100 := by rw [hbo, List.length_append]; omega
      rw [← hbo] at hown6 hge
      clear hbo
      obtain ⟨A6, c6, e6, hr6⟩ := hown6.rep (S' := fun _ => True) (fun _ _ _ => trivial) (fun _ _ _ => trivial) (by change _ * 8 ≤ _; unfold reach; omega) (by omega)
      subst e6
      have B46 : Below w4.heap.size w4 w6 := Below.trans0 hb B6 hb.size
      clear hown6 hg6 hown5
      go_wp2_with fail
      refine (some_any both n A6 c6 _ _ hr6 hn8).mono ?_
      rintro e w7 ⟨hw7, A7, c7, rfl, hs7, -⟩
      rw [hge.out] at hs7
      rw [hge.out]
      have B47 : Below w4.heap.size w4 w7 := Below.trans0 B46 hw7 B46.size
      go_wp2_with fail
      refine (steps_any tt hh A3 A2 c3 c2 _ _ _ (ht4.below B47) (hh4.below B47) hrt hrh).mono ?_
      rintro e w8 ⟨hw8, A8, c8, A10, c10, rfl, -, -⟩
      have B48 : Below w4.heap.size w4 w8 := Below.trans0 B47 hw8 B47.size
      go_wp2_with fail
      refine (sameInts_any tt tt A7 A3 c7 c3 _ _ _ (hs7.below hw8) (ht4.below B48)).mono ?_
      rintro e w9 ⟨rfl, hw9⟩
      rw [decide_eq_true rfl]
      have hol2 := hol.out
      rw [← hol2]
      clear hol2
      go_wp2
      go_ret
      exact ⟨by simp, Below.trans0 HW4 (Below.trans0 B48 hw9 B48.size) HW4.size⟩

end Go.Proofs.YteoafnkcplealaaDoor
