/- Contracts: plan.Grants, plan.Valid. -/
import Derived.Test.YtppbjmhllmaakaaGreatDoorC19
import Derived.Test.YtppbjmhllmaakaaGreatDoorC17
set_option linter.unusedVariables false
namespace Go.Proofs.YtppbjmhllmaakaaGreatDoor
open Go.RowKit
open Go.Maps (Keyed)

theorem entersG1 : ∀ args w, (callFunc 59 args).run Tryz.prog w = .ok (.enter 59 args) w := enters_of Tryz.func59 (by kernel_rfl) rfl

set_option maxHeartbeats 1000000 in
set_option maxRecDepth 100000 in
theorem grants1_pred (w : World) (S T : Nat → Prop) (all : List Pkg) (l : List Clause) (A : Option Addr) (ca : Nat) (q : Nat) (hA : Arr w S A all)
    (h2 : w.cell? ⟨q, 0, none⟩ = some (.slice A all.length ca)) : Pred 59 #[.pointer (some ⟨q, 0, none⟩)] w T (fun c => !met c all) l := by
  intro x hx W vs hb hr
  have hr' := hr
  obtain ⟨C, cc, rfl, hc⟩ := hr'
  have hq : q < W.heap.size := Nat.lt_of_lt_of_le (World.block_lt_of_cell? w ⟨q, 0, none⟩ h2) hb.size
  replace h2 := box_below hb h2
  replace hA := hA.below hb
  go_enter Tryz.func59, Tryz.ntmps59
  go_wp2_with (go_at_call 26; refine (met_any x all [_, _] A ca T S _ (hr.below (by (repeat (first | exact Below.refl _ _ | assumption | (refine Below.setCell ?_ (by first | omega | (simp; done) | (simp; omega) | exact Below.size (by assumption)) _) | (refine Below.alloc ?_ (by first | omega | (simp; done) | (simp; omega) | exact Below.size (by assumption)) _) | refine Below.drew ?_ | refine Below.trans0 ?_ (by assumption))))) (hA.below (by (repeat (first | exact Below.refl _ _ | assumption | (refine Below.setCell ?_ (by first | omega | (simp; done) | (simp; omega) | exact Below.size (by assumption)) _) | (refine Below.alloc ?_ (by first | omega | (simp; done) | (simp; omega) | exact Below.size (by assumption)) _) | refine Below.drew ?_ | refine Below.trans0 ?_ (by assumption)))))).mono ?_; rintro e w1 ⟨rfl, hw1⟩)
  all_goals (go_ret; exact ⟨by simp, by (repeat (first | exact Below.refl _ _ | assumption | (refine Below.setCell ?_ (by first | omega | (simp; done) | (simp; omega) | exact Below.size (by assumption)) _) | (refine Below.alloc ?_ (by first | omega | (simp; done) | (simp; omega) | exact Below.size (by assumption)) _) | refine Below.drew ?_ | refine Below.trans0 ?_ (by assumption)))⟩)

set_option maxHeartbeats 2000000 in
set_option maxRecDepth 100000 in
theorem planGrants_any (cat : List Pkg) (l : List Int) (want : List Clause) (A B C : Option Addr) (ca cb cc : Nat) (S T U : Nat → Prop) (w : World) (hA : Arr w S A cat) (h : Arr w T B l) (hC : Arr w U C want) :
    Calls Tryz.prog 21 #[.slice A cat.length ca, .slice B l.length cb, .slice C want.length cc] w fun e w' => e = .returned (.bool (grants cat l want)) ∧ Below w.heap.size w w' := by
  cases ht : tgt cat.length l
  · have Ht := Lib.hid ht
    have fin := Lib.hid (show grants cat l want = false by unfold grants; rw [ht]; rfl)
    clear ht
    go_enter Tryz.func21, Tryz.ntmps21
    go_wp2_with (first | (go_at_call 19; refine (planPick_any cat l A B ca cb S T _ hA h).mono ?_; rintro e w1 ⟨hw1, A1, c1, rfl, hp, hc1⟩) | (go_at_call 56; refine (aims_any cat l A B ca cb S T _ (hA.below (by (repeat (first | exact Below.refl _ _ | assumption | (refine Below.setCell ?_ (by first | omega | (simp; done) | (simp; omega) | exact Below.size (by assumption)) _) | (refine Below.alloc ?_ (by first | omega | (simp; done) | (simp; omega) | exact Below.size (by assumption)) _) | refine Below.drew ?_ | refine Below.trans0 ?_ (by assumption))))) (h.below (by (repeat (first | exact Below.refl _ _ | assumption | (refine Below.setCell ?_ (by first | omega | (simp; done) | (simp; omega) | exact Below.size (by assumption)) _) | (refine Below.alloc ?_ (by first | omega | (simp; done) | (simp; omega) | exact Below.size (by assumption)) _) | refine Below.drew ?_ | refine Below.trans0 ?_ (by assumption)))))).mono ?_; rintro e w2 ⟨rfl, hw2⟩; have hw2' := hw2.symm; clear hw2; subst hw2'; rw [Ht.out]))
    go_ret
    exact ⟨ret_bool fin.out.symm, by (repeat (first | exact Below.refl _ _ | assumption | (refine Below.setCell ?_ (by first | omega | (simp; done) | (simp; omega) | exact Below.size (by assumption)) _) | (refine Below.alloc ?_ (by first | omega | (simp; done) | (simp; omega) | exact Below.size (by assumption)) _) | refine Below.drew ?_ | refine Below.trans0 ?_ (by assumption)))⟩
  · have Ht := Lib.hid ht
    have fin := Lib.hid (show grants cat l want = want.all fun c => met c (pick cat l) by unfold grants; rw [ht]; rfl)
    clear ht
    go_enter Tryz.func21, Tryz.ntmps21
    go_wp2_with (first | (go_at_call 19; refine (planPick_any cat l A B ca cb S T _ hA h).mono ?_; rintro e w1 ⟨hw1, A1, c1, rfl, hp, hc1⟩; have c0 : (w1.alloc (.cells #[.slice A1 (pick cat l).length c1] 22)).cell? ⟨w1.heap.size, 0, none⟩ = some (.slice A1 (pick cat l).length c1) := (by simp); have HWa : Below w.heap.size w (w1.alloc (.cells #[.slice A1 (pick cat l).length c1] 22)) := hw1.alloc hw1.size _) | (go_at_call 56; refine (aims_any cat l A B ca cb S T _ (hA.below (by (repeat (first | exact Below.refl _ _ | assumption | (refine Below.setCell ?_ (by first | omega | (simp; done) | (simp; omega) | exact Below.size (by assumption)) _) | (refine Below.alloc ?_ (by first | omega | (simp; done) | (simp; omega) | exact Below.size (by assumption)) _) | refine Below.drew ?_ | refine Below.trans0 ?_ (by assumption))))) (h.below (by (repeat (first | exact Below.refl _ _ | assumption | (refine Below.setCell ?_ (by first | omega | (simp; done) | (simp; omega) | exact Below.size (by assumption)) _) | (refine Below.alloc ?_ (by first | omega | (simp; done) | (simp; omega) | exact Below.size (by assumption)) _) | refine Below.drew ?_ | refine Below.trans0 ?_ (by assumption)))))).mono ?_; rintro e w2 ⟨rfl, hw2⟩; have hw2' := hw2.symm; clear hw2; subst hw2'; rw [Ht.out]) | (go_at_call 58; (refine (containsClause_any want _ _ _ _ _ U _ entersG1 (hC.below (by (repeat (first | exact Below.refl _ _ | assumption | (refine Below.setCell ?_ (by first | omega | (simp; done) | (simp; omega) | exact Below.size (by assumption)) _) | (refine Below.alloc ?_ (by first | omega | (simp; done) | (simp; omega) | exact Below.size (by assumption)) _) | refine Below.drew ?_ | refine Below.trans0 ?_ (by assumption))))) (grants1_pred _ _ U (pick cat l) want A1 c1 w1.heap.size (hp.below (by (repeat (first | exact Below.refl _ _ | assumption | (refine Below.setCell ?_ (by first | omega | (simp; done) | (simp; omega) | exact Below.size (by assumption)) _) | (refine Below.alloc ?_ (by first | omega | (simp; done) | (simp; omega) | exact Below.size (by assumption)) _) | refine Below.drew ?_ | refine Below.trans0 ?_ (by assumption))))) c0)).mono ?_; rintro e w3 ⟨rfl, hw3⟩; rw [any_not_all]; have HW3 : Below w.heap.size w w3 := Below.trans0 HWa hw3 HWa.size)))
    go_ret
    exact ⟨ret_bool (by rw [fin.out]), HW3⟩

theorem once_mem {l : List Pkg} {k : Nat} (hk : k < l.length) : ((l.take k).any fun q => decide (q.name = (l.getD k pkg0).name)) = true ↔ Value.string l[k].name ∈ (l.take k).map (fun q => Value.string q.name) := by
  rw [List.any_eq_true, List.mem_map, pkg_at hk]
  constructor
  · rintro ⟨q, hq, h⟩; exact ⟨q, hq, by rw [of_decide_eq_true h]⟩
  · rintro ⟨q, hq, h⟩; exact ⟨q, hq, by simpa using h⟩
theorem nameKeyed : Keyed Tryz.prog 9 := Maps.string_keyed Tryz.underlying9
theorem name_key (s : ByteArray) (hs : s.size ≤ reach) : ∃ kl, keyOf Tryz.prog 9 (.string s) = some kl := ⟨_, WideMaps.keyOf_string_mk Tryz.underlying9 (by unfold reach at hs; unfold maxLen; omega)⟩

theorem broken_empty {cat : List Pkg} {l : List Int} : (broken cat l).isEmpty = true ↔ (broken cat l).length = 0 := by
  cases broken cat l <;> simp

set_option maxHeartbeats 0 in
set_option maxRecDepth 100000 in
theorem planValid_any (cat : List Pkg) (l : List Int) (A B : Option Addr) (ca cb : Nat) (S T : Nat → Prop) (w : World) (hA : Arr w S A cat) (h : Arr w T B l) (hL : Laid w) :
    Calls Tryz.prog 65 #[.slice A cat.length ca, .slice B l.length cb] w fun e w' => e = .returned (.int .i64 (okE (validP cat l) 190)) ∧ Below w.heap.size w w' := by
  have hmm := @run_makeMap Tryz.prog
  have hl := h.len
  have hcl := hA.len
  cases hk : planOk cat
  · have Hk := Lib.hid hk
    have fin := Lib.hid (show validP cat l = false by unfold validP; rw [hk]; rfl)
    clear hk
    go_enter Tryz.func65, Tryz.ntmps65
    go_wp2_with (go_at_call 44; refine (planCheck_any cat A ca S _ hA hL).mono ?_; rintro e w1 ⟨rfl, hw1⟩; rw [Hk.out])
    go_ret
    exact ⟨ret_int (by rw [fin.out]; rfl), by (repeat (first | exact Below.refl _ _ | assumption | (refine Below.setCell ?_ (by first | omega | (simp; done) | (simp; omega) | exact Below.size (by assumption)) _) | (refine Below.alloc ?_ (by first | omega | (simp; done) | (simp; omega) | exact Below.size (by assumption)) _) | refine Below.drew ?_ | refine Below.trans0 ?_ (by assumption)))⟩
  · have Hk := Lib.hid hk
    cases ht : tgt cat.length l
    · have Ht := Lib.hid ht
      have fin := Lib.hid (show validP cat l = false by unfold validP; rw [ht]; simp)
      clear hk ht
      go_enter Tryz.func65, Tryz.ntmps65
      go_wp2_with (first | (go_at_call 44; refine (planCheck_any cat A ca S _ hA hL).mono ?_; rintro e w1 ⟨rfl, hw1⟩; rw [Hk.out]) | (go_at_call 56; refine (aims_any cat l A B ca cb S T _ (hA.below hw1) (h.below hw1)).mono ?_; rintro e w2 ⟨rfl, hw2⟩; have hw2' := hw2.symm; clear hw2; subst hw2'; rw [Ht.out]))
      go_ret
      exact ⟨ret_int (by rw [fin.out]; rfl), by (repeat (first | exact Below.refl _ _ | assumption | (refine Below.setCell ?_ (by first | omega | (simp; done) | (simp; omega) | exact Below.size (by assumption)) _) | (refine Below.alloc ?_ (by first | omega | (simp; done) | (simp; omega) | exact Below.size (by assumption)) _) | refine Below.drew ?_ | refine Below.trans0 ?_ (by assumption)))⟩
    · have Ht := Lib.hid ht
      by_cases hb : (broken cat l).length = 0
      · have Hb := Lib.hid hb
        have fin0 := Lib.hid (show validP cat l = namesOnce (pick cat l) by unfold validP; rw [hk, ht, broken_empty.2 hb]; rfl)
        clear hk ht hb
        go_enter Tryz.func65, Tryz.ntmps65
        go_wp2_with (first | (go_at_call 44; refine (planCheck_any cat A ca S _ hA hL).mono ?_; rintro e w1 ⟨rfl, hw1⟩; rw [Hk.out]) | (go_at_call 56; refine (aims_any cat l A B ca cb S T _ (hA.below hw1) (h.below hw1)).mono ?_; rintro e w2 ⟨rfl, hw2⟩; have hw2' := hw2.symm; clear hw2; subst hw2'; rw [Ht.out]) | (go_at_call 113; refine (planBroken_any cat l A B ca cb S T _ (hA.below hw1) (h.below hw1)).mono ?_; rintro e w3 ⟨hw3, A3, c3, rfl, -, -⟩; rw [Hb.out]; have HW3 := Below.trans0 hw1 hw3 hw1.size) | (go_at_call 19; refine (planPick_any cat l A B ca cb (fun b => S b ∧ b < w.heap.size) T _ (hA.old.below (HW3.alloc HW3.size _)) (h.below (HW3.alloc HW3.size _))).mono ?_; rintro e w4 ⟨hw4, A4, c4, rfl, hp, -⟩))
        generalize hgp : pick cat l = pk at *
        have hpl := hp.len
        have HW4 : Below w.heap.size w w4 := Below.trans0 (HW3.alloc HW3.size _) hw4 (HW3.alloc HW3.size _).size
        have hset0 : SetW Tryz.prog 9 4 w4 w3.heap.size 0 [] := (SetW.made _ _ _ w3).below hw4
        have hp' : Arr w4 (fun b => b ≠ w3.heap.size) A4 pk := hp.mono (fun b _ hb => by have hs := HW3.size; rcases hb with ⟨⟨_, h1⟩, _⟩ | h1; (omega); (simp at h1; omega))
        have hge := HW3.size
        generalize w3.heap.size = mb at *
        clear hw4 hw3 hw1 hp HW3
        go_loopw [4, 29] (fun r i wr => Below w.heap.size w wr ∧ ∃ k : Nat, k ≤ pk.length ∧ i = .int .i64 k ∧ Hid (To (onceAt pk) k) ∧ SetW Tryz.prog 9 4 wr mb k ((pk.take k).map (fun q => Value.string q.name)) ∧ Arr wr (fun b => b ≠ mb) A4 pk) (fun _ i _ => pk.length - (intOf i).toNat)
        case atStart => exact ⟨HW4, 0, Nat.zero_le _, rfl, Lib.hid (To.zero _), hset0, hp'⟩
        case round =>
          obtain ⟨hB, k, hk, rfl, hj, hset, hpk⟩ := hrel
          by_cases hlt : k < pk.length
          · obtain ⟨b, o, B2, cb2, C2, cc2, D2, cd2, rfl, hb0, e0, e1, e2, e3, e4, hrep, hparts, hprov, hcls⟩ := hpk.getPkg k hlt
            obtain ⟨-, -, -, -, -, -, -, hsn, -, hst, -, -⟩ := id hrep
            have hkey := name_key pk[k].name hsn
            have hmem := once_mem hlt
            have HW : Below w.heap.size w (wr.alloc (.cells #[.string pk[k].name, .slice B2 pk[k].ver.parts.length cb2, .string pk[k].ver.tail, .slice C2 pk[k].provides.length cc2, .slice D2 pk[k].clauses.length cd2] 36)) := hB.alloc hB.size _
            have HX : Below wr.heap.size wr (wr.alloc (.cells #[.string pk[k].name, .slice B2 pk[k].ver.parts.length cb2, .string pk[k].ver.tail, .slice C2 pk[k].provides.length cc2, .slice D2 pk[k].clauses.length cd2] 36)) := (Below.refl _ _).alloc (Nat.le_refl _) _
            cases hr : (pk.take k).any fun q => decide (q.name = (pk.getD k pkg0).name)
            · have Hr : Tells false (Value.string pk[k].name ∈ (pk.take k).map (fun q => Value.string q.name)) := ⟨(fun e => by cases e), (fun e => by have := hmem.2 e; rw [hr] at this; cases this)⟩
              have fin : Hid (To (onceAt pk) (k + 1)) := Lib.hid (hj.out.succ (by unfold onceAt; rw [hr]; rfl))
              clear hr hmem
              go_wp2_with (first
                | (at_lookup; refine wpList_lookup_set rfl _ _ 122 rfl 9 4 nameKeyed Tryz.underlying122 Tryz.underlying4 (zeroBool _) mb k _ rfl (hset.below HX) (.string pk[k].name) rfl hkey _ Hr ?_)
                | (at_mapUpdate; refine wpList_put_set rfl _ _ _ 122 rfl 9 4 nameKeyed Tryz.underlying122 Tryz.underlying4 mb k _ rfl (hset.below HX) (by unfold maxLen; omega) (.string pk[k].name) rfl rfl hkey ?_; intro w7 hset7 hg7)
                | go_in)
              have hB7 : Below w.heap.size w w7 := Below.grown HW hg7 HW.size (fun b e => by cases e; exact hge)
              have hset8 : SetW Tryz.prog 9 4 w7 mb (k + 1) ((pk.take (k + 1)).map (fun q => Value.string q.name)) := by rw [take_map_succ _ hlt]; exact hset7
              have hpk7 : Arr w7 (fun b => b ≠ mb) (some ⟨b, o, none⟩) pk := (hpk.below HX).keep (fun b hS hlt => ⟨hS, hg7.block b hlt (by simpa using hS)⟩)
              clear hset7 hg7 HW HX hrep hparts hprov hcls e0 e1 e2 e3 e4 hset hB hpk hb0
              go_roundw
              case rel => exact ⟨hB7, k + 1, by omega, by go_num, fin, hset8, hpk7⟩
              case measure => simp [intOf]; omega
            · have Hr : Tells true (Value.string pk[k].name ∈ (pk.take k).map (fun q => Value.string q.name)) := ⟨(fun _ => hmem.1 hr), (fun _ => rfl)⟩
              have fin := Lib.hid (show validP cat l = false by rw [fin0.out]; unfold namesOnce; exact range_no hlt (by unfold onceAt; rw [hr]; rfl))
              clear hr hmem
              go_wp2_with (first
                | (at_lookup; refine wpList_lookup_set rfl _ _ 122 rfl 9 4 nameKeyed Tryz.underlying122 Tryz.underlying4 (zeroBool _) mb k _ rfl (hset.below HX) (.string pk[k].name) rfl hkey _ Hr ?_)
                | go_in)
              go_ret
              exact ⟨ret_int (by rw [fin.out]; rfl), HW⟩
          · have fin := Lib.hid (show validP cat l = true by rw [fin0.out]; unfold namesOnce; exact To.all hlt hj.out)
            go_wp2
            go_ret
            exact ⟨ret_int (by rw [fin.out]; rfl), hB⟩
      · have hb' : (0 : Int) < (broken cat l).length := by omega
        have fin := Lib.hid (show validP cat l = false by unfold validP; rw [show (broken cat l).isEmpty = false by rw [← Bool.not_eq_true, broken_empty]; exact hb]; simp)
        clear hk ht hb
        go_enter Tryz.func65, Tryz.ntmps65
        go_wp2_with (first | (go_at_call 44; refine (planCheck_any cat A ca S _ hA hL).mono ?_; rintro e w1 ⟨rfl, hw1⟩; rw [Hk.out]) | (go_at_call 56; refine (aims_any cat l A B ca cb S T _ (hA.below hw1) (h.below hw1)).mono ?_; rintro e w2 ⟨rfl, hw2⟩; have hw2' := hw2.symm; clear hw2; subst hw2'; rw [Ht.out]) | (go_at_call 113; refine (planBroken_any cat l A B ca cb S T _ (hA.below hw1) (h.below hw1)).mono ?_; rintro e w3 ⟨hw3, A3, c3, rfl, -, -⟩; have HW3 := Below.trans0 hw1 hw3 hw1.size))
        go_ret
        exact ⟨ret_int (by rw [fin.out]; rfl), HW3⟩

end Go.Proofs.YtppbjmhllmaakaaGreatDoor
