/- Contract: the reference's Broken. -/
import Derived.Test.YtppbjmhllmaakaaGreatDoorC16
import Derived.Test.YtppbjmhllmaakaaGreatDoorX6
set_option linter.unusedVariables false
namespace Go.Proofs.YtppbjmhllmaakaaGreatDoor
open Go.RowKit

/-- Nothing but block x has turned; new blocks may be there. -/
theorem gb_refl (w : World) (x : Nat) : w.grownBy w (some x) := ⟨rfl, rfl, rfl, Nat.le_refl _, fun _ _ _ => rfl⟩
theorem gb_below {w w1 w2 : World} {x B : Nat} (h : w.grownBy w1 (some x)) (k : Below B w1 w2) (hB : w.heap.size ≤ B) : w.grownBy w2 (some x) :=
  ⟨k.os.trans h.os, k.tape.trans h.tape, k.output.trans h.output, Nat.le_trans h.size k.size, fun b hb hne => (k.block b (by omega)).trans (h.block b hb hne)⟩
theorem gb_row {w w1 w2 : World} {x : Nat} {row : Option Nat} (h : w.grownBy w1 (some x)) (k : w1.grownBy w2 row) (hr : ∀ b, row = some b → b = x ∨ w.heap.size ≤ b) : w.grownBy w2 (some x) :=
  ⟨k.os.trans h.os, k.tape.trans h.tape, k.output.trans h.output, Nat.le_trans h.size k.size, fun b hb hne => (k.block b (Nat.lt_of_lt_of_le hb h.size) (fun e => by
    rcases hr b e.symm with h1 | h1
    · exact hne (by rw [h1])
    · omega)).trans (h.block b hb hne)⟩
theorem Arr.gb {α : Type} [Cd α] {w w' : World} {x : Nat} {S : Nat → Prop} {A : Option Addr} {l : List α} (h : Arr w S A l) (hg : w.grownBy w' (some x)) (hS : ∀ b, S b → b ≠ x) : Arr w' S A l :=
  h.keep fun b hs hlt => ⟨hs, hg.block b hlt (fun e => hS b hs (Option.some.inj e))⟩

theorem openP_all (all : List Pkg) {i : Nat} (hi : i < all.length) : openP all i = !(all[i].clauses.all fun c => met c (if c.neg then without all i else all)) := by
  unfold openP
  rw [show all.getD i pkg0 = all[i] by simp [List.getD, hi]]
  induction all[i].clauses with
  | nil => rfl
  | cons a r ih => simp only [List.any_cons, List.all_cons, ih, Bool.not_and]
theorem all_take_succ2 {α : Type} (p : α → Bool) {l : List α} {k : Nat} (hk : k < l.length) : (l.take (k + 1)).all p = ((l.take k).all p && p l[k]) := by
  rw [← List.take_append_getElem hk, List.all_append]; simp

set_option maxHeartbeats 0 in
set_option maxRecDepth 100000 in
theorem refBroken_any (cat : List Pkg) (l : List Int) (A B : Option Addr) (ca cb : Nat) (S T : Nat → Prop) (w : World) (hA : Arr w S A cat) (h : Arr w T B l) :
    Calls Tryz.prog 106 #[.slice A cat.length ca, .slice B l.length cb] w fun e w' => Below w.heap.size w w' ∧ ∃ A' c', e = .returned (.slice A' (broken cat l).length c') ∧ Arr w' (fun _ => True) A' (broken cat l) := by
  have hl := h.len
  have hby := h.1
  have hp2 := pick_len2 (cat := cat) (l := l)
  have hAo := hA.old
  go_enter Tryz.func106, Tryz.ntmps106
  have B0 : Below w.heap.size w (w.alloc (.cells #[] 3)) := (Below.refl _ _).alloc (Nat.le_refl _) _
  have own0 : Own (w.alloc (.cells #[] 3)) w.heap.size 3 (fun _ => False) (.slice (some ⟨w.heap.size, 0, none⟩) 0 0) ([] : List Int) := Own.made _ _ _ _ (Nat.le_refl _)
  go_wp2_with (go_at_call 20; refine (refPick_any cat l A B ca cb (fun b => S b ∧ b < w.heap.size) T _ (hAo.below B0) (h.below B0)).mono ?_; rintro e w2 ⟨hw2, A2, c2, rfl, hp0, hc2⟩)
  have hp : Arr w2 (fun b => b ≠ w.heap.size) A2 (pick cat l) := hp0.mono (fun b _ h => by rcases h with ⟨⟨_, h⟩, _⟩ | h; (omega); (simp at h; omega))
  have own2 := own0.below hw2
  have B2 : Below w.heap.size w w2 := Below.trans0 B0 hw2 B0.size
  have z2 : w.heap.size < w2.heap.size := by have := hw2.size; simp at this; omega
  have hbr : Hid (broken cat l = brkTo (pick cat l) l (pick cat l).length) := Lib.hid rfl
  clear hp0 hw2 own0
  generalize hpk : pick cat l = all at *
  have hal := hp.len
  go_loopw [5, 7] (fun v i wr => w2.grownBy wr (some w.heap.size) ∧ Below w.heap.size w wr ∧ (∀ b, v.ownBlock = some b → b = w.heap.size ∨ w2.heap.size ≤ b) ∧ ∃ k : Nat, k ≤ all.length ∧ i = .int .i64 k ∧ Own wr w.heap.size 3 (fun _ => False) v (brkTo all l k)) (fun _ i _ => all.length - (intOf i).toNat)
  case atStart => exact ⟨gb_refl _ _, B2, fun b e => .inl (ownBlock_eq e), 0, Nat.zero_le _, rfl, own2⟩
  case round =>
    obtain ⟨hg, hb, hob, k, hk, rfl, hown⟩ := hrel
    obtain ⟨wo, hwo⟩ : ∃ wo : World, wo = wr := ⟨_, rfl⟩
    subst hwo
    by_cases hlt : k < all.length
    · have hopn := Lib.hid (openP_all all hlt)
      have hlk : k < l.length := by omega
      have hbl := brkTo_len all l k
      obtain ⟨bp, op, hAe, _⟩ := hp.lt (by omega)
      subst hAe
      go_wp2
      go_loopw [8, 9] (fun o j wr => Below wo.heap.size wo wr ∧ ∃ m : Nat, m ≤ all[k].clauses.length ∧ j = .int .i64 m ∧ ∃ b, o = .bool b ∧ Hid ((all[k].clauses.take m).all (fun c => met c (if c.neg then without all k else all)) = b)) (fun _ j _ => all[k].clauses.length - (intOf j).toNat)
      case atStart => exact ⟨Below.refl _ _, 0, Nat.zero_le _, rfl, true, rfl, Lib.hid (by simp)⟩
      case round =>
        obtain ⟨hb7, m, hm, rfl, bo, rfl, hjm⟩ := hrel
        have hpw : Arr wr (fun b => b ≠ w.heap.size) (some ⟨bp, op, none⟩) all := (hp.gb hg (fun _ h => h)).below hb7
        obtain ⟨b', o', B3, cb3, C3, cc3, D3, cd3, e, hb0, e0, e1, e2, e3, e4, hrep, -, -, hcl⟩ := hpw.getPkg k hlt
        cases e
        have hcll := hcl.len
        by_cases hmt : m < all[k].clauses.length
        · obtain ⟨b3, o3, N3, cn3, e, hb3, g0, g1, hrc, -⟩ := hcl.getClause m hmt
          cases e
          have hts := Lib.hid (all_take_succ2 (fun c => met c (if c.neg then without all k else all)) hmt)
          have hpf : Hid (all[k].clauses[m].neg = true → met all[k].clauses[m] (without all k) = (fun c => met c (if c.neg then without all k else all)) all[k].clauses[m]) := Lib.hid (fun e => by simp [e])
          have hpn : Hid (all[k].clauses[m].neg = false → met all[k].clauses[m] all = (fun c => met c (if c.neg then without all k else all)) all[k].clauses[m]) := Lib.hid (fun e => by simp [e])
          cases bo
          · have fin : Hid ((all[k].clauses.take (m + 1)).all (fun c => met c (if c.neg then without all k else all)) = false) := Lib.hid (by rw [hts.out, hjm.out]; rfl)
            cases hneg : all[k].clauses[m].neg
            · rw [hneg] at hrc g0
              clear hneg
              go_wp2
              go_roundw
              case rel => exact ⟨hb7.alloc hb7.size _, m + 1, by omega, by go_num, false, rfl, fin⟩
              case measure => simp [intOf]; omega
            · rw [hneg] at hrc g0
              clear hneg
              have HBa : Below wo.heap.size wo (wr.alloc (.cells #[.bool true, .slice N3 all[k].clauses[m].any.length cn3] 48)) := hb7.alloc hb7.size _
              go_wp2
              refine region_quiet (by kernel_rfl) (by kernel_rfl) ?_
              repeat (go_big_quiet_step (fail))
              refine wpQuiet_nil ?_
              intro W1 hw1
              replace hw1 := below_of_ext hw1
              go_wp2
              go_roundw
              case rel => exact ⟨Below.trans0 HBa hw1 HBa.size, m + 1, by omega, by go_num, false, rfl, fin⟩
              case measure => simp [intOf]; omega
          · cases hneg : all[k].clauses[m].neg
            · have fin : Hid ((all[k].clauses.take (m + 1)).all (fun c => met c (if c.neg then without all k else all)) = met all[k].clauses[m] all) := Lib.hid (by rw [hts.out, hjm.out, hpn.out hneg]; rfl)
              rw [hneg] at hrc g0
              clear hneg
              have hba : Below wr.heap.size wr (wr.alloc (.cells #[.bool false, .slice N3 all[k].clauses[m].any.length cn3] 48)) := (Below.refl _ _).alloc (Nat.le_refl _) _
              have HBa : Below wo.heap.size wo (wr.alloc (.cells #[.bool false, .slice N3 all[k].clauses[m].any.length cn3] 48)) := hb7.alloc hb7.size _
              go_wp2_with (go_at_call 27; refine (refMet_any all[k].clauses[m] all [_, _] _ c2 _ _ _ (hrc.below hba) (hpw.below hba)).mono ?_; rintro e w9 ⟨rfl, hw9⟩)
              have HF : Below wo.heap.size wo w9 := Below.trans0 HBa hw9 HBa.size
              clear hw9 HBa hba
              go_roundw
              case rel => exact ⟨HF, m + 1, by omega, by go_num, _, rfl, fin⟩
              case measure => simp [intOf]; omega
            · have fin : Hid ((all[k].clauses.take (m + 1)).all (fun c => met c (if c.neg then without all k else all)) = met all[k].clauses[m] (without all k)) := Lib.hid (by rw [hts.out, hjm.out, hpf.out hneg]; rfl)
              rw [hneg] at hrc g0
              clear hneg
              have hba : Below wr.heap.size wr (wr.alloc (.cells #[.bool true, .slice N3 all[k].clauses[m].any.length cn3] 48)) := (Below.refl _ _).alloc (Nat.le_refl _) _
              have HBa : Below wo.heap.size wo (wr.alloc (.cells #[.bool true, .slice N3 all[k].clauses[m].any.length cn3] 48)) := hb7.alloc hb7.size _
              have x0 : (wr.alloc (.cells #[.bool true, .slice N3 all[k].clauses[m].any.length cn3] 48)).cell? ⟨wr.heap.size, 0, none⟩ = some (.bool true) := by simp
              have x1 : (wr.alloc (.cells #[.bool true, .slice N3 all[k].clauses[m].any.length cn3] 48)).cell? ⟨wr.heap.size, 1, none⟩ = some (.slice N3 all[k].clauses[m].any.length cn3) := by simp
              go_wp2
              generalize (wr.alloc (.cells #[.bool true, .slice N3 all[k].clauses[m].any.length cn3] 48)) = wa at *
              have hI : ∀ w1, Below wa.drew.heap.size wa.drew w1 → Below wa.heap.size wa w1 := fun w1 h => ((Below.refl _ wa).drew).trans h
              have hza : wr.heap.size < wa.heap.size := World.block_lt_of_cell? wa _ x0
              go_region_held3 (fun W => W.cell? ⟨wr.heap.size, 0, none⟩ = some (.bool true) ∧ W.cell? ⟨wr.heap.size, 1, none⟩ = some (.slice N3 all[k].clauses[m].any.length cn3)) (go_keep) (first
                | (go_at_call 139; refine (without_any all k _ c2 _ _ (hpw.below (Below.drew hba)) hlt hc2).mono ?_; rintro e w8 ⟨hw8, A8, c8, rfl, hwi⟩; replace hw8 := hI w8 hw8; obtain ⟨q1, q2⟩ := bcell hw8; replace x0 := (q1 _ _ hza).trans x0; replace x1 := (q1 _ _ hza).trans x1; clear q1 q2)
                | (go_at_call 27; refine (refMet_any all[k].clauses[m] (without all k) [_, _] _ c8 _ _ _ (hrc.below (Below.trans0 hba hw8 hba.size)) hwi).mono ?_; rintro e w9 ⟨rfl, hw9⟩; have hz8 : wr.heap.size < w8.heap.size := Nat.lt_of_lt_of_le hza hw8.size; obtain ⟨q1, q2⟩ := bcell hw9; replace x0 := (q1 _ _ hz8).trans x0; replace x1 := (q1 _ _ hz8).trans x1; clear q1 q2))
              all_goals
                go_wp2
                have HF : Below wo.heap.size wo w9 := Below.trans0 HBa (Below.trans0 hw8 hw9 hw8.size) HBa.size
                clear hw9 hw8 HBa hba x0 x1
                go_roundw
                case rel => exact ⟨HF, m + 1, by omega, by go_num, _, rfl, fin⟩
                case measure => simp [intOf]; omega
        · have hall : Hid (openP all k = !bo) := Lib.hid (by rw [hopn.out, ← hjm.out, List.take_of_length_le (by omega)])
          have hg7 : w2.grownBy wr (some w.heap.size) := gb_below hg hb7 hg.size
          have HW7 : Below w.heap.size w wr := Below.trans0 hb hb7 hb.size
          cases bo
          · obtain ⟨bl, ol, e, hbl2, hs, hcc⟩ := (h.below HW7).getI k hlk
            cases e
            have hown7 := hown.below hb7
            go_wp2_with (at_builtin; refine Hold.out ?_)
            refine ⟨?_⟩
            refine wpList_own_app rfl _ _ 23 rfl w.heap.size 3 elInt (fun _ => False) u5 (brkTo all l k) ?_ (hown7.below ((Below.refl _ _).alloc (Nat.le_refl _) _)) ⟨wr.heap.size, 0, none⟩ 1 [l[k]] ?_ (Src.one 3 (show Cd.rep wr (fun b => False ∧ Value.ownBlock u5 ≠ some b) l[k] [.int .i64 l[k]] from ⟨rfl, hs⟩)) ?_ ?_ ?_ ?_
            · simp [Act.eval]
            · simp [Act.eval]
            · exact app_bound hby (by simp; omega)
            · simp; omega
            · have := HW7.size; simp; omega
            intro v2 w6 hown6 hg6 hat6
            have hb6 : Below w.heap.size w w6 := (HW7.alloc HW7.size _).grown hg6 (by have := HW7.size; simp; omega) (fun b e => (hown.block_ge _ e).1)
            have hg8 : w2.grownBy w6 (some w.heap.size) := gb_row (gb_below hg7 ((Below.refl _ wr).alloc (Nat.le_refl _) _) hg7.size) hg6 hob
            have hob6 : ∀ b, v2.ownBlock = some b → b = w.heap.size ∨ w2.heap.size ≤ b := fun b e => by
              rcases hat6 with h6 | h6
              · rw [h6] at e; exact hob b e
              · rw [h6] at e; have e' := Option.some.inj e; have := hg7.size; simp at e'; exact .inr (by omega)
            clear hg6 hat6 hown hown7
            go_wp2
            go_roundw
            case rel => exact ⟨hg8, hb6, hob6, k + 1, by omega, by go_num, by rw [brkTo_yes hlk hall.out]; exact hown6⟩
            case measure => simp [intOf]; omega
          · go_wp2
            go_roundw
            case rel => exact ⟨hg7, HW7, hob, k + 1, by omega, by go_num, by rw [brkTo_no hall.out]; exact hown.below hb7⟩
            case measure => simp [intOf]; omega
    · have hke : k = all.length := by omega
      subst hke
      have hbl := brkTo_len all l all.length
      obtain ⟨A8, c8, e8, hr8⟩ := hown.rep (S' := fun _ => True) (fun b _ h => h.elim) (fun b h _ => trivial) (mul_bound hby (by omega)) (by omega)
      subst e8
      go_wp2
      go_ret
      exact ⟨hb, A8, c8, by rw [hbr.out]; rfl, by rw [hbr.out]; exact hr8⟩

end Go.Proofs.YtppbjmhllmaakaaGreatDoor
