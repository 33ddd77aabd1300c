/- Contract: PlanWhole. -/
import Derived.Test.YteoafnkcplealaaDoorC25
import Derived.Test.YteoafnkcplealaaDoorC23
set_option linter.unusedVariables false
namespace Go.Proofs.YteoafnkcplealaaDoor
open Go.RowKit

theorem tgtFrom_of {n : Nat} : ∀ {L : List Nat} {last : Int}, L.Pairwise (· < ·) → (∀ x ∈ L, last < (x : Int) ∧ x < n) → tgtFrom n last (L.map fun (x : Nat) => (x : Int)) = true
  | [], _, _, _ => rfl
  | a :: r, last, h, hb => by
    have h' := List.pairwise_cons.1 h
    have ha := hb a (List.mem_cons_self ..)
    simp only [List.map_cons, tgtFrom, Bool.and_eq_true, decide_eq_true_eq]
    refine ⟨⟨ha.1, by omega⟩, tgtFrom_of h'.2 fun x hx => ?_⟩
    have := h'.1 x hx
    have := hb x (List.mem_cons_of_mem _ hx)
    omega
theorem tgt_some (l : List Int) (n : Nat) : tgt n (someTo l n) = true := by
  unfold tgt someTo
  refine tgtFrom_of (List.Pairwise.filter _ List.pairwise_lt_range) fun x hx => ?_
  have := List.mem_range.1 (List.mem_filter.1 hx).1
  omega
theorem pick_some (cat : List Pkg) (l : List Int) : (pick cat (someTo l cat.length)).length = (someTo l cat.length).length := by
  rw [pick_yes (tgt_some _ _), List.length_map]
theorem unmet_broken {cat : List Pkg} {t : List Int} {i : Nat} (hi : i < (pick cat t).length) {m : Nat} (hm : m < (pick cat t)[i].clauses.length) (hn : (pick cat t)[i].clauses[m].neg = false) (hu : met (pick cat t)[i].clauses[m] (pick cat t) = false) : ¬ (broken cat t).length = 0 := by
  unfold broken brkTo
  rw [List.length_map]
  have : i ∈ (List.range (pick cat t).length).filter (openP (pick cat t)) := by
    rw [List.mem_filter]
    refine ⟨List.mem_range.2 hi, ?_⟩
    unfold openP
    rw [List.any_eq_true]
    refine ⟨(pick cat t)[i].clauses[m], ?_, by simp [hn, hu]⟩
    simp [List.getD, hi]
  have := List.length_pos_of_mem this
  omega
theorem Arr.belowB {α : Type} [Cd α] {B : Nat} {w w' : World} {S : Nat → Prop} {A : Option Addr} {l : List α} (h : Arr w S A l) (hb : Below B w w') (hS : ∀ b, S b → b < B) : Arr w' S A l :=
  h.keep fun b hs _ => ⟨hs, hb.block b (hS b hs)⟩

set_option maxHeartbeats 0 in
set_option maxRecDepth 100000 in
theorem planWhole_any (cat : List Pkg) (l : List Int) (A B : Option Addr) (ca cb : Nat) (S T : Nat → Prop) (w : World) (hA : Arr w S A cat) (h : Arr w T B l) (hL : Laid w) :
    Calls Tryd.prog 4 #[.slice A cat.length ca, .slice B l.length cb] w fun e w' => e = .returned (.bool true) ∧ Below w.heap.size w w' := by
  have hby : cat.length * 104 ≤ reach := hA.1
  have hn8 : cat.length * 8 ≤ reach := by omega
  have hbig : cat.length ≤ 1353245656771 := by unfold reach at hby; omega
  have hpt := Lib.hid (pick_some cat l)
  have htg := Lib.hid (tgt_some l cat.length)
  have htl := someTo_len l cat.length
  cases hk : planOk cat
  · have Hk := Lib.hid hk
    have hk0 := Lib.hid hk
    clear hk
    go_enter Tryd.func4, Tryd.ntmps4
    go_wp2_with (first
      | (go_at_call 24; refine (works19_any _ hL).mono ?_; rintro e w1 ⟨rfl, hw1⟩; have HW := hw1)
      | (go_at_call 25; refine (some_any l cat.length B cb T _ (h.below HW) hn8).mono ?_; rintro e w2 ⟨hw2, A2, c2, rfl, ht0, -⟩; have ht2 : Arr w2 (fun _ => True) A2 (someTo l cat.length) := ht0.mono (fun _ _ _ => trivial); have HW := Below.trans0 HW hw2 HW.size)
      | (go_at_call 26; refine (planPick_any cat (someTo l cat.length) A A2 ca c2 S _ _ (hA.below HW) ht2).mono ?_; rintro e w3 ⟨hw3, A3, c3, rfl, hp0, -⟩; have hp3 : Arr w3 (fun _ => True) A3 (pick cat (someTo l cat.length)) := hp0.mono (fun _ _ _ => trivial); have ht3 := ht2.below hw3; have HW := Below.trans0 HW hw3 HW.size)
      | (go_at_call 16; refine (planCheck_any cat A ca S _ (hA.below HW) (hL.below HW)).mono ?_; rintro e w5 ⟨rfl, hw4⟩; rw [Hk.out]; have ht5 := ht3.below hw4; have hp5 := hp3.below hw4; have HW := Below.trans0 HW hw4 HW.size))
    clear ht0 hp0
    have hp6 := hp5.old
    have hlen : (pick cat (someTo l cat.length)).length ≤ cat.length := by rw [hpt.out]; exact htl
    have hunm : Hid (∀ i (hi : i < (pick cat (someTo l cat.length)).length) m (hm : m < (pick cat (someTo l cat.length))[i].clauses.length), (pick cat (someTo l cat.length))[i].clauses[m].neg = false → met (pick cat (someTo l cat.length))[i].clauses[m] (pick cat (someTo l cat.length)) = false → ¬ (broken cat (someTo l cat.length)).length = 0) := Lib.hid (fun i hi m hm => unmet_broken hi hm)
    have hno := Lib.hid (namesOnce_iff (pick cat (someTo l cat.length)))
    generalize hpk : pick cat (someTo l cat.length) = pk at *
    go_loopw [8, 9] (fun o i wr => Below w5.heap.size w5 wr ∧ ∃ k : Nat, k ≤ pk.length ∧ i = .int .i64 k ∧ Own wr w5.heap.size 9 (fun _ => False) o ((pk.take k).map (fun p => p.name))) (fun _ i _ => pk.length - (intOf i).toNat)
    case atStart => exact ⟨by (repeat (first | exact Below.refl _ _ | assumption | (refine Below.setCell ?_ (by first | omega | (simp; done) | (simp; omega) | exact Below.size (by assumption)) _) | (refine Below.alloc ?_ (by first | omega | (simp; done) | (simp; omega) | exact Below.size (by assumption)) _) | refine Below.drew ?_ | refine Below.trans0 ?_ (by assumption))), 0, Nat.zero_le _, rfl, Own.made _ _ _ _ (Nat.le_refl _)⟩
    case round =>
      obtain ⟨hb, k, hk, rfl, hown⟩ := hrel
      by_cases hlt : k < pk.length
      · obtain ⟨b, o, B2, cb2, C2, cc2, D2, cd2, rfl, hb0, e0, e1, e2, e3, e4, hrep, -, -, -⟩ := (hp6.belowB hb (fun _ h => h.2)).getPkg k hlt
        obtain ⟨-, -, -, -, -, -, -, hsn, -, -, -, -⟩ := hrep
        obtain ⟨wo, hwo⟩ : ∃ wo : World, wo = wr := ⟨_, rfl⟩
        subst hwo
        have hlm : ((pk.take k).map (fun p => p.name)).length = k := by simp; omega
        have Hlm := Lib.hid hlm
        clear hlm
        go_wp2_with (at_builtin; refine Hold.out ?_)
        refine ⟨?_⟩
        refine wpList_own_app rfl _ _ 34 rfl w5.heap.size 9 elStr (fun _ => False) u8 ((pk.take k).map (fun p => p.name)) ?_ (hown.below ((Below.refl _ _).alloc (Nat.le_refl _) _)) ⟨wo.heap.size, 0, none⟩ 1 [pk[k].name] ?_ (Src.one 9 (show Cd.rep wo (fun b => False ∧ Value.ownBlock u8 ≠ some b) pk[k].name [.string pk[k].name] from ⟨rfl, hsn⟩)) ?_ ?_ ?_ ?_
        · simp [Act.eval]
        · simp [Act.eval]
        · rw [Hlm.out]; exact app_bound (n := cat.length) (by unfold reach at hby ⊢; change _ * 16 ≤ _; omega) (by simp; omega)
        · rw [Hlm.out]; simp; omega
        · have := hb.size; simp; omega
        intro v2 w6 hown6 hg6 hat6
        have hb6 : Below w5.heap.size w5 w6 := (hb.alloc hb.size _).grown hg6 (by have := hb.size; simp; omega) (fun b e => (hown.block_ge _ e).1)
        have hown7 : Own w6 w5.heap.size 9 (fun _ => False) v2 ((pk.take (k + 1)).map (fun p => p.name)) := by rw [take_map_succ _ hlt]; exact hown6
        clear hg6 hat6 hown hown6 e0 e1 e2 e3 e4 hb0 hb hsn
        go_wp2
        go_loopw [10] (fun j w7 => Below w6.heap.size w6 w7 ∧ ∃ m : Nat, m ≤ pk[k].clauses.length ∧ j = .int .i64 m) (fun j _ => pk[k].clauses.length - (intOf j).toNat)
        case atStart => exact ⟨Below.refl _ _, 0, Nat.zero_le _, rfl⟩
        case round =>
          obtain ⟨hb7, m, hm, rfl⟩ := hrel
          have HB7 : Below w5.heap.size w5 wr := Below.trans0 hb6 hb7 hb6.size
          obtain ⟨b', o', B3, cb3, C3, cc3, D3, cd3, e, hb0, e0, e1, e2, e3, e4, hrep, -, -, hcl⟩ := (hp6.belowB HB7 (fun _ h => h.2)).getPkg k hlt
          cases e
          have hcll := hcl.len
          by_cases hmt : m < pk[k].clauses.length
          · obtain ⟨b3, o3, N3, cn3, e, hb3, g0, g1, hrc, -⟩ := hcl.getClause m hmt
            cases e
            have HW7 : Below w.heap.size w wr := Below.trans0 HW HB7 HW.size
            cases hneg : pk[k].clauses[m].neg
            · have hneg' := hneg
              rw [hneg] at hrc g0
              have x0 : (wr.alloc (.cells #[.bool false, .slice N3 pk[k].clauses[m].any.length cn3] 44)).cell? ⟨wr.heap.size, 0, none⟩ = some (.bool false) := by simp
              have hba : Below wr.heap.size wr (wr.alloc (.cells #[.bool false, .slice N3 pk[k].clauses[m].any.length cn3] 44)) := (Below.refl _ _).alloc (Nat.le_refl _) _
              have HBa : Below w5.heap.size w5 (wr.alloc (.cells #[.bool false, .slice N3 pk[k].clauses[m].any.length cn3] 44)) := HB7.alloc HB7.size _
              cases hmet : met pk[k].clauses[m] pk
              · have Hm := Lib.hid hmet
                have hbr := hunm.out k hlt m hmt hneg' hmet
                have hbr1 : ¬ ((broken cat (someTo l cat.length)).length : Int) = 0 := by omega
                have hbr2 : (((broken cat (someTo l cat.length)).length : Int) == 0) = false := beq_eq_false_iff_ne.2 hbr1
                clear hmet hneg hneg'
                go_wp2_with (first
                  | (go_at_call 27; refine (met_any pk[k].clauses[m] pk [_, _] _ c3 _ _ _ (hrc.below hba) ((hp6.belowB HBa (fun _ h => h.2)))).mono ?_; rintro e w8 ⟨rfl, hw8⟩; rw [Hm.out]; have HB8 := Below.trans0 HBa hw8 HBa.size)
                  | (go_at_call 21; refine (planBroken_any cat (someTo l cat.length) A A2 ca c2 S _ _ (hA.below (Below.trans0 HW HB8 HW.size)) (ht5.below HB8)).mono ?_; rintro e w9 ⟨hw9, A9, c9, rfl, -, -⟩; have HB9 := Below.trans0 HB8 hw9 HB8.size))
                have HF : Below w6.heap.size w6 w9 := Below.trans0 (Below.trans0 hb7 hba hb7.size) (Below.trans0 hw8 hw9 hw8.size) (by have := hb7.size; simp; omega)
                clear hw8 hw9 HB8 HB9 HBa hba x0 hbr hbr1 hbr2
                go_roundw
                case rel => exact ⟨HF, m + 1, by omega, by go_num⟩
                case measure => simp [intOf]; omega
              · have Hm := Lib.hid hmet
                clear hmet hneg hneg'
                go_wp2_with (go_at_call 27; refine (met_any pk[k].clauses[m] pk [_, _] _ c3 _ _ _ (hrc.below hba) ((hp6.belowB HBa (fun _ h => h.2)))).mono ?_; rintro e w8 ⟨rfl, hw8⟩; rw [Hm.out])
                have HF : Below w6.heap.size w6 w8 := Below.trans0 (Below.trans0 hb7 hba hb7.size) hw8 (by have := hb7.size; simp; omega)
                clear hw8 HBa hba x0
                go_roundw
                case rel => exact ⟨HF, m + 1, by omega, by go_num⟩
                case measure => simp [intOf]; omega
            · rw [hneg] at hrc g0
              clear hneg
              go_wp2
              go_roundw
              case rel => exact ⟨hb7.alloc hb7.size _, m + 1, by omega, by go_num⟩
              case measure => simp [intOf]; omega
          · go_wp2
            go_roundw
            case rel => exact ⟨HB7, k + 1, by omega, by go_num, hown7.below hb7⟩
            case measure => simp [intOf]; omega
      · have hke : k = pk.length := by omega
        subst hke
        rw [List.take_of_length_le (Nat.le_refl _)] at hown
        have HW7 : Below w.heap.size w wr := Below.trans0 HW hb HW.size
        have Hv : Hid (validP cat (someTo l cat.length) = false) := Lib.hid (by unfold validP; rw [hk0.out]; simp)
        go_wp2_with (go_at_call 18; refine (planValid_any cat (someTo l cat.length) A A2 ca c2 S _ _ (hA.below HW7) (ht5.below hb) (hL.below HW7)).mono ?_; rintro e w8 ⟨rfl, hw8⟩; rw [Hv.out])
        go_ret
        exact ⟨by simp [hpt.out], Below.trans0 HW7 hw8 HW7.size⟩
  · have Hk := Lib.hid hk
    have hk0 := hk
    clear hk
    by_cases hb : (broken cat (someTo l cat.length)).length = 0
    · have Hb := Lib.hid hb
      have hb0 := broken_empty.2 hb
      clear hb
      go_enter Tryd.func4, Tryd.ntmps4
      go_wp2_with (first
        | (go_at_call 24; refine (works19_any _ hL).mono ?_; rintro e w1 ⟨rfl, hw1⟩; have HW := hw1)
        | (go_at_call 25; refine (some_any l cat.length B cb T _ (h.below HW) hn8).mono ?_; rintro e w2 ⟨hw2, A2, c2, rfl, ht0, -⟩; have ht2 : Arr w2 (fun _ => True) A2 (someTo l cat.length) := ht0.mono (fun _ _ _ => trivial); have HW := Below.trans0 HW hw2 HW.size)
        | (go_at_call 26; refine (planPick_any cat (someTo l cat.length) A A2 ca c2 S _ _ (hA.below HW) ht2).mono ?_; rintro e w3 ⟨hw3, A3, c3, rfl, hp0, -⟩; have hp3 : Arr w3 (fun _ => True) A3 (pick cat (someTo l cat.length)) := hp0.mono (fun _ _ _ => trivial); have ht3 := ht2.below hw3; have HW := Below.trans0 HW hw3 HW.size)
        | (go_at_call 16; refine (planCheck_any cat A ca S _ (hA.below HW) (hL.below HW)).mono ?_; rintro e w4 ⟨rfl, hw4⟩; rw [Hk.out]; have ht5 := ht3.below hw4; have hp5 := hp3.below hw4; have HW := Below.trans0 HW hw4 HW.size)
        | (go_at_call 21; refine (planBroken_any cat (someTo l cat.length) A A2 ca c2 S _ _ (hA.below HW) ht5).mono ?_; rintro e w5 ⟨hw5, A5, c5, rfl, -, -⟩; rw [Hb.out]; have ht5 := ht5.below hw5; have hp5 := hp5.below hw5; have HW := Below.trans0 HW hw5 HW.size))
      clear ht0 hp0
      have hp6 := hp5.old
      have hlen : (pick cat (someTo l cat.length)).length ≤ cat.length := by rw [hpt.out]; exact htl
      have hunm : Hid (∀ i (hi : i < (pick cat (someTo l cat.length)).length) m (hm : m < (pick cat (someTo l cat.length))[i].clauses.length), (pick cat (someTo l cat.length))[i].clauses[m].neg = false → met (pick cat (someTo l cat.length))[i].clauses[m] (pick cat (someTo l cat.length)) = false → ¬ (broken cat (someTo l cat.length)).length = 0) := Lib.hid (fun i hi m hm => unmet_broken hi hm)
      have hno := Lib.hid (namesOnce_iff (pick cat (someTo l cat.length)))
      generalize hpk : pick cat (someTo l cat.length) = pk at *
      go_loopw [8, 9] (fun o i wr => Below w5.heap.size w5 wr ∧ ∃ k : Nat, k ≤ pk.length ∧ i = .int .i64 k ∧ Own wr w5.heap.size 9 (fun _ => False) o ((pk.take k).map (fun p => p.name))) (fun _ i _ => pk.length - (intOf i).toNat)
      case atStart => exact ⟨by (repeat (first | exact Below.refl _ _ | assumption | (refine Below.setCell ?_ (by first | omega | (simp; done) | (simp; omega) | exact Below.size (by assumption)) _) | (refine Below.alloc ?_ (by first | omega | (simp; done) | (simp; omega) | exact Below.size (by assumption)) _) | refine Below.drew ?_ | refine Below.trans0 ?_ (by assumption))), 0, Nat.zero_le _, rfl, Own.made _ _ _ _ (Nat.le_refl _)⟩
      case round =>
        obtain ⟨hb, k, hk, rfl, hown⟩ := hrel
        by_cases hlt : k < pk.length
        · obtain ⟨b, o, B2, cb2, C2, cc2, D2, cd2, rfl, hb0, e0, e1, e2, e3, e4, hrep, -, -, -⟩ := (hp6.belowB hb (fun _ h => h.2)).getPkg k hlt
          obtain ⟨-, -, -, -, -, -, -, hsn, -, -, -, -⟩ := hrep
          obtain ⟨wo, hwo⟩ : ∃ wo : World, wo = wr := ⟨_, rfl⟩
          subst hwo
          have hlm : ((pk.take k).map (fun p => p.name)).length = k := by simp; omega
          have Hlm := Lib.hid hlm
          clear hlm
          go_wp2_with (at_builtin; refine Hold.out ?_)
          refine ⟨?_⟩
          refine wpList_own_app rfl _ _ 34 rfl w5.heap.size 9 elStr (fun _ => False) u8 ((pk.take k).map (fun p => p.name)) ?_ (hown.below ((Below.refl _ _).alloc (Nat.le_refl _) _)) ⟨wo.heap.size, 0, none⟩ 1 [pk[k].name] ?_ (Src.one 9 (show Cd.rep wo (fun b => False ∧ Value.ownBlock u8 ≠ some b) pk[k].name [.string pk[k].name] from ⟨rfl, hsn⟩)) ?_ ?_ ?_ ?_
          · simp [Act.eval]
          · simp [Act.eval]
          · rw [Hlm.out]; exact app_bound (n := cat.length) (by unfold reach at hby ⊢; change _ * 16 ≤ _; omega) (by simp; omega)
          · rw [Hlm.out]; simp; omega
          · have := hb.size; simp; omega
          intro v2 w6 hown6 hg6 hat6
          have hb6 : Below w5.heap.size w5 w6 := (hb.alloc hb.size _).grown hg6 (by have := hb.size; simp; omega) (fun b e => (hown.block_ge _ e).1)
          have hown7 : Own w6 w5.heap.size 9 (fun _ => False) v2 ((pk.take (k + 1)).map (fun p => p.name)) := by rw [take_map_succ _ hlt]; exact hown6
          clear hg6 hat6 hown hown6 e0 e1 e2 e3 e4 hb0 hb hsn
          go_wp2
          go_loopw [10] (fun j w7 => Below w6.heap.size w6 w7 ∧ ∃ m : Nat, m ≤ pk[k].clauses.length ∧ j = .int .i64 m) (fun j _ => pk[k].clauses.length - (intOf j).toNat)
          case atStart => exact ⟨Below.refl _ _, 0, Nat.zero_le _, rfl⟩
          case round =>
            obtain ⟨hb7, m, hm, rfl⟩ := hrel
            have HB7 : Below w5.heap.size w5 wr := Below.trans0 hb6 hb7 hb6.size
            obtain ⟨b', o', B3, cb3, C3, cc3, D3, cd3, e, hb0, e0, e1, e2, e3, e4, hrep, -, -, hcl⟩ := (hp6.belowB HB7 (fun _ h => h.2)).getPkg k hlt
            cases e
            have hcll := hcl.len
            by_cases hmt : m < pk[k].clauses.length
            · obtain ⟨b3, o3, N3, cn3, e, hb3, g0, g1, hrc, -⟩ := hcl.getClause m hmt
              cases e
              have HW7 : Below w.heap.size w wr := Below.trans0 HW HB7 HW.size
              cases hneg : pk[k].clauses[m].neg
              · have hneg' := hneg
                rw [hneg] at hrc g0
                have x0 : (wr.alloc (.cells #[.bool false, .slice N3 pk[k].clauses[m].any.length cn3] 44)).cell? ⟨wr.heap.size, 0, none⟩ = some (.bool false) := by simp
                have hba : Below wr.heap.size wr (wr.alloc (.cells #[.bool false, .slice N3 pk[k].clauses[m].any.length cn3] 44)) := (Below.refl _ _).alloc (Nat.le_refl _) _
                have HBa : Below w5.heap.size w5 (wr.alloc (.cells #[.bool false, .slice N3 pk[k].clauses[m].any.length cn3] 44)) := HB7.alloc HB7.size _
                cases hmet : met pk[k].clauses[m] pk
                · have Hm := Lib.hid hmet
                  have hbr := hunm.out k hlt m hmt hneg' hmet
                  exact absurd Hb.out hbr
                · have Hm := Lib.hid hmet
                  clear hmet hneg hneg'
                  go_wp2_with (go_at_call 27; refine (met_any pk[k].clauses[m] pk [_, _] _ c3 _ _ _ (hrc.below hba) ((hp6.belowB HBa (fun _ h => h.2)))).mono ?_; rintro e w8 ⟨rfl, hw8⟩; rw [Hm.out])
                  have HF : Below w6.heap.size w6 w8 := Below.trans0 (Below.trans0 hb7 hba hb7.size) hw8 (by have := hb7.size; simp; omega)
                  clear hw8 HBa hba x0
                  go_roundw
                  case rel => exact ⟨HF, m + 1, by omega, by go_num⟩
                  case measure => simp [intOf]; omega
              · rw [hneg] at hrc g0
                clear hneg
                go_wp2
                go_roundw
                case rel => exact ⟨hb7.alloc hb7.size _, m + 1, by omega, by go_num⟩
                case measure => simp [intOf]; omega
            · go_wp2
              go_roundw
              case rel => exact ⟨HB7, k + 1, by omega, by go_num, hown7.below hb7⟩
              case measure => simp [intOf]; omega
        · have hke : k = pk.length := by omega
          subst hke
          rw [List.take_of_length_le (Nat.le_refl _)] at hown
          have HW7 : Below w.heap.size w wr := Below.trans0 HW hb HW.size
          obtain ⟨A8, c8, e8, hr8, -⟩ := hown.rep2 (S' := fun b => w5.heap.size ≤ b) (fun b _ h => h.elim) (fun b h _ => h) (by rw [List.length_map]; unfold reach at hby ⊢; change _ * 16 ≤ _; omega) (by rw [List.length_map]; omega)
          subst e8
          have Hv : Hid (validP cat (someTo l cat.length) = namesOnce pk) := Lib.hid (by unfold validP; rw [hpk, hk0, htg.out, hb0]; rfl)
          have hsn := Lib.hid (sortT_nodup (pk.map fun p => p.name))
          cases ho : namesOnce pk
          · have Hv' : Hid (validP cat (someTo l cat.length) = false) := Lib.hid (Hv.out.trans ho)
            have hne : ¬ (sortT (pk.map fun p => p.name) (pk.map fun p => p.name).length).length = (pk.map fun p => p.name).length := fun e => by
              have := hno.out.2 (hsn.out.1 e)
              rw [ho] at this; cases this
            have hne1 : ¬ ((sortT (pk.map fun p => p.name) (pk.map fun p => p.name).length).length : Int) = (pk.map fun p => p.name).length := by omega
            clear ho
            have hne2 : (((sortT (pk.map fun p => p.name) (pk.map fun p => p.name).length).length : Int) == (pk.map fun p => p.name).length) = false := beq_eq_false_iff_ne.2 hne1
            generalize hnm : (pk.map fun p => p.name) = nm at *
            go_wp2_with (first
              | (go_at_call 28; refine (sorted_any nm A8 c8 _ _ hr8).mono ?_; rintro e w8 ⟨hw8, A9, c9, rfl, -, -⟩; have HW8 := Below.trans0 HW7 hw8 HW7.size)
              | (go_at_call 18; refine (planValid_any cat (someTo l cat.length) A A2 ca c2 S _ _ (hA.below HW8) (ht5.below (Below.trans0 hb hw8 hb.size)) (hL.below HW8)).mono ?_; rintro e w10 ⟨rfl, hw10⟩; rw [Hv'.out]; have HW10 := Below.trans0 HW8 hw10 HW8.size))
            go_ret
            exact ⟨by simp [hpt.out], HW10⟩
          · have Hv' : Hid (validP cat (someTo l cat.length) = true) := Lib.hid (Hv.out.trans ho)
            have hne : (sortT (pk.map fun p => p.name) (pk.map fun p => p.name).length).length = (pk.map fun p => p.name).length := hsn.out.2 (hno.out.1 ho)
            have hne1 : ((sortT (pk.map fun p => p.name) (pk.map fun p => p.name).length).length : Int) = (pk.map fun p => p.name).length := by omega
            clear ho
            have hne2 : (((sortT (pk.map fun p => p.name) (pk.map fun p => p.name).length).length : Int) == (pk.map fun p => p.name).length) = true := beq_iff_eq.2 hne1
            clear hne hne1
            generalize hnm : (pk.map fun p => p.name) = nm at *
            go_wp2_with (first
              | (go_at_call 28; refine (sorted_any nm A8 c8 _ _ hr8).mono ?_; rintro e w8 ⟨hw8, A9, c9, rfl, -, -⟩; have HW8 := Below.trans0 HW7 hw8 HW7.size)
              | (go_at_call 18; refine (planValid_any cat (someTo l cat.length) A A2 ca c2 S _ _ (hA.below HW8) (ht5.below (Below.trans0 hb hw8 hb.size)) (hL.below HW8)).mono ?_; rintro e w10 ⟨rfl, hw10⟩; rw [Hv'.out]; have HW10 := Below.trans0 HW8 hw10 HW8.size))
            go_ret
            exact ⟨by simp [hpt.out], HW10⟩
    · have hb1 : ¬ ((broken cat (someTo l cat.length)).length : Int) = 0 := by omega
      have hb2 : (((broken cat (someTo l cat.length)).length : Int) == 0) = false := beq_eq_false_iff_ne.2 hb1
      have hb0 : Hid ((broken cat (someTo l cat.length)).isEmpty = false) := Lib.hid (by rw [← Bool.not_eq_true, broken_empty]; exact hb)
      clear hb
      go_enter Tryd.func4, Tryd.ntmps4
      go_wp2_with (first
        | (go_at_call 24; refine (works19_any _ hL).mono ?_; rintro e w1 ⟨rfl, hw1⟩; have HW := hw1)
        | (go_at_call 25; refine (some_any l cat.length B cb T _ (h.below HW) hn8).mono ?_; rintro e w2 ⟨hw2, A2, c2, rfl, ht0, -⟩; have ht2 : Arr w2 (fun _ => True) A2 (someTo l cat.length) := ht0.mono (fun _ _ _ => trivial); have HW := Below.trans0 HW hw2 HW.size)
        | (go_at_call 26; refine (planPick_any cat (someTo l cat.length) A A2 ca c2 S _ _ (hA.below HW) ht2).mono ?_; rintro e w3 ⟨hw3, A3, c3, rfl, hp0, -⟩; have hp3 : Arr w3 (fun _ => True) A3 (pick cat (someTo l cat.length)) := hp0.mono (fun _ _ _ => trivial); have ht3 := ht2.below hw3; have HW := Below.trans0 HW hw3 HW.size)
        | (go_at_call 16; refine (planCheck_any cat A ca S _ (hA.below HW) (hL.below HW)).mono ?_; rintro e w4 ⟨rfl, hw4⟩; rw [Hk.out]; have ht5 := ht3.below hw4; have hp5 := hp3.below hw4; have HW := Below.trans0 HW hw4 HW.size)
        | (go_at_call 21; refine (planBroken_any cat (someTo l cat.length) A A2 ca c2 S _ _ (hA.below HW) ht5).mono ?_; rintro e w5 ⟨hw5, A5, c5, rfl, -, -⟩; have ht5 := ht5.below hw5; have hp5 := hp5.below hw5; have HW := Below.trans0 HW hw5 HW.size))
      clear ht0 hp0
      have hp6 := hp5.old
      have hlen : (pick cat (someTo l cat.length)).length ≤ cat.length := by rw [hpt.out]; exact htl
      have hunm : Hid (∀ i (hi : i < (pick cat (someTo l cat.length)).length) m (hm : m < (pick cat (someTo l cat.length))[i].clauses.length), (pick cat (someTo l cat.length))[i].clauses[m].neg = false → met (pick cat (someTo l cat.length))[i].clauses[m] (pick cat (someTo l cat.length)) = false → ¬ (broken cat (someTo l cat.length)).length = 0) := Lib.hid (fun i hi m hm => unmet_broken hi hm)
      have hno := Lib.hid (namesOnce_iff (pick cat (someTo l cat.length)))
      generalize hpk : pick cat (someTo l cat.length) = pk at *
      go_loopw [8, 9] (fun o i wr => Below w5.heap.size w5 wr ∧ ∃ k : Nat, k ≤ pk.length ∧ i = .int .i64 k ∧ Own wr w5.heap.size 9 (fun _ => False) o ((pk.take k).map (fun p => p.name))) (fun _ i _ => pk.length - (intOf i).toNat)
      case atStart => exact ⟨by (repeat (first | exact Below.refl _ _ | assumption | (refine Below.setCell ?_ (by first | omega | (simp; done) | (simp; omega) | exact Below.size (by assumption)) _) | (refine Below.alloc ?_ (by first | omega | (simp; done) | (simp; omega) | exact Below.size (by assumption)) _) | refine Below.drew ?_ | refine Below.trans0 ?_ (by assumption))), 0, Nat.zero_le _, rfl, Own.made _ _ _ _ (Nat.le_refl _)⟩
      case round =>
        obtain ⟨hb, k, hk, rfl, hown⟩ := hrel
        by_cases hlt : k < pk.length
        · obtain ⟨b, o, B2, cb2, C2, cc2, D2, cd2, rfl, hb0, e0, e1, e2, e3, e4, hrep, -, -, -⟩ := (hp6.belowB hb (fun _ h => h.2)).getPkg k hlt
          obtain ⟨-, -, -, -, -, -, -, hsn, -, -, -, -⟩ := hrep
          obtain ⟨wo, hwo⟩ : ∃ wo : World, wo = wr := ⟨_, rfl⟩
          subst hwo
          have hlm : ((pk.take k).map (fun p => p.name)).length = k := by simp; omega
          have Hlm := Lib.hid hlm
          clear hlm
          go_wp2_with (at_builtin; refine Hold.out ?_)
          refine ⟨?_⟩
          refine wpList_own_app rfl _ _ 34 rfl w5.heap.size 9 elStr (fun _ => False) u8 ((pk.take k).map (fun p => p.name)) ?_ (hown.below ((Below.refl _ _).alloc (Nat.le_refl _) _)) ⟨wo.heap.size, 0, none⟩ 1 [pk[k].name] ?_ (Src.one 9 (show Cd.rep wo (fun b => False ∧ Value.ownBlock u8 ≠ some b) pk[k].name [.string pk[k].name] from ⟨rfl, hsn⟩)) ?_ ?_ ?_ ?_
          · simp [Act.eval]
          · simp [Act.eval]
          · rw [Hlm.out]; exact app_bound (n := cat.length) (by unfold reach at hby ⊢; change _ * 16 ≤ _; omega) (by simp; omega)
          · rw [Hlm.out]; simp; omega
          · have := hb.size; simp; omega
          intro v2 w6 hown6 hg6 hat6
          have hb6 : Below w5.heap.size w5 w6 := (hb.alloc hb.size _).grown hg6 (by have := hb.size; simp; omega) (fun b e => (hown.block_ge _ e).1)
          have hown7 : Own w6 w5.heap.size 9 (fun _ => False) v2 ((pk.take (k + 1)).map (fun p => p.name)) := by rw [take_map_succ _ hlt]; exact hown6
          clear hg6 hat6 hown hown6 e0 e1 e2 e3 e4 hb0 hb hsn
          go_wp2
          go_loopw [10] (fun j w7 => Below w6.heap.size w6 w7 ∧ ∃ m : Nat, m ≤ pk[k].clauses.length ∧ j = .int .i64 m) (fun j _ => pk[k].clauses.length - (intOf j).toNat)
          case atStart => exact ⟨Below.refl _ _, 0, Nat.zero_le _, rfl⟩
          case round =>
            obtain ⟨hb7, m, hm, rfl⟩ := hrel
            have HB7 : Below w5.heap.size w5 wr := Below.trans0 hb6 hb7 hb6.size
            obtain ⟨b', o', B3, cb3, C3, cc3, D3, cd3, e, hb0, e0, e1, e2, e3, e4, hrep, -, -, hcl⟩ := (hp6.belowB HB7 (fun _ h => h.2)).getPkg k hlt
            cases e
            have hcll := hcl.len
            by_cases hmt : m < pk[k].clauses.length
            · obtain ⟨b3, o3, N3, cn3, e, hb3, g0, g1, hrc, -⟩ := hcl.getClause m hmt
              cases e
              have HW7 : Below w.heap.size w wr := Below.trans0 HW HB7 HW.size
              cases hneg : pk[k].clauses[m].neg
              · have hneg' := hneg
                rw [hneg] at hrc g0
                have x0 : (wr.alloc (.cells #[.bool false, .slice N3 pk[k].clauses[m].any.length cn3] 44)).cell? ⟨wr.heap.size, 0, none⟩ = some (.bool false) := by simp
                have hba : Below wr.heap.size wr (wr.alloc (.cells #[.bool false, .slice N3 pk[k].clauses[m].any.length cn3] 44)) := (Below.refl _ _).alloc (Nat.le_refl _) _
                have HBa : Below w5.heap.size w5 (wr.alloc (.cells #[.bool false, .slice N3 pk[k].clauses[m].any.length cn3] 44)) := HB7.alloc HB7.size _
                cases hmet : met pk[k].clauses[m] pk
                · have Hm := Lib.hid hmet
                  have hbr := hunm.out k hlt m hmt hneg' hmet
                  have hbr1 : ¬ ((broken cat (someTo l cat.length)).length : Int) = 0 := by omega
                  have hbr2 : (((broken cat (someTo l cat.length)).length : Int) == 0) = false := beq_eq_false_iff_ne.2 hbr1
                  clear hmet hneg hneg'
                  go_wp2_with (first
                    | (go_at_call 27; refine (met_any pk[k].clauses[m] pk [_, _] _ c3 _ _ _ (hrc.below hba) ((hp6.belowB HBa (fun _ h => h.2)))).mono ?_; rintro e w8 ⟨rfl, hw8⟩; rw [Hm.out]; have HB8 := Below.trans0 HBa hw8 HBa.size)
                    | (go_at_call 21; refine (planBroken_any cat (someTo l cat.length) A A2 ca c2 S _ _ (hA.below (Below.trans0 HW HB8 HW.size)) (ht5.below HB8)).mono ?_; rintro e w9 ⟨hw9, A9, c9, rfl, -, -⟩; have HB9 := Below.trans0 HB8 hw9 HB8.size))
                  have HF : Below w6.heap.size w6 w9 := Below.trans0 (Below.trans0 hb7 hba hb7.size) (Below.trans0 hw8 hw9 hw8.size) (by have := hb7.size; simp; omega)
                  clear hw8 hw9 HB8 HB9 HBa hba x0 hbr hbr1 hbr2
                  go_roundw
                  case rel => exact ⟨HF, m + 1, by omega, by go_num⟩
                  case measure => simp [intOf]; omega
                · have Hm := Lib.hid hmet
                  clear hmet hneg hneg'
                  go_wp2_with (go_at_call 27; refine (met_any pk[k].clauses[m] pk [_, _] _ c3 _ _ _ (hrc.below hba) ((hp6.belowB HBa (fun _ h => h.2)))).mono ?_; rintro e w8 ⟨rfl, hw8⟩; rw [Hm.out])
                  have HF : Below w6.heap.size w6 w8 := Below.trans0 (Below.trans0 hb7 hba hb7.size) hw8 (by have := hb7.size; simp; omega)
                  clear hw8 HBa hba x0
                  go_roundw
                  case rel => exact ⟨HF, m + 1, by omega, by go_num⟩
                  case measure => simp [intOf]; omega
              · rw [hneg] at hrc g0
                clear hneg
                go_wp2
                go_roundw
                case rel => exact ⟨hb7.alloc hb7.size _, m + 1, by omega, by go_num⟩
                case measure => simp [intOf]; omega
            · go_wp2
              go_roundw
              case rel => exact ⟨HB7, k + 1, by omega, by go_num, hown7.below hb7⟩
              case measure => simp [intOf]; omega
        · have hke : k = pk.length := by omega
          subst hke
          rw [List.take_of_length_le (Nat.le_refl _)] at hown
          have HW7 : Below w.heap.size w wr := Below.trans0 HW hb HW.size
          have Hv : Hid (validP cat (someTo l cat.length) = false) := Lib.hid (by unfold validP; rw [hb0.out]; simp)
          go_wp2_with (go_at_call 18; refine (planValid_any cat (someTo l cat.length) A A2 ca c2 S _ _ (hA.below HW7) (ht5.below hb) (hL.below HW7)).mono ?_; rintro e w8 ⟨rfl, hw8⟩; rw [Hv.out])
          go_ret
          exact ⟨by simp [hpt.out], Below.trans0 HW7 hw8 HW7.size⟩

end Go.Proofs.YteoafnkcplealaaDoor
