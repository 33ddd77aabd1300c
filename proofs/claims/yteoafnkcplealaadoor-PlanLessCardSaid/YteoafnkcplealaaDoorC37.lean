/- Contract: PlanLess (under way). -/
import Derived.Test.YteoafnkcplealaaDoorC36
import Derived.Test.YteoafnkcplealaaDoorC35
import Derived.Test.YteoafnkcplealaaDoorX10
set_option linter.unusedVariables false
namespace Go.Proofs.YteoafnkcplealaaDoor
open Go.RowKit

/-- Does q ask for p, by its name or by what it provides? -/
def askF (p : Pkg) (y : ByteArray) : Bool := decide (y = p.name) || decide (y ∈ p.provides)
def askedIn (p q : Pkg) : Bool := (namesOf q.clauses).any (askF p)
def askedTo (pk : List Pkg) (k i : Nat) : Bool := (List.range i).any fun j => decide (j ≠ k) && askedIn (pk.getD k pkg0) (pk.getD j pkg0)
theorem askedTo_succ (pk : List Pkg) (k i : Nat) : askedTo pk k (i + 1) = (askedTo pk k i || (decide (i ≠ k) && askedIn (pk.getD k pkg0) (pk.getD i pkg0))) := by
  unfold askedTo; rw [List.range_succ, List.any_append]; simp
theorem any_mem {α : Type} {f : α → Bool} {l m : List α} (h : ∀ x, x ∈ l ↔ x ∈ m) : l.any f = m.any f := by
  rw [Bool.eq_iff_iff, List.any_eq_true, List.any_eq_true]
  constructor
  · rintro ⟨x, hx, hf⟩; exact ⟨x, (h x).1 hx, hf⟩
  · rintro ⟨x, hx, hf⟩; exact ⟨x, (h x).2 hx, hf⟩
/-- Nobody asks: what valid_erase wants. -/
theorem asked_no {pk : List Pkg} {k : Nat} (hk : k < pk.length) (h : askedTo pk k pk.length = false) : ∀ i (hi : i < pk.length), i ≠ k → ∀ c ∈ pk[i].clauses, ∀ n ∈ c.any, ¬ n.name = pk[k].name ∧ ¬ n.name ∈ pk[k].provides := by
  intro i hi hik c hc n hn
  unfold askedTo at h
  rw [List.any_eq_false] at h
  have h1 := h i (List.mem_range.2 hi)
  simp only [Bool.and_eq_true, decide_eq_true_eq, not_and, Bool.not_eq_true] at h1
  have h2 := h1 hik
  unfold askedIn at h2
  rw [List.any_eq_false] at h2
  rw [pkg_at hi, pkg_at hk] at h2
  have h3 := h2 n.name (mem_namesOf.2 ⟨c, hc, n, hn, rfl⟩)
  unfold askF at h3
  simpa using h3

theorem plan_clauses {cat : List Pkg} (h : planOk cat = true) (j : Nat) (hj : j < cat.length) : clausesOk cat[j].clauses = true := by
  unfold planOk at h
  simp only [Bool.and_eq_true, List.all_eq_true, List.mem_range] at h
  have := h.2 j hj
  rw [planAt_eq hj] at this
  simp only [Bool.and_eq_true] at this
  exact this.1.2
theorem valid_plan {cat : List Pkg} {l : List Int} (h : validP cat l = true) : planOk cat = true := by
  unfold validP at h
  simp only [Bool.and_eq_true] at h
  exact h.1.1.1
theorem pick_at {cat : List Pkg} {l : List Int} (h : tgt cat.length l = true) {i : Nat} (hi : i < l.length) : (pick cat l).getD i pkg0 = at0 cat l[i] := by
  rw [pick_yes h]
  simp [List.getD, hi]

set_option maxHeartbeats 0 in
set_option maxRecDepth 100000 in
theorem planLess_any (cat : List Pkg) (l : List Int) (A B : Option Addr) (ca cb : Nat) (S T : Nat → Prop) (x : Int) (w : World) (hA : Arr w S A cat) (h : Arr w T B l) (hx : In64 x) (hL : Laid w) :
    Calls Tryd.prog 12 #[.slice A cat.length ca, .slice B l.length cb, .int .i64 x] w fun e w' => e = .returned (.bool true) ∧ Below w.heap.size w w' := by
  have hby : cat.length * 104 ≤ reach := hA.1
  have hn8 : cat.length * 8 ≤ reach := by omega
  have hbig : cat.length ≤ 1353245656771 := by unfold reach at hby; omega
  have htg := Lib.hid (tgt_some l cat.length)
  have htl := someTo_len l cat.length
  have hpt := Lib.hid (pick_some cat l)
  go_enter Tryd.func12, Tryd.ntmps12
  go_wp2_with fail
  refine (works19_any _ hL).mono ?_
  rintro e w1 ⟨rfl, HW1⟩
  go_wp2_with fail
  refine (some_any l cat.length B cb T _ (h.below HW1) hn8).mono ?_
  rintro e w2 ⟨hw2, A2, c2, rfl, ht2, hc2⟩
  have HW2 := Below.trans0 HW1 hw2 HW1.size
  generalize hte : someTo l cat.length = t at *
  go_wp2_with fail
  refine (planValid_any cat t A A2 ca c2 S _ _ (hA.below HW2) ht2 (hL.below HW2)).mono ?_
  rintro e w3 ⟨rfl, hw3⟩
  have HW3 := Below.trans0 HW2 hw3 HW2.size
  have ht3 := ht2.below hw3
  cases hv : validP cat t
  · go_wp2
    go_ret
    exact ⟨rfl, HW3⟩
  · have Hv := Lib.hid hv
    clear hv
    by_cases h0 : t.length = 0
    · have h0' : (t.length : Int) = 0 := by omega
      go_wp2
      go_ret
      exact ⟨rfl, HW3⟩
    · have h0' : ¬ (t.length : Int) = 0 := by omega
      have h0b : ((t.length : Int) == 0) = false := beq_eq_false_iff_ne.2 h0'
      go_wp2_with fail
      refine (among_any x t.length _ (by omega) (by omega) hx).mono ?_
      rintro e wa ⟨⟨k, hk, rfl⟩, hwa⟩
      have hwa' := hwa.symm
      clear hwa
      subst hwa'
      obtain ⟨bt, ot, rfl, hbt, hst, hct⟩ := ht3.getI k hk
      have hmem := tgt_mem htg.out (List.getElem_mem hk)
      have m0 : (0 : Int) ≤ t[k] := hmem.1
      have m1 : t[k] < cat.length := hmem.2
      have m2 : t[k].toNat < cat.length := by omega
      have hat := Lib.hid (at0_get m0 m1)
      obtain ⟨b, o, B2, cb2, C2, cc2, D2, cd2, rfl, hb0, e0, e1, e2, e3, e4, hrep, hparts, hprov, hcls⟩ := (hA.below HW3).getPkg t[k].toNat m2
      have c0 : (w3.alloc (.cells #[.string cat[t[k].toNat].name, .slice B2 cat[t[k].toNat].ver.parts.length cb2, .string cat[t[k].toNat].ver.tail, .slice C2 cat[t[k].toNat].provides.length cc2, .slice D2 cat[t[k].toNat].clauses.length cd2] 37)).cell? ⟨w3.heap.size, 0, none⟩ = some (.string cat[t[k].toNat].name) := by simp
      have c3 : (w3.alloc (.cells #[.string cat[t[k].toNat].name, .slice B2 cat[t[k].toNat].ver.parts.length cb2, .string cat[t[k].toNat].ver.tail, .slice C2 cat[t[k].toNat].provides.length cc2, .slice D2 cat[t[k].toNat].clauses.length cd2] 37)).cell? ⟨w3.heap.size, 3, none⟩ = some (.slice C2 cat[t[k].toNat].provides.length cc2) := by simp
      have HW4 : Below w.heap.size w (w3.alloc (.cells #[.string cat[t[k].toNat].name, .slice B2 cat[t[k].toNat].ver.parts.length cb2, .string cat[t[k].toNat].ver.tail, .slice C2 cat[t[k].toNat].provides.length cc2, .slice D2 cat[t[k].toNat].clauses.length cd2] 37)) := HW3.alloc HW3.size _
      have H34 : Below w3.heap.size w3 (w3.alloc (.cells #[.string cat[t[k].toNat].name, .slice B2 cat[t[k].toNat].ver.parts.length cb2, .string cat[t[k].toNat].ver.tail, .slice C2 cat[t[k].toNat].provides.length cc2, .slice D2 cat[t[k].toNat].clauses.length cd2] 37)) := (Below.refl _ _).alloc (Nat.le_refl _) _
      have hpp : Hid ((pick cat t).getD k pkg0 = cat[t[k].toNat]) := Lib.hid (by rw [pick_at htg.out hk, hat.out])
      go_wp2
      generalize (w3.alloc (.cells #[.string cat[t[k].toNat].name, .slice B2 cat[t[k].toNat].ver.parts.length cb2, .string cat[t[k].toNat].ver.tail, .slice C2 cat[t[k].toNat].provides.length cc2, .slice D2 cat[t[k].toNat].clauses.length cd2] 37)) = w4 at *
      go_loopw [10, 11] (fun a i wr => Below w4.heap.size w4 wr ∧ ∃ i0 : Nat, i0 ≤ t.length ∧ i = .int .i64 i0 ∧ ∃ q, a = .bool q ∧ Hid (askedTo (pick cat t) k i0 = q)) (fun _ i _ => t.length - (intOf i).toNat)
      case atStart => exact ⟨Below.refl _ _, 0, Nat.zero_le _, rfl, false, rfl, Lib.hid rfl⟩
      case round =>
        obtain ⟨hb, i0, hi0, rfl, q, rfl, hq⟩ := hrel
        by_cases hlt : i0 < t.length
        · obtain ⟨bt2, ot2, e, hbt2, hst2, hct2⟩ := (ht3.below (Below.trans0 H34 hb H34.size)).getI i0 hlt
          cases e
          have hmem2 := tgt_mem htg.out (List.getElem_mem hlt)
          have n0 : (0 : Int) ≤ t[i0] := hmem2.1
          have n1 : t[i0] < cat.length := hmem2.2
          have n2 : t[i0].toNat < cat.length := by omega
          have hat2 := Lib.hid (at0_get n0 n1)
          have hpq : Hid ((pick cat t).getD i0 pkg0 = cat[t[i0].toNat]) := Lib.hid (by rw [pick_at htg.out hlt, hat2.out])
          have HWr := Below.trans0 HW4 hb HW4.size
          obtain ⟨b', o', B6, cb6, C6, cc6, D6, cd6, e, hb6, f0, f1, f2, f3, f4, -, -, -, hcl6⟩ := (hA.below HWr).getPkg t[i0].toNat n2
          cases e
          go_wp2_with fail
          refine (names_any cat[t[i0].toNat].clauses D6 cd6 S _ hcl6 (plan_clauses (valid_plan Hv.out) _ n2)).mono ?_
          rintro e w5 ⟨hw5, A5, c5, L, rfl, hL5, hmL⟩
          have hanyL : Hid (L.any (askF cat[t[k].toNat]) = askedIn cat[t[k].toNat] cat[t[i0].toNat]) := Lib.hid (any_mem hmL)
          go_wp2
          have HX5 : Below w4.heap.size w4 w5 := Below.trans0 hb hw5 hb.size
          have H35 : Below w3.heap.size w3 w5 := Below.trans0 H34 HX5 H34.size
          have hbx4 : w3.heap.size < w4.heap.size := World.block_lt_of_cell? w4 ⟨w3.heap.size, 0, none⟩ c0
          clear hw5 f0 f1 f2 f3 f4 hb6 hct2 hbt2
          go_loopw [10, 13] (fun a j wr => Below w5.heap.size w5 wr ∧ ∃ m : Nat, m ≤ L.length ∧ j = .int .i64 m ∧ ∃ r, a = .bool r ∧ Hid ((q || (decide (i0 ≠ k) && (L.take m).any (askF cat[t[k].toNat]))) = r)) (fun _ j _ => L.length - (intOf j).toNat)
          case atStart => exact ⟨Below.refl _ _, 0, Nat.zero_le _, rfl, q, rfl, Lib.hid (by simp)⟩
          case round =>
            obtain ⟨hb7, m, hm, rfl, r, rfl, hr⟩ := hrel
            have HX7 : Below w4.heap.size w4 wr := Below.trans0 HX5 hb7 HX5.size
            by_cases hmt : m < L.length
            · have hts : Hid ((L.take (m + 1)).any (askF cat[t[k].toNat]) = ((L.take m).any (askF cat[t[k].toNat]) || askF cat[t[k].toNat] L[m])) := Lib.hid (by rw [← List.take_append_getElem hmt, List.any_append]; simp)
              obtain ⟨bl5, ol5, rfl, hbl, hsl, hcl⟩ := (hL5.below hb7).getS m hmt
              have g0 : wr.cell? ⟨w3.heap.size, 0, none⟩ = some (.string cat[t[k].toNat].name) := box_below HX7 c0
              have g3 : wr.cell? ⟨w3.heap.size, 3, none⟩ = some (.slice C2 cat[t[k].toNat].provides.length cc2) := box_below HX7 c3
              have hbx7 : w3.heap.size < wr.heap.size := Nat.lt_of_lt_of_le hbx4 HX7.size
              have hprov7 := hprov.below (Below.trans0 H34 HX7 H34.size)
              have hmt' : (m : Int) < L.length := by omega
              have hLl := hL5.len
              cases r
              · have hi0k : True := trivial
                by_cases hik : i0 = k
                · have hik' : ((i0 : Int) != (k : Int)) = false := by subst hik; simp
                  have hik2 : (i0 : Int) = k := by omega
                  have fin : Hid ((q || (decide (i0 ≠ k) && (L.take (m + 1)).any (askF cat[t[k].toNat]))) = false) := Lib.hid (by
                    have h1 := hr.out
                    rw [decide_eq_false (p := i0 ≠ k) (by simp [hik])] at h1 ⊢
                    simpa using h1)
                  clear hi0k hik
                  go_wp2
                  refine region_quiet (by kernel_rfl) (by kernel_rfl) ?_
                  repeat (go_big_quiet_step (fail))
                  refine wpQuiet_nil ?_
                  intro W1 hw1
                  replace hw1 := below_of_ext hw1
                  go_wp2
                  go_roundw
                  case rel => exact ⟨Below.trans0 hb7 hw1 hb7.size, m + 1, by omega, by go_num, false, rfl, fin⟩
                  case measure => simp [intOf]; omega
                · have hik' : ((i0 : Int) != (k : Int)) = true := by rw [bne_iff_ne]; omega
                  have hik2 : ¬ (i0 : Int) = k := by omega
                  have hq0 : Hid (q = false ∧ (L.take m).any (askF cat[t[k].toNat]) = false) := Lib.hid (by
                    have h1 := hr.out
                    rw [decide_eq_true (p := i0 ≠ k) hik] at h1
                    simpa using h1)
                  cases he : (L[m].toList == cat[t[k].toNat].name.toList)
                  · have fin : Hid ((q || (decide (i0 ≠ k) && (L.take (m + 1)).any (askF cat[t[k].toNat]))) = decide (L[m] ∈ cat[t[k].toNat].provides)) := Lib.hid (by
                      rw [hts.out, hq0.out.1, hq0.out.2, decide_eq_true (p := i0 ≠ k) hik]
                      unfold askF
                      rw [decide_eq_false (sne_of he)]; simp)
                    clear hi0k hik
                    go_wp2
                    refine region_quiet (by kernel_rfl) (by kernel_rfl) ?_
                    repeat (go_big_quiet_step ((go_at_call 42; exact call_quiet ((has_any cat[t[k].toNat].provides L[m] C2 cc2 _ _ (hprov7.below (ext_below _ _))).mono fun e W ⟨he, hw⟩ => ⟨he, by rw [hw]; exact Below.refl _ _⟩))))
                    refine wpQuiet_nil ?_
                    intro W1 hw1
                    replace hw1 := below_of_ext hw1
                    go_wp2
                    go_roundw
                    case rel => exact ⟨Below.trans0 hb7 hw1 hb7.size, m + 1, by omega, by go_num, _, rfl, fin⟩
                    case measure => simp [intOf]; omega
                  · have fin : Hid ((q || (decide (i0 ≠ k) && (L.take (m + 1)).any (askF cat[t[k].toNat]))) = true) := Lib.hid (by
                      rw [hts.out, hq0.out.1, hq0.out.2, decide_eq_true (p := i0 ≠ k) hik]
                      unfold askF
                      rw [decide_eq_true (seq_of he)]; simp)
                    clear hi0k hik
                    go_wp2
                    refine region_quiet (by kernel_rfl) (by kernel_rfl) ?_
                    repeat (go_big_quiet_step (fail))
                    refine wpQuiet_nil ?_
                    intro W1 hw1
                    replace hw1 := below_of_ext hw1
                    go_wp2
                    go_roundw
                    case rel => exact ⟨Below.trans0 hb7 hw1 hb7.size, m + 1, by omega, by go_num, true, rfl, fin⟩
                    case measure => simp [intOf]; omega
              · have fin : Hid ((q || (decide (i0 ≠ k) && (L.take (m + 1)).any (askF cat[t[k].toNat]))) = true) := Lib.hid (by
                  have h1 := hr.out
                  rw [hts.out]
                  cases hq1 : q
                  · rw [hq1] at h1
                    simp only [Bool.false_or, Bool.and_eq_true] at h1 ⊢
                    exact ⟨h1.1, by rw [h1.2]; rfl⟩
                  · rfl)
                go_wp2
                refine region_quiet (by kernel_rfl) (by kernel_rfl) ?_
                repeat (go_big_quiet_step (fail))
                refine wpQuiet_nil ?_
                intro W1 hw1
                replace hw1 := below_of_ext hw1
                go_wp2
                go_roundw
                case rel => exact ⟨Below.trans0 hb7 hw1 hb7.size, m + 1, by omega, by go_num, true, rfl, fin⟩
                case measure => simp [intOf]; omega
            · have hfin : Hid (askedTo (pick cat t) k (i0 + 1) = r) := Lib.hid (by rw [askedTo_succ, hpp.out, hpq.out, hq.out, ← hr.out, List.take_of_length_le (by omega), hanyL.out])
              go_wp2
              go_roundw
              case rel => exact ⟨HX7, i0 + 1, by omega, by go_num, r, rfl, hfin⟩
              case measure => simp [intOf]; omega
        · have hie : i0 = t.length := by omega
          subst hie
          have HWr := Below.trans0 HW4 hb HW4.size
          have htr : Arr wr (fun _ => True) (some ⟨bt, ot, none⟩) t := (ht3.below (Below.trans0 H34 hb H34.size)).mono (fun _ _ _ => trivial)
          have hAr := hA.below HWr
          have hLr := hL.below HWr
          have t1 : (t.take k).length = k := by simp; omega
          have t2 : (t.drop (k + 1)).length = t.length - (k + 1) := by simp
          have p1 : Arr wr (fun _ => True) (some ⟨bt, ot, none⟩) (t.take k) := by have := htr.part 0 k (by omega) (by omega); simpa using this
          have p2 : Arr wr (fun _ => True) (some ⟨bt, ot + (k + 1), none⟩) (t.drop (k + 1)) := by have := htr.part (k + 1) t.length (by omega) (by omega); rw [List.take_of_length_le (by simp)] at this; simpa [Cd.n] using this
          have hbt8 : t.length * 8 ≤ reach := ht3.1
          have hre : Hid (t.eraseIdx k = [] ++ t.take k ++ t.drop (k + 1)) := Lib.hid (by rw [List.nil_append, List.eraseIdx_eq_take_drop_succ])
          have hrl : (t.eraseIdx k).length = t.length - 1 := by rw [List.length_eraseIdx, if_pos hk]
          have q1 : (([] : List Int).length + (t.take k).length) * Cd.bytes Int ≤ 140737488355328 := app_bound (n := t.length) hbt8 (by rw [t1]; simp; omega)
          have q1' : ([] : List Int).length + (t.take k).length ≤ 9223372036854775807 := by rw [t1]; simp; omega
          have q3 : (([] ++ t.take k).length + (t.drop (k + 1)).length) * Cd.bytes Int ≤ 140737488355328 := app_bound (n := t.length) hbt8 (by rw [List.nil_append, t1, t2]; omega)
          have q3' : ([] ++ t.take k).length + (t.drop (k + 1)).length ≤ 9223372036854775807 := by rw [List.nil_append, t1, t2]; omega
          have a1 : (0 : Int) ≤ k := by omega
          have a2 : (k : Int) ≤ c2 := by omega
          have a3 : (k : Int) + 1 ≤ t.length := by omega
          have a4 : (t.length : Int) ≤ c2 := by omega
          have a6 : IntKind.i64.wrap ((k : Int) + 1) = (k : Int) + 1 := IntWalk.i64_in _ (by omega)
          have a7 : ((k : Int) + 1).toNat = k + 1 := by omega
          have a8 : (0 : Int) ≤ (k : Int) + 1 := by omega
          have a9 : (k : Int) + 1 ≤ c2 := by omega
          by_cases hkc : k + 1 = c2
          · have hd : t.drop (k + 1) = [] := List.drop_of_length_le (by omega)
            rw [hd] at hre q3 q3' p2 t2
            subst hkc
            have b1' : (k : Int) ≤ (k : Int) + 1 := by omega
            have b2' : (t.length : Int) ≤ (k : Int) + 1 := by omega
            have b3' : k ≤ k + 1 := by omega
            go_wp2
            go_region_law (first
              | (refine step_own_flat rfl (.tmp 88) (.tmp 91) 23 rfl wr.heap.size 3 elInt (fun _ => False) (fun _ => True) _ ([] : List Int) rfl (own_empty (by first | exact he1 wr _ rfl | exact he2 wr _ rfl | exact he3 wr _ rfl) (by first | exact Nat.le_refl _ | omega)) (some ⟨bt, ot, none⟩) (k + 1) (t.take k) (by rw [t1]; rfl) (p1.below (by (repeat (first | exact Below.refl _ _ | assumption | (refine Below.setCell ?_ (by first | omega | (simp; done) | (simp; omega) | exact Below.size (by assumption)) _) | (refine Below.alloc ?_ (by first | omega | (simp; done) | (simp; omega) | exact Below.size (by assumption)) _) | refine Below.drew ?_ | refine Below.trans0 ?_ (by assumption))))) q1 q1' (by first | (simp; done) | (simp; omega)) ?_; intro v1 w1 hown1 hg1 hl1; have hB1 : Below wr.heap.size wr w1 := Below.grown (by (repeat (first | exact Below.refl _ _ | assumption | (refine Below.setCell ?_ (by first | omega | (simp; done) | (simp; omega) | exact Below.size (by assumption)) _) | (refine Below.alloc ?_ (by first | omega | (simp; done) | (simp; omega) | exact Below.size (by assumption)) _) | refine Below.drew ?_ | refine Below.trans0 ?_ (by assumption)))) hg1 (by first | (simp; done) | (simp; omega)) (fun b e => by have := ownBlock_eq e; omega))
              | (refine step_own_flat rfl (.tmp 92) (.tmp 96) 23 rfl wr.heap.size 3 elInt (fun _ => False) (fun _ => True) v1 ([] ++ t.take k) rfl (hown1.below (by (repeat (first | exact Below.refl _ _ | assumption | (refine Below.setCell ?_ (by first | omega | (simp; done) | (simp; omega) | exact Below.size (by assumption)) _) | (refine Below.alloc ?_ (by first | omega | (simp; done) | (simp; omega) | exact Below.size (by assumption)) _) | refine Below.drew ?_ | refine Below.trans0 ?_ (by assumption))))) (some ⟨bt, ot, none⟩) 0 ([] : List Int) (by first | rfl | (simp [Act.eval]; done) | (simp [Act.eval]; intro hq; omega) | (simp [Act.eval]; omega)) (Arr.nil _ _ _) q3 q3' hB1.size ?_; intro v2 w2 hown2 hg2 hl2; have hB2 : Below wr.heap.size wr w2 := Below.grown hB1 hg2 hB1.size (fun b e => by have := hown1.block_ge b e; omega)))
            all_goals
              have HW2 : Below w.heap.size w w2 := Below.trans0 HWr hB2 HWr.size
              have hre2 := hre.out
              generalize hG : [] ++ t.take k ++ ([] : List Int) = rest at hown2 hre2
              have hrl2 : rest.length ≤ t.length := by rw [← hre2, hrl]; omega
              obtain ⟨A3, c3, rfl, hr3, -⟩ := hown2.rep2 (S' := fun _ => True) (fun b _ h => h.elim) (fun b _ _ => trivial) (mul_bound hbt8 hrl2) (by omega)
              have hL2 := hL.below HW2
              have hA2 := hA.below HW2
              clear hown2 hg2 hl2 hown1 hg1 hl1 q3 q3' hG
              cases q
              · have hfin : Hid (validP cat rest = true) := Lib.hid (by
                  have hpl : (pick cat t).length = t.length := by rw [pick_yes htg.out, List.length_map]
                  rw [← hre2]
                  exact valid_erase Hv.out (by omega) (asked_no (by omega) (by rw [hpl]; exact hq.out)))
                go_wp2_with fail
                refine (planValid_any cat rest _ A3 ca c3 S (fun _ => True) _ hA2 hr3 hL2).mono ?_
                rintro e w5 ⟨rfl, hw5⟩
                rw [hfin.out]
                go_wp2
                go_ret
                exact ⟨rfl, Below.trans0 HW2 hw5 HW2.size⟩
              · go_wp2_with fail
                refine (planBroken_any cat rest _ A3 ca c3 S (fun _ => True) _ hA2 hr3).mono ?_
                rintro e w5 ⟨hw5, A5, c5, rfl, hb5, -⟩
                have hmem : Hid (∀ y, y ∈ broken cat rest → y ∈ rest) := Lib.hid (by
                  intro y hy
                  unfold broken brkTo at hy
                  rw [List.mem_map] at hy
                  obtain ⟨j, hj, rfl⟩ := hy
                  have hj2 := List.mem_range.1 (List.mem_filter.1 hj).1
                  have := pick_len2 (cat := cat) (l := rest)
                  rw [List.getD, List.getElem?_eq_getElem (show j < rest.length by omega)]
                  exact List.getElem_mem _)
                have hr5 := hr3.below hw5
                have HW5 := Below.trans0 HW2 hw5 HW2.size
                generalize broken cat rest = bb at *
                have hbl := hb5.len
                clear hb
                go_wp2
                go_loopw [16] (fun i wr => Below w5.heap.size w5 wr ∧ ∃ j : Nat, j ≤ bb.length ∧ i = .int .i64 j) (fun i _ => bb.length - (intOf i).toNat)
                case atStart => exact ⟨Below.refl _ _, 0, Nat.zero_le _, rfl⟩
                case round =>
                  obtain ⟨hb, j, hj, rfl⟩ := hrel
                  by_cases hjl : j < bb.length
                  · obtain ⟨b9, o9, rfl, hb9, hs9, hc9⟩ := (hb5.below hb).getI j hjl
                    have hyes : Hid (decide (bb[j] ∈ rest) = true) := Lib.hid (decide_eq_true (hmem.out _ (List.getElem_mem hjl)))
                    go_wp2_with fail
                    refine (hasInt_any rest bb[j] A3 c3 _ _ (hr5.below hb)).mono ?_
                    rintro e w6 ⟨rfl, hw6⟩
                    have hw6' := hw6.symm
                    clear hw6
                    subst hw6'
                    rw [hyes.out]
                    go_wp2
                    go_roundw
                    case rel => exact ⟨hb, j + 1, by omega, by go_num⟩
                    case measure => simp [intOf]; omega
                  · go_wp2
                    go_ret
                    exact ⟨rfl, Below.trans0 HW5 hb HW5.size⟩
          · have a5 : ¬ (k : Int) + 1 = c2 := by omega
            go_wp2
            go_region_law (first
              | (refine step_own_flat rfl (.tmp 88) (.tmp 91) 23 rfl wr.heap.size 3 elInt (fun _ => False) (fun _ => True) _ ([] : List Int) rfl (own_empty (by first | exact he1 wr _ rfl | exact he2 wr _ rfl | exact he3 wr _ rfl) (by first | exact Nat.le_refl _ | omega)) (some ⟨bt, ot, none⟩) c2 (t.take k) (by rw [t1]; rfl) (p1.below (by (repeat (first | exact Below.refl _ _ | assumption | (refine Below.setCell ?_ (by first | omega | (simp; done) | (simp; omega) | exact Below.size (by assumption)) _) | (refine Below.alloc ?_ (by first | omega | (simp; done) | (simp; omega) | exact Below.size (by assumption)) _) | refine Below.drew ?_ | refine Below.trans0 ?_ (by assumption))))) q1 q1' (by first | (simp; done) | (simp; omega)) ?_; intro v1 w1 hown1 hg1 hl1; have hB1 : Below wr.heap.size wr w1 := Below.grown (by (repeat (first | exact Below.refl _ _ | assumption | (refine Below.setCell ?_ (by first | omega | (simp; done) | (simp; omega) | exact Below.size (by assumption)) _) | (refine Below.alloc ?_ (by first | omega | (simp; done) | (simp; omega) | exact Below.size (by assumption)) _) | refine Below.drew ?_ | refine Below.trans0 ?_ (by assumption)))) hg1 (by first | (simp; done) | (simp; omega)) (fun b e => by have := ownBlock_eq e; omega))
              | (refine step_own_flat rfl (.tmp 92) (.tmp 96) 23 rfl wr.heap.size 3 elInt (fun _ => False) (fun _ => True) v1 ([] ++ t.take k) rfl (hown1.below (by (repeat (first | exact Below.refl _ _ | assumption | (refine Below.setCell ?_ (by first | omega | (simp; done) | (simp; omega) | exact Below.size (by assumption)) _) | (refine Below.alloc ?_ (by first | omega | (simp; done) | (simp; omega) | exact Below.size (by assumption)) _) | refine Below.drew ?_ | refine Below.trans0 ?_ (by assumption))))) (some ⟨bt, ot + (k + 1), none⟩) (c2 - (k + 1)) (t.drop (k + 1)) (by first | (rw [t2]; rfl) | (rw [t2]; simp [Act.eval]; done) | (rw [t2]; simp [Act.eval]; omega)) (p2.below hB1) q3 q3' hB1.size ?_; intro v2 w2 hown2 hg2 hl2; have hB2 : Below wr.heap.size wr w2 := Below.grown hB1 hg2 hB1.size (fun b e => by have := hown1.block_ge b e; omega)))
            all_goals
              have HW2 : Below w.heap.size w w2 := Below.trans0 HWr hB2 HWr.size
              have hre2 := hre.out
              generalize hG : [] ++ t.take k ++ t.drop (k + 1) = rest at hown2 hre2
              have hrl2 : rest.length ≤ t.length := by rw [← hre2, hrl]; omega
              obtain ⟨A3, c3, rfl, hr3, -⟩ := hown2.rep2 (S' := fun _ => True) (fun b _ h => h.elim) (fun b _ _ => trivial) (mul_bound hbt8 hrl2) (by omega)
              have hL2 := hL.below HW2
              have hA2 := hA.below HW2
              clear hown2 hg2 hl2 hown1 hg1 hl1 q3 q3' hG
              cases q
              · have hfin : Hid (validP cat rest = true) := Lib.hid (by
                  have hpl : (pick cat t).length = t.length := by rw [pick_yes htg.out, List.length_map]
                  rw [← hre2]
                  exact valid_erase Hv.out (by omega) (asked_no (by omega) (by rw [hpl]; exact hq.out)))
                go_wp2_with fail
                refine (planValid_any cat rest _ A3 ca c3 S (fun _ => True) _ hA2 hr3 hL2).mono ?_
                rintro e w5 ⟨rfl, hw5⟩
                rw [hfin.out]
                go_wp2
                go_ret
                exact ⟨rfl, Below.trans0 HW2 hw5 HW2.size⟩
              · go_wp2_with fail
                refine (planBroken_any cat rest _ A3 ca c3 S (fun _ => True) _ hA2 hr3).mono ?_
                rintro e w5 ⟨hw5, A5, c5, rfl, hb5, -⟩
                have hmem : Hid (∀ y, y ∈ broken cat rest → y ∈ rest) := Lib.hid (by
                  intro y hy
                  unfold broken brkTo at hy
                  rw [List.mem_map] at hy
                  obtain ⟨j, hj, rfl⟩ := hy
                  have hj2 := List.mem_range.1 (List.mem_filter.1 hj).1
                  have := pick_len2 (cat := cat) (l := rest)
                  rw [List.getD, List.getElem?_eq_getElem (show j < rest.length by omega)]
                  exact List.getElem_mem _)
                have hr5 := hr3.below hw5
                have HW5 := Below.trans0 HW2 hw5 HW2.size
                generalize broken cat rest = bb at *
                have hbl := hb5.len
                clear hb
                go_wp2
                go_loopw [16] (fun i wr => Below w5.heap.size w5 wr ∧ ∃ j : Nat, j ≤ bb.length ∧ i = .int .i64 j) (fun i _ => bb.length - (intOf i).toNat)
                case atStart => exact ⟨Below.refl _ _, 0, Nat.zero_le _, rfl⟩
                case round =>
                  obtain ⟨hb, j, hj, rfl⟩ := hrel
                  by_cases hjl : j < bb.length
                  · obtain ⟨b9, o9, rfl, hb9, hs9, hc9⟩ := (hb5.below hb).getI j hjl
                    have hyes : Hid (decide (bb[j] ∈ rest) = true) := Lib.hid (decide_eq_true (hmem.out _ (List.getElem_mem hjl)))
                    go_wp2_with fail
                    refine (hasInt_any rest bb[j] A3 c3 _ _ (hr5.below hb)).mono ?_
                    rintro e w6 ⟨rfl, hw6⟩
                    have hw6' := hw6.symm
                    clear hw6
                    subst hw6'
                    rw [hyes.out]
                    go_wp2
                    go_roundw
                    case rel => exact ⟨hb, j + 1, by omega, by go_num⟩
                    case measure => simp [intOf]; omega
                  · go_wp2
                    go_ret
                    exact ⟨rfl, Below.trans0 HW5 hb HW5.size⟩

end Go.Proofs.YteoafnkcplealaaDoor
