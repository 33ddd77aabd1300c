/- Contract: plan.Check. -/
import Derived.Test.YtppbjmhllmaakaaGreatDoorC18
import Derived.Test.YtppbjmhllmaakaaGreatDoorC11
import Derived.DeepKeys4
set_option linter.unusedVariables false
namespace Go.Proofs.YtppbjmhllmaakaaGreatDoor
open Go.RowKit
open Go.Maps (Keyed)

theorem laidOut : laidOutB Tryz.prog = true := by kernel_rfl
theorem rankRow : (114 : TypeId) < Tryz.prog.types.size := of_decide_eq_true (by kernel_rfl)
theorem rankWide : (match Tryz.prog.underlying 114 with | some (.array _ _) | some (.struct _) => true | _ => false) = true := by kernel_rfl
set_option maxRecDepth 100000 in
theorem rankKeyed : Keyed Tryz.prog 114 := Keyed.of_law (deep_law_laid laidOut (m := 3) (by omega) rankRow (by kernel_rfl) rankWide)
theorem zeroBool (w : World) : (zeroValue 4).run Tryz.prog w = .ok (.bool false) w := by kernel_rfl
theorem wf64 {x : Int} (h : In64 x) : (Lit.int .i64 x).wf = true := by
  have h1 : IntKind.i64.min = -9223372036854775808 := by decide
  have h2 : IntKind.i64.max = 9223372036854775807 := by decide
  simp only [Lit.wf, h1, h2, Bool.and_eq_true, decide_eq_true_eq]
  exact ⟨h.lo, h.hi⟩
theorem rank_key (p : Pkg) (hn : p.name.size ≤ reach) (ht : p.ver.tail.size ≤ reach) (h : ∀ i, i < 4 → In64 (pt p.ver.parts i)) : ∃ kl, keyOf Tryz.prog 114 (rankV p) = some kl := by
  have hk : Tryz.prog.keyType 114 = true := by kernel_rfl
  have c75 : Tryz.prog.cellsOf 114 = 6 := by kernel_rfl
  have c73 : Tryz.prog.cellsOf 112 = 4 := by kernel_rfl
  have c9 : Tryz.prog.cellsOf 9 = 1 := by kernel_rfl
  have c3 : Tryz.prog.cellsOf 3 = 1 := by kernel_rfl
  have hf : (rankV p).formed Tryz.prog 114 = true := by simp [Value.formed, rankV, Tryz.underlying114, c75]
  have hn' : p.name.size ≤ maxLen := by unfold reach at hn; unfold maxLen; omega
  have ht' : p.ver.tail.size ≤ maxLen := by unfold reach at ht; unfold maxLen; omega
  have w0 := wf64 (h 0 (by omega))
  have w1 := wf64 (h 1 (by omega))
  have w2 := wf64 (h 2 (by omega))
  have w3 := wf64 (h 3 (by omega))
  obtain ⟨m, hm⟩ : ∃ m, Tryz.prog.types.size = m + 3 := ⟨Tryz.prog.types.size - 3, by have : 3 ≤ Tryz.prog.types.size := of_decide_eq_true (by kernel_rfl); omega⟩
  unfold keyOf
  rw [Tryz.underlying114]
  simp only [hk, hf, Bool.and_self, if_true, hm]
  have e4 : List.range 4 = [0, 1, 2, 3] := rfl
  simp [Program.keyLits, Tryz.underlying114, Tryz.underlying9, Tryz.underlying112, Tryz.underlying3, c75, c73, c9, c3, rankV, Value.cells, hn', ht', w0, w1, w2, w3, e4]

theorem ver4 {v : Ver} (h : verOk v = true) : v.parts.length ≤ 4 := by
  simp only [verOk, Bool.and_eq_true, decide_eq_true_eq] at h
  omega
theorem ver64 {v : Ver} (h : verOk v = true) (i : Nat) : In64 (pt v.parts i) := by
  by_cases hi : i < v.parts.length
  · rw [pt_lt hi]
    simp only [verOk, Bool.and_eq_true, decide_eq_true_eq, List.all_eq_true] at h
    have := h.1.2 _ (List.getElem_mem hi)
    exact ⟨by omega, by omega⟩
  · rw [pt_ge hi]; exact ⟨by omega, by omega⟩
theorem pkg_at {cat : List Pkg} {k : Nat} (hk : k < cat.length) : cat.getD k pkg0 = cat[k] := by simp [List.getD, hk]
theorem planAt_eq {cat : List Pkg} {k : Nat} (hk : k < cat.length) : planAt cat k = ((((nameOk cat[k].name && verOk cat[k].ver) && provOk cat[k].provides) && clausesOk cat[k].clauses) && !((cat.take k).any fun q => sameRank q cat[k])) := by
  unfold planAt pkgOk
  rw [pkg_at hk]
/-- The ranks of the packages ahead of it, as keys. -/
theorem ranks_mem {cat : List Pkg} {k : Nat} (hk : k < cat.length) (h : To (planAt cat) k) (hv : verOk cat[k].ver = true) : ((cat.take k).any fun q => sameRank q cat[k]) = true ↔ rankV cat[k] ∈ (cat.take k).map rankV := by
  have h4 : ∀ q ∈ cat.take k, q.ver.parts.length ≤ 4 := by
    intro q hq
    obtain ⟨i, hi, rfl⟩ := List.getElem_of_mem hq
    have hi2 : i < k := by simp at hi; omega
    have hp := h i hi2
    rw [planAt_eq (by omega)] at hp
    simp only [Bool.and_eq_true] at hp
    rw [List.getElem_take]
    exact ver4 hp.1.1.1.2
  rw [List.any_eq_true, List.mem_map]
  constructor
  · rintro ⟨q, hq, hs⟩
    exact ⟨q, hq, (rankV_eq (h4 q hq) (ver4 hv)).2 hs⟩
  · rintro ⟨q, hq, hs⟩
    exact ⟨q, hq, (rankV_eq (h4 q hq) (ver4 hv)).1 hs⟩

set_option maxHeartbeats 0 in
set_option maxRecDepth 100000 in
theorem planCheck_any (cat : List Pkg) (A : Option Addr) (ca : Nat) (S : Nat → Prop) (w : World) (h : Arr w S A cat) (hL : Laid w) :
    Calls Tryz.prog 44 #[.slice A cat.length ca] w fun e w' => e = .returned (.int .i64 (okE (planOk cat) 190)) ∧ Below w.heap.size w w' := by
  have hl := h.len
  have hmm := @run_makeMap Tryz.prog
  by_cases h256 : 256 < cat.length
  · have fin := Lib.hid (show planOk cat = false by unfold planOk; rw [decide_eq_false (by omega)]; rfl)
    go_enter Tryz.func44, Tryz.ntmps44
    go_wp2
    go_ret
    exact ⟨ret_int (by rw [fin.out]; rfl), Below.refl _ _⟩
  · go_enter Tryz.func44, Tryz.ntmps44
    go_wp2
    go_loopw [2, 12] (fun r i wr => Below w.heap.size w wr ∧ ∃ k : Nat, k ≤ cat.length ∧ i = .int .i64 k ∧ Hid (To (planAt cat) k) ∧ SetW Tryz.prog 114 4 wr w.heap.size k ((cat.take k).map rankV)) (fun _ i _ => cat.length - (intOf i).toNat)
    case atStart => exact ⟨by (repeat (first | exact Below.refl _ _ | assumption | (refine Below.setCell ?_ (by first | omega | (simp; done) | (simp; omega) | exact Below.size (by assumption)) _) | (refine Below.alloc ?_ (by first | omega | (simp; done) | (simp; omega) | exact Below.size (by assumption)) _) | refine Below.drew ?_ | refine Below.trans0 ?_ (by assumption))), 0, Nat.zero_le _, rfl, Lib.hid (To.zero _), SetW.made _ _ _ _⟩
    case round =>
      obtain ⟨hB, k, hk, rfl, hj, hset⟩ := hrel
      by_cases hlt : k < cat.length
      · obtain ⟨b, o, B2, cb2, C2, cc2, D2, cd2, rfl, hb0, e0, e1, e2, e3, e4, hrep, hparts, hprov, hcls⟩ := (h.below hB).getPkg k hlt
        obtain ⟨-, -, -, -, -, -, hbox, hsn, -, hst, -, -⟩ := id hrep
        have hat := Lib.hid (planAt_eq hlt)
        have c0 : (wr.alloc (.cells #[.string cat[k].name, .slice B2 cat[k].ver.parts.length cb2, .string cat[k].ver.tail, .slice C2 cat[k].provides.length cc2, .slice D2 cat[k].clauses.length cd2] 36)).cell? ⟨wr.heap.size, 0, none⟩ = some (.string cat[k].name) := by simp
        have c1 : (wr.alloc (.cells #[.string cat[k].name, .slice B2 cat[k].ver.parts.length cb2, .string cat[k].ver.tail, .slice C2 cat[k].provides.length cc2, .slice D2 cat[k].clauses.length cd2] 36)).cell? ⟨wr.heap.size, 1, none⟩ = some (.slice B2 cat[k].ver.parts.length cb2) := by simp
        have c2 : (wr.alloc (.cells #[.string cat[k].name, .slice B2 cat[k].ver.parts.length cb2, .string cat[k].ver.tail, .slice C2 cat[k].provides.length cc2, .slice D2 cat[k].clauses.length cd2] 36)).cell? ⟨wr.heap.size, 2, none⟩ = some (.string cat[k].ver.tail) := by simp
        have c3 : (wr.alloc (.cells #[.string cat[k].name, .slice B2 cat[k].ver.parts.length cb2, .string cat[k].ver.tail, .slice C2 cat[k].provides.length cc2, .slice D2 cat[k].clauses.length cd2] 36)).cell? ⟨wr.heap.size, 3, none⟩ = some (.slice C2 cat[k].provides.length cc2) := by simp
        have c4 : (wr.alloc (.cells #[.string cat[k].name, .slice B2 cat[k].ver.parts.length cb2, .string cat[k].ver.tail, .slice C2 cat[k].provides.length cc2, .slice D2 cat[k].clauses.length cd2] 36)).cell? ⟨wr.heap.size, 4, none⟩ = some (.slice D2 cat[k].clauses.length cd2) := by simp
        have HW : Below w.heap.size w (wr.alloc (.cells #[.string cat[k].name, .slice B2 cat[k].ver.parts.length cb2, .string cat[k].ver.tail, .slice C2 cat[k].provides.length cc2, .slice D2 cat[k].clauses.length cd2] 36)) := by (repeat (first | exact Below.refl _ _ | assumption | (refine Below.setCell ?_ (by first | omega | (simp; done) | (simp; omega) | exact Below.size (by assumption)) _) | (refine Below.alloc ?_ (by first | omega | (simp; done) | (simp; omega) | exact Below.size (by assumption)) _) | refine Below.drew ?_ | refine Below.trans0 ?_ (by assumption)))
        have HX : Below wr.heap.size wr (wr.alloc (.cells #[.string cat[k].name, .slice B2 cat[k].ver.parts.length cb2, .string cat[k].ver.tail, .slice C2 cat[k].provides.length cc2, .slice D2 cat[k].clauses.length cd2] 36)) := by (repeat (first | exact Below.refl _ _ | assumption | (refine Below.setCell ?_ (by first | omega | (simp; done) | (simp; omega) | exact Below.size (by assumption)) _) | (refine Below.alloc ?_ (by first | omega | (simp; done) | (simp; omega) | exact Below.size (by assumption)) _) | refine Below.drew ?_ | refine Below.trans0 ?_ (by assumption)))
        cases hn : nameOk cat[k].name
        · have Hn := Lib.hid hn
          have fin := Lib.hid (show planOk cat = false by unfold planOk; rw [range_no hlt (by rw [hat.out, hn]; rfl)]; simp)
          clear hn
          go_wp2_with (first
          | (go_at_call 38; refine (name_any _ _ hsn (hL.below HW)).mono ?_; rintro e w1 ⟨rfl, hw1⟩; rw [Hn.out]; have c0 := box_below hw1 c0; have c1 := box_below hw1 c1; have c2 := box_below hw1 c2; have c3 := box_below hw1 c3; have c4 := box_below hw1 c4; have HW := Below.trans0 HW hw1 HW.size; have HX := Below.trans0 HX hw1 HX.size)
          | (go_at_call 97; refine (checkV_any cat[k].ver [_, _] S _ ⟨_, _, rfl, hparts.below HX, hst⟩).mono ?_; rintro e w2 ⟨rfl, hw2⟩; rw [Hv.out]; have c0 := box_below hw2 c0; have c1 := box_below hw2 c1; have c2 := box_below hw2 c2; have c3 := box_below hw2 c3; have c4 := box_below hw2 c4; have HW := Below.trans0 HW hw2 HW.size; have HX := Below.trans0 HX hw2 HX.size)
          | (go_at_call 98; refine (provided_any cat[k].provides _ _ S _ (hprov.below HX) (hL.below HW)).mono ?_; rintro e w3 ⟨rfl, hw3⟩; rw [Hp.out]; have c0 := box_below hw3 c0; have c1 := box_below hw3 c1; have c2 := box_below hw3 c2; have c3 := box_below hw3 c3; have c4 := box_below hw3 c4; have HW := Below.trans0 HW hw3 HW.size; have HX := Below.trans0 HX hw3 HX.size)
          | (go_at_call 36; refine (checkC_any cat[k].clauses _ _ S _ (hcls.below HX) (hL.below HW)).mono ?_; rintro e w4 ⟨rfl, hw4⟩; rw [Hc.out]; have c0 := box_below hw4 c0; have c1 := box_below hw4 c1; have c2 := box_below hw4 c2; have c3 := box_below hw4 c3; have c4 := box_below hw4 c4; have HW := Below.trans0 HW hw4 HW.size; have HX := Below.trans0 HX hw4 HX.size)
          | (go_at_call 99; refine (ranked_any cat[k] [_, _, _, _, _] S _ (hrep.below HX) h4).mono ?_; rintro e w5 ⟨rfl, hw5⟩; have c0 := box_below hw5 c0; have c1 := box_below hw5 c1; have c2 := box_below hw5 c2; have c3 := box_below hw5 c3; have c4 := box_below hw5 c4; have HW := Below.trans0 HW hw5 HW.size; have HX := Below.trans0 HX hw5 HX.size)
          | (at_lookup; go_loud (refine wpList_lookup_set_g (by first | rfl | (simp [Region.wanted, yielded]; done))  _ _ 109 rfl 114 4 rankKeyed Tryz.underlying109 Tryz.underlying4 (zeroBool _) w.heap.size k _ rfl (hset.below HX) (rankV cat[k]) rfl hkey _ Hr ?_))
          | (at_mapUpdate; go_loud (refine wpList_put_set rfl _ _ _ 109 rfl 114 4 rankKeyed Tryz.underlying109 Tryz.underlying4 w.heap.size k _ rfl (hset.below HX) (by unfold maxLen; omega) (rankV cat[k]) rfl rfl hkey ?_); intro w7 hset7 hg7)
          | go_in)
          go_ret
          exact ⟨ret_int (by rw [fin.out]; rfl), HW⟩
        · have Hn := Lib.hid hn
          cases hv : verOk cat[k].ver
          · have Hv := Lib.hid hv
            have fin := Lib.hid (show planOk cat = false by unfold planOk; rw [range_no hlt (by rw [hat.out, hn, hv]; rfl)]; simp)
            clear hn hv
            go_wp2_with (first
          | (go_at_call 38; refine (name_any _ _ hsn (hL.below HW)).mono ?_; rintro e w1 ⟨rfl, hw1⟩; rw [Hn.out]; have c0 := box_below hw1 c0; have c1 := box_below hw1 c1; have c2 := box_below hw1 c2; have c3 := box_below hw1 c3; have c4 := box_below hw1 c4; have HW := Below.trans0 HW hw1 HW.size; have HX := Below.trans0 HX hw1 HX.size)
          | (go_at_call 97; refine (checkV_any cat[k].ver [_, _] S _ ⟨_, _, rfl, hparts.below HX, hst⟩).mono ?_; rintro e w2 ⟨rfl, hw2⟩; rw [Hv.out]; have c0 := box_below hw2 c0; have c1 := box_below hw2 c1; have c2 := box_below hw2 c2; have c3 := box_below hw2 c3; have c4 := box_below hw2 c4; have HW := Below.trans0 HW hw2 HW.size; have HX := Below.trans0 HX hw2 HX.size)
          | (go_at_call 98; refine (provided_any cat[k].provides _ _ S _ (hprov.below HX) (hL.below HW)).mono ?_; rintro e w3 ⟨rfl, hw3⟩; rw [Hp.out]; have c0 := box_below hw3 c0; have c1 := box_below hw3 c1; have c2 := box_below hw3 c2; have c3 := box_below hw3 c3; have c4 := box_below hw3 c4; have HW := Below.trans0 HW hw3 HW.size; have HX := Below.trans0 HX hw3 HX.size)
          | (go_at_call 36; refine (checkC_any cat[k].clauses _ _ S _ (hcls.below HX) (hL.below HW)).mono ?_; rintro e w4 ⟨rfl, hw4⟩; rw [Hc.out]; have c0 := box_below hw4 c0; have c1 := box_below hw4 c1; have c2 := box_below hw4 c2; have c3 := box_below hw4 c3; have c4 := box_below hw4 c4; have HW := Below.trans0 HW hw4 HW.size; have HX := Below.trans0 HX hw4 HX.size)
          | (go_at_call 99; refine (ranked_any cat[k] [_, _, _, _, _] S _ (hrep.below HX) h4).mono ?_; rintro e w5 ⟨rfl, hw5⟩; have c0 := box_below hw5 c0; have c1 := box_below hw5 c1; have c2 := box_below hw5 c2; have c3 := box_below hw5 c3; have c4 := box_below hw5 c4; have HW := Below.trans0 HW hw5 HW.size; have HX := Below.trans0 HX hw5 HX.size)
          | (at_lookup; go_loud (refine wpList_lookup_set_g (by first | rfl | (simp [Region.wanted, yielded]; done))  _ _ 109 rfl 114 4 rankKeyed Tryz.underlying109 Tryz.underlying4 (zeroBool _) w.heap.size k _ rfl (hset.below HX) (rankV cat[k]) rfl hkey _ Hr ?_))
          | (at_mapUpdate; go_loud (refine wpList_put_set rfl _ _ _ 109 rfl 114 4 rankKeyed Tryz.underlying109 Tryz.underlying4 w.heap.size k _ rfl (hset.below HX) (by unfold maxLen; omega) (rankV cat[k]) rfl rfl hkey ?_); intro w7 hset7 hg7)
          | go_in)
            go_ret
            exact ⟨ret_int (by rw [fin.out]; rfl), HW⟩
          · have Hv := Lib.hid hv
            cases hp : provOk cat[k].provides
            · have Hp := Lib.hid hp
              have fin := Lib.hid (show planOk cat = false by unfold planOk; rw [range_no hlt (by rw [hat.out, hn, hv, hp]; rfl)]; simp)
              clear hn hv hp
              go_wp2_with (first
          | (go_at_call 38; refine (name_any _ _ hsn (hL.below HW)).mono ?_; rintro e w1 ⟨rfl, hw1⟩; rw [Hn.out]; have c0 := box_below hw1 c0; have c1 := box_below hw1 c1; have c2 := box_below hw1 c2; have c3 := box_below hw1 c3; have c4 := box_below hw1 c4; have HW := Below.trans0 HW hw1 HW.size; have HX := Below.trans0 HX hw1 HX.size)
          | (go_at_call 97; refine (checkV_any cat[k].ver [_, _] S _ ⟨_, _, rfl, hparts.below HX, hst⟩).mono ?_; rintro e w2 ⟨rfl, hw2⟩; rw [Hv.out]; have c0 := box_below hw2 c0; have c1 := box_below hw2 c1; have c2 := box_below hw2 c2; have c3 := box_below hw2 c3; have c4 := box_below hw2 c4; have HW := Below.trans0 HW hw2 HW.size; have HX := Below.trans0 HX hw2 HX.size)
          | (go_at_call 98; refine (provided_any cat[k].provides _ _ S _ (hprov.below HX) (hL.below HW)).mono ?_; rintro e w3 ⟨rfl, hw3⟩; rw [Hp.out]; have c0 := box_below hw3 c0; have c1 := box_below hw3 c1; have c2 := box_below hw3 c2; have c3 := box_below hw3 c3; have c4 := box_below hw3 c4; have HW := Below.trans0 HW hw3 HW.size; have HX := Below.trans0 HX hw3 HX.size)
          | (go_at_call 36; refine (checkC_any cat[k].clauses _ _ S _ (hcls.below HX) (hL.below HW)).mono ?_; rintro e w4 ⟨rfl, hw4⟩; rw [Hc.out]; have c0 := box_below hw4 c0; have c1 := box_below hw4 c1; have c2 := box_below hw4 c2; have c3 := box_below hw4 c3; have c4 := box_below hw4 c4; have HW := Below.trans0 HW hw4 HW.size; have HX := Below.trans0 HX hw4 HX.size)
          | (go_at_call 99; refine (ranked_any cat[k] [_, _, _, _, _] S _ (hrep.below HX) h4).mono ?_; rintro e w5 ⟨rfl, hw5⟩; have c0 := box_below hw5 c0; have c1 := box_below hw5 c1; have c2 := box_below hw5 c2; have c3 := box_below hw5 c3; have c4 := box_below hw5 c4; have HW := Below.trans0 HW hw5 HW.size; have HX := Below.trans0 HX hw5 HX.size)
          | (at_lookup; go_loud (refine wpList_lookup_set_g (by first | rfl | (simp [Region.wanted, yielded]; done))  _ _ 109 rfl 114 4 rankKeyed Tryz.underlying109 Tryz.underlying4 (zeroBool _) w.heap.size k _ rfl (hset.below HX) (rankV cat[k]) rfl hkey _ Hr ?_))
          | (at_mapUpdate; go_loud (refine wpList_put_set rfl _ _ _ 109 rfl 114 4 rankKeyed Tryz.underlying109 Tryz.underlying4 w.heap.size k _ rfl (hset.below HX) (by unfold maxLen; omega) (rankV cat[k]) rfl rfl hkey ?_); intro w7 hset7 hg7)
          | go_in)
              go_ret
              exact ⟨ret_int (by rw [fin.out]; rfl), HW⟩
            · have Hp := Lib.hid hp
              cases hc : clausesOk cat[k].clauses
              · have Hc := Lib.hid hc
                have fin := Lib.hid (show planOk cat = false by unfold planOk; rw [range_no hlt (by rw [hat.out, hn, hv, hp, hc]; rfl)]; simp)
                clear hn hv hp hc
                go_wp2_with (first
          | (go_at_call 38; refine (name_any _ _ hsn (hL.below HW)).mono ?_; rintro e w1 ⟨rfl, hw1⟩; rw [Hn.out]; have c0 := box_below hw1 c0; have c1 := box_below hw1 c1; have c2 := box_below hw1 c2; have c3 := box_below hw1 c3; have c4 := box_below hw1 c4; have HW := Below.trans0 HW hw1 HW.size; have HX := Below.trans0 HX hw1 HX.size)
          | (go_at_call 97; refine (checkV_any cat[k].ver [_, _] S _ ⟨_, _, rfl, hparts.below HX, hst⟩).mono ?_; rintro e w2 ⟨rfl, hw2⟩; rw [Hv.out]; have c0 := box_below hw2 c0; have c1 := box_below hw2 c1; have c2 := box_below hw2 c2; have c3 := box_below hw2 c3; have c4 := box_below hw2 c4; have HW := Below.trans0 HW hw2 HW.size; have HX := Below.trans0 HX hw2 HX.size)
          | (go_at_call 98; refine (provided_any cat[k].provides _ _ S _ (hprov.below HX) (hL.below HW)).mono ?_; rintro e w3 ⟨rfl, hw3⟩; rw [Hp.out]; have c0 := box_below hw3 c0; have c1 := box_below hw3 c1; have c2 := box_below hw3 c2; have c3 := box_below hw3 c3; have c4 := box_below hw3 c4; have HW := Below.trans0 HW hw3 HW.size; have HX := Below.trans0 HX hw3 HX.size)
          | (go_at_call 36; refine (checkC_any cat[k].clauses _ _ S _ (hcls.below HX) (hL.below HW)).mono ?_; rintro e w4 ⟨rfl, hw4⟩; rw [Hc.out]; have c0 := box_below hw4 c0; have c1 := box_below hw4 c1; have c2 := box_below hw4 c2; have c3 := box_below hw4 c3; have c4 := box_below hw4 c4; have HW := Below.trans0 HW hw4 HW.size; have HX := Below.trans0 HX hw4 HX.size)
          | (go_at_call 99; refine (ranked_any cat[k] [_, _, _, _, _] S _ (hrep.below HX) h4).mono ?_; rintro e w5 ⟨rfl, hw5⟩; have c0 := box_below hw5 c0; have c1 := box_below hw5 c1; have c2 := box_below hw5 c2; have c3 := box_below hw5 c3; have c4 := box_below hw5 c4; have HW := Below.trans0 HW hw5 HW.size; have HX := Below.trans0 HX hw5 HX.size)
          | (at_lookup; go_loud (refine wpList_lookup_set_g (by first | rfl | (simp [Region.wanted, yielded]; done))  _ _ 109 rfl 114 4 rankKeyed Tryz.underlying109 Tryz.underlying4 (zeroBool _) w.heap.size k _ rfl (hset.below HX) (rankV cat[k]) rfl hkey _ Hr ?_))
          | (at_mapUpdate; go_loud (refine wpList_put_set rfl _ _ _ 109 rfl 114 4 rankKeyed Tryz.underlying109 Tryz.underlying4 w.heap.size k _ rfl (hset.below HX) (by unfold maxLen; omega) (rankV cat[k]) rfl rfl hkey ?_); intro w7 hset7 hg7)
          | go_in)
                go_ret
                exact ⟨ret_int (by rw [fin.out]; rfl), HW⟩
              · have Hc := Lib.hid hc
                have h4 := ver4 hv
                have hkey := rank_key cat[k] hsn hst (fun i _ => ver64 hv i)
                have hmem := ranks_mem hlt hj.out hv
                cases hr : (cat.take k).any fun q => sameRank q cat[k]
                · have Hr : Tells false (rankV cat[k] ∈ (cat.take k).map rankV) := ⟨(fun e => by cases e), (fun e => by have := hmem.2 e; rw [hr] at this; cases this)⟩
                  have fin : Hid (To (planAt cat) (k + 1)) := Lib.hid (hj.out.succ (by rw [hat.out, hn, hv, hp, hc, hr]; rfl))
                  clear hn hv hp hc hr hmem
                  go_wp2_with (first
          | (go_at_call 38; refine (name_any _ _ hsn (hL.below HW)).mono ?_; rintro e w1 ⟨rfl, hw1⟩; rw [Hn.out]; have c0 := box_below hw1 c0; have c1 := box_below hw1 c1; have c2 := box_below hw1 c2; have c3 := box_below hw1 c3; have c4 := box_below hw1 c4; have HW := Below.trans0 HW hw1 HW.size; have HX := Below.trans0 HX hw1 HX.size)
          | (go_at_call 97; refine (checkV_any cat[k].ver [_, _] S _ ⟨_, _, rfl, hparts.below HX, hst⟩).mono ?_; rintro e w2 ⟨rfl, hw2⟩; rw [Hv.out]; have c0 := box_below hw2 c0; have c1 := box_below hw2 c1; have c2 := box_below hw2 c2; have c3 := box_below hw2 c3; have c4 := box_below hw2 c4; have HW := Below.trans0 HW hw2 HW.size; have HX := Below.trans0 HX hw2 HX.size)
          | (go_at_call 98; refine (provided_any cat[k].provides _ _ S _ (hprov.below HX) (hL.below HW)).mono ?_; rintro e w3 ⟨rfl, hw3⟩; rw [Hp.out]; have c0 := box_below hw3 c0; have c1 := box_below hw3 c1; have c2 := box_below hw3 c2; have c3 := box_below hw3 c3; have c4 := box_below hw3 c4; have HW := Below.trans0 HW hw3 HW.size; have HX := Below.trans0 HX hw3 HX.size)
          | (go_at_call 36; refine (checkC_any cat[k].clauses _ _ S _ (hcls.below HX) (hL.below HW)).mono ?_; rintro e w4 ⟨rfl, hw4⟩; rw [Hc.out]; have c0 := box_below hw4 c0; have c1 := box_below hw4 c1; have c2 := box_below hw4 c2; have c3 := box_below hw4 c3; have c4 := box_below hw4 c4; have HW := Below.trans0 HW hw4 HW.size; have HX := Below.trans0 HX hw4 HX.size)
          | (go_at_call 99; refine (ranked_any cat[k] [_, _, _, _, _] S _ (hrep.below HX) h4).mono ?_; rintro e w5 ⟨rfl, hw5⟩; have c0 := box_below hw5 c0; have c1 := box_below hw5 c1; have c2 := box_below hw5 c2; have c3 := box_below hw5 c3; have c4 := box_below hw5 c4; have HW := Below.trans0 HW hw5 HW.size; have HX := Below.trans0 HX hw5 HX.size)
          | (at_lookup; go_loud (refine wpList_lookup_set_g (by first | rfl | (simp [Region.wanted, yielded]; done))  _ _ 109 rfl 114 4 rankKeyed Tryz.underlying109 Tryz.underlying4 (zeroBool _) w.heap.size k _ rfl (hset.below HX) (rankV cat[k]) rfl hkey _ Hr ?_))
          | (at_mapUpdate; go_loud (refine wpList_put_set rfl _ _ _ 109 rfl 114 4 rankKeyed Tryz.underlying109 Tryz.underlying4 w.heap.size k _ rfl (hset.below HX) (by unfold maxLen; omega) (rankV cat[k]) rfl rfl hkey ?_); intro w7 hset7 hg7)
          | go_in)
                  have hB7 : Below w.heap.size w w7 := Below.grown HW hg7 HW.size (fun b e => by cases e; exact Nat.le_refl _)
                  have hset8 : SetW Tryz.prog 114 4 w7 w.heap.size (k + 1) ((cat.take (k + 1)).map rankV) := by rw [take_map_succ _ hlt]; exact hset7
                  go_roundw
                  case rel => exact ⟨hB7, k + 1, by omega, by go_num, fin, hset8⟩
                  case measure => simp [intOf]; omega
                · have Hr : Tells true (rankV cat[k] ∈ (cat.take k).map rankV) := ⟨(fun _ => hmem.1 hr), (fun _ => rfl)⟩
                  have fin := Lib.hid (show planOk cat = false by unfold planOk; rw [range_no hlt (by rw [hat.out, hn, hv, hp, hc, hr]; rfl)]; simp)
                  clear hn hv hp hc hr hmem
                  go_wp2_with (first
          | (go_at_call 38; refine (name_any _ _ hsn (hL.below HW)).mono ?_; rintro e w1 ⟨rfl, hw1⟩; rw [Hn.out]; have c0 := box_below hw1 c0; have c1 := box_below hw1 c1; have c2 := box_below hw1 c2; have c3 := box_below hw1 c3; have c4 := box_below hw1 c4; have HW := Below.trans0 HW hw1 HW.size; have HX := Below.trans0 HX hw1 HX.size)
          | (go_at_call 97; refine (checkV_any cat[k].ver [_, _] S _ ⟨_, _, rfl, hparts.below HX, hst⟩).mono ?_; rintro e w2 ⟨rfl, hw2⟩; rw [Hv.out]; have c0 := box_below hw2 c0; have c1 := box_below hw2 c1; have c2 := box_below hw2 c2; have c3 := box_below hw2 c3; have c4 := box_below hw2 c4; have HW := Below.trans0 HW hw2 HW.size; have HX := Below.trans0 HX hw2 HX.size)
          | (go_at_call 98; refine (provided_any cat[k].provides _ _ S _ (hprov.below HX) (hL.below HW)).mono ?_; rintro e w3 ⟨rfl, hw3⟩; rw [Hp.out]; have c0 := box_below hw3 c0; have c1 := box_below hw3 c1; have c2 := box_below hw3 c2; have c3 := box_below hw3 c3; have c4 := box_below hw3 c4; have HW := Below.trans0 HW hw3 HW.size; have HX := Below.trans0 HX hw3 HX.size)
          | (go_at_call 36; refine (checkC_any cat[k].clauses _ _ S _ (hcls.below HX) (hL.below HW)).mono ?_; rintro e w4 ⟨rfl, hw4⟩; rw [Hc.out]; have c0 := box_below hw4 c0; have c1 := box_below hw4 c1; have c2 := box_below hw4 c2; have c3 := box_below hw4 c3; have c4 := box_below hw4 c4; have HW := Below.trans0 HW hw4 HW.size; have HX := Below.trans0 HX hw4 HX.size)
          | (go_at_call 99; refine (ranked_any cat[k] [_, _, _, _, _] S _ (hrep.below HX) h4).mono ?_; rintro e w5 ⟨rfl, hw5⟩; have c0 := box_below hw5 c0; have c1 := box_below hw5 c1; have c2 := box_below hw5 c2; have c3 := box_below hw5 c3; have c4 := box_below hw5 c4; have HW := Below.trans0 HW hw5 HW.size; have HX := Below.trans0 HX hw5 HX.size)
          | (at_lookup; go_loud (refine wpList_lookup_set_g (by first | rfl | (simp [Region.wanted, yielded]; done))  _ _ 109 rfl 114 4 rankKeyed Tryz.underlying109 Tryz.underlying4 (zeroBool _) w.heap.size k _ rfl (hset.below HX) (rankV cat[k]) rfl hkey _ Hr ?_))
          | (at_mapUpdate; go_loud (refine wpList_put_set rfl _ _ _ 109 rfl 114 4 rankKeyed Tryz.underlying109 Tryz.underlying4 w.heap.size k _ rfl (hset.below HX) (by unfold maxLen; omega) (rankV cat[k]) rfl rfl hkey ?_); intro w7 hset7 hg7)
          | go_in)
                  go_ret
                  exact ⟨ret_int (by rw [fin.out]; rfl), HW⟩
      · have fin := Lib.hid (show planOk cat = true by unfold planOk; rw [To.all hlt hj.out, decide_eq_true (by omega)]; rfl)
        go_wp2
        go_ret
        exact ⟨ret_int (by rw [fin.out]; rfl), hB⟩

end Go.Proofs.YtppbjmhllmaakaaGreatDoor
