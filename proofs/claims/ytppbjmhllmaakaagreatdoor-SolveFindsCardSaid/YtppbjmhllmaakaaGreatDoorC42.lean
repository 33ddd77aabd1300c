/- Contract: the search's hopeless. -/
import Derived.Test.YtppbjmhllmaakaaGreatDoorC41
set_option linter.unusedVariables false
namespace Go.Proofs.YtppbjmhllmaakaaGreatDoor
open Go.RowKit

theorem two0 {w : World} {xs : Array Value} {t : TypeId} {o2 : Obj} {j : Nat} : ((w.alloc (.cells xs t)).alloc o2).cell? ⟨w.heap.size, j, none⟩ = xs[j]? :=
  (laid_old (by rw [size_alloc]; omega)).trans laid_new
theorem two1 {w : World} {xs : Array Value} {t : TypeId} {o1 : Obj} {j : Nat} : ((w.alloc o1).alloc (.cells xs t)).cell? ⟨w.heap.size + 1, j, none⟩ = xs[j]? := by
  rw [← size_alloc w o1]
  exact laid_new
theorem bad_none {cat : List Pkg} {S : List Int} {k : Nat} {n : Nat} (hn : ¬ n < S.length) (h : ∀ q, q < n → badS cat S k q = false) : (List.range S.length).any (badS cat S k) = false := by
  rw [List.any_eq_false]
  intro q hq
  have := List.mem_range.1 hq
  rw [h q (by omega)]; simp
theorem bad_some {cat : List Pkg} {S : List Int} {k : Nat} {n : Nat} (hn : n < S.length) (h : badS cat S k n = true) : (List.range S.length).any (badS cat S k) = true := by
  rw [List.any_eq_true]
  exact ⟨n, List.mem_range.2 hn, h⟩
/-- Two names that are the same? -/
def sameN (cat : List Pkg) (a b : Int) : Bool := decide ((at0 cat b).name = (at0 cat a).name)
theorem twice_take {cat : List Pkg} {S : List Int} {i q : Nat} (hi : i < S.length) (hq : q < i) : ((S.take (q + 1)).any fun j => sameN cat S[i] j) = (((S.take q).any fun j => sameN cat S[i] j) || sameN cat S[i] (S[q]'(by omega))) := by
  rw [← List.take_append_getElem (show q < S.length by omega), List.any_append]; simp
theorem twiceS_eq {cat : List Pkg} {S : List Int} {i : Nat} (hi : i < S.length) : twiceS cat S i = (S.take i).any fun j => sameN cat S[i] j := by
  unfold twiceS sameN
  rw [show S.getD i 0 = S[i] by rw [List.getD, List.getElem?_eq_getElem hi]; rfl]
theorem take_any {cat : List Pkg} {S : List Int} {i q : Nat} (hi : i < S.length) (hq : q < i) (h : sameN cat S[i] (S[q]'(by omega)) = true) : twiceS cat S i = true := by
  rw [twiceS_eq hi, List.any_eq_true]
  exact ⟨S[q], List.mem_take_iff_getElem.2 ⟨q, by omega, rfl⟩, h⟩
theorem stuckS_eq {cat : List Pkg} {S : List Int} {k i : Nat} (hi : i < S.length) : stuckS cat S k i = (at0 cat S[i]).clauses.any fun c => !openS cat S c k S[i] := by
  unfold stuckS
  rw [show S.getD i 0 = S[i] by rw [List.getD, List.getElem?_eq_getElem hi]; rfl]

set_option maxHeartbeats 0 in
set_option maxRecDepth 100000 in
theorem hopeless_any (h0 h1 bs : Nat) (k : Work) (s : Int) (v : Value) (l : List Int) (w : World) (frm : Nat) (hS : Srch w h0 h1 3 bs k s v l) (hl : Up k.cat.length 0 l) (hf : frm ≤ k.cat.length) :
    Calls Tryz.prog 101 #[.pointer (some ⟨bs, 0, none⟩), .int .i64 frm] w fun e w' => e = .returned (.bool (hopeS k.cat l k.want frm)) ∧ Below w.heap.size w w' := by
  have hcl := hS.ac.len
  obtain ⟨A', c', rfl⟩ := hS.own.form
  have hll : l.length ≤ k.cat.length := tgt_len (tgt_up.2 hl)
  have hby := hS.ac.1
  have hAl : ∃ S', Arr w S' A' l ∧ l.length ≤ c' := by
    obtain ⟨A2, c2, e2, hr, hc⟩ := hS.own.rep2 (S' := fun _ => True) (fun b _ h => h.elim) (fun b _ _ => trivial) (by change l.length * 8 ≤ _; change _ * 104 ≤ _ at hby; omega) (by omega)
    cases e2
    exact ⟨_, hr, hc⟩
  obtain ⟨S', hAl, hcap⟩ := hAl
  have hlt := hS.lt
  have HW : Below w.heap.size w ((w.alloc (.cells #[.pointer (some ⟨bs, 0, none⟩)] 68)).alloc (.cells #[.int .i64 frm] 3)) := by (repeat (first | exact Below.refl _ _ | assumption | (refine Below.setCell ?_ (by first | omega | (simp; done) | (simp; omega) | exact Below.size (by assumption)) _) | (refine Below.alloc ?_ (by first | omega | (simp; done) | (simp; omega) | exact Below.size (by assumption)) _) | refine Below.drew ?_ | refine Below.trans0 ?_ (by assumption)))
  have b0 : ((w.alloc (.cells #[.pointer (some ⟨bs, 0, none⟩)] 68)).alloc (.cells #[.int .i64 frm] 3)).cell? ⟨w.heap.size, 0, none⟩ = some (.pointer (some ⟨bs, 0, none⟩)) := two0
  have b1 : ((w.alloc (.cells #[.pointer (some ⟨bs, 0, none⟩)] 68)).alloc (.cells #[.int .i64 frm] 3)).cell? ⟨w.heap.size + 1, 0, none⟩ = some (.int .i64 frm) := two1
  have hS2 := hS.below HW
  have hA2 := hAl.below HW
  have c5 := hS2.c5
  have c2 := hS2.c2
  have c0 := hS2.c0
  have z2 := hS2.lt
  go_enter Tryz.func101, Tryz.ntmps101
  go_wp2
  have z0 : w.heap.size < ((w.alloc (.cells #[.pointer (some ⟨bs, 0, none⟩)] 68)).alloc (.cells #[.int .i64 frm] 3)).heap.size := by rw [size_alloc, size_alloc]; omega
  have z1 : w.heap.size + 1 < ((w.alloc (.cells #[.pointer (some ⟨bs, 0, none⟩)] 68)).alloc (.cells #[.int .i64 frm] 3)).heap.size := by rw [size_alloc, size_alloc]; omega
  generalize (w.alloc (.cells #[.pointer (some ⟨bs, 0, none⟩)] 68)).alloc (.cells #[.int .i64 frm] 3) = w2 at *
  generalize hsb : w.heap.size = sb at *
  generalize hfb : sb + 1 = fb at *
  have hBB : ∀ {W : World}, Below w2.heap.size w2 W → Below w.heap.size w W := fun h => by rw [hsb]; exact Below.trans0 HW h (Nat.le_of_lt z0)
  go_loopw [14] (fun i wr => Below w2.heap.size w2 wr ∧ ∃ m : Nat, m ≤ l.length ∧ i = .int .i64 m ∧ Hid (∀ q, q < m → badS k.cat l frm q = false)) (fun i _ => l.length - (intOf i).toNat)
  case atStart => exact ⟨Below.refl _ _, 0, Nat.zero_le _, rfl, Lib.hid (fun q h => by omega)⟩
  case round =>
    obtain ⟨hb, m, hm, rfl, hj⟩ := hrel
    by_cases hltm : m < l.length
    · have hSr := hS2.below hb
      have hAr := hA2.below hb
      obtain ⟨b, o, rfl, hb0, hs0, hc0⟩ := hAr.getI m hltm
      have hmm := up_mem hl l[m] (List.getElem_mem hltm)
      have m0 : (0 : Int) ≤ l[m] := hmm.1
      have m1 : l[m] < k.cat.length := hmm.2
      have m2 : l[m].toNat < k.cat.length := by omega
      have hm' : (m : Int) < l.length := by omega
      have hmc : (m : Int) ≤ c' := by omega
      have hmz : (0 : Int) ≤ (m : Int) := by omega
      have HX : Below wr.heap.size wr (wr.alloc (.cells #[.int .i64 l[m]] 3)) := by (repeat (first | exact Below.refl _ _ | assumption | (refine Below.setCell ?_ (by first | omega | (simp; done) | (simp; omega) | exact Below.size (by assumption)) _) | (refine Below.alloc ?_ (by first | omega | (simp; done) | (simp; omega) | exact Below.size (by assumption)) _) | refine Below.drew ?_ | refine Below.trans0 ?_ (by assumption)))
      have kb : (wr.alloc (.cells #[.int .i64 l[m]] 3)).cell? ⟨wr.heap.size, 0, none⟩ = some (.int .i64 l[m]) := laid_new
      have kz : wr.heap.size < (wr.alloc (.cells #[.int .i64 l[m]] 3)).heap.size := World.block_lt_of_cell? _ ⟨wr.heap.size, 0, none⟩ kb
      have hSx := hSr.below HX
      have hAx := hAr.below HX
      have d0 := box_below HX (box_below hb b0)
      have d1 := box_below HX (box_below hb b1)
      have d5 := hSx.c5
      have hcw := box_below hb b0
      have hbw : sb < wr.heap.size := Nat.lt_of_lt_of_le z0 hb.size
      have hbw2 : bs < wr.heap.size := Nat.lt_of_lt_of_le z2 hb.size
      have c5w := hSr.c5
      go_wp2
      generalize wr.alloc (.cells #[.int .i64 l[m]] 3) = w4 at *
      have HB4 : Below w2.heap.size w2 w4 := Below.trans0 hb HX hb.size
      clear HX hSr hAr hcw c5w hbw hbw2 hc0 d5
      have d0z : sb < w4.heap.size := Nat.lt_of_lt_of_le z0 HB4.size
      have hb4 : b < w4.heap.size := Nat.lt_of_lt_of_le hb0 (by omega)
      generalize wr.heap.size = kbx at *
      clear hb hb0
      obtain ⟨p1, q1, B1, cb1, C1, cc1, D1, cd1, hA1e, hp1, f0, -, -, -, -, -, -, -, hcl1⟩ := hSx.ac.getPkg l[m].toNat m2
      have hat := Lib.hid (at0_get m0 m1)
      have hclr := hcl1
      have hkA := hSx.c0
      rw [hA1e] at hkA
      go_loopw [8, 26] (fun a j wr => Below w4.heap.size w4 wr ∧ ∃ q : Nat, q ≤ m ∧ j = .int .i64 q ∧ Hid (((l.take q).any fun j => sameN k.cat l[m] j) = false)) (fun _ j _ => m - (intOf j).toNat)
      case atStart => exact ⟨Below.refl _ _, 0, Nat.zero_le _, rfl, Lib.hid rfl⟩
      case round =>
        obtain ⟨hb, q, hq, rfl, ht⟩ := hrel
        by_cases hqm : q < m
        · have hq' : (q : Int) < m := by omega
          have hql : q < l.length := by omega
          obtain ⟨b', o', e, hb9, hs9, hc9⟩ := (hAx.below hb).getI q hql
          cases e
          have hqq := up_mem hl l[q] (List.getElem_mem hql)
          have q0 : (0 : Int) ≤ l[q] := hqq.1
          have q1' : l[q] < k.cat.length := hqq.2
          have q2 : l[q].toNat < k.cat.length := by omega
          obtain ⟨p2, r2, B3, cb3, C3, cc3, D3, cd3, e, hp3, g0, -⟩ := (hSx.below hb).ac.getPkg l[q].toNat q2
          rw [hA1e] at e
          cases e
          have hat2 := Lib.hid (at0_get q0 q1')
          have htk := Lib.hid (twice_take (cat := k.cat) hltm hqm)
          have f0' := box_below hb f0
          have d0' := box_below hb d0
          have kb' := box_below hb kb
          have kA' := box_below hb hkA
          have y0 : sb < wr.heap.size := Nat.lt_of_lt_of_le d0z hb.size
          have y1 : kbx < wr.heap.size := Nat.lt_of_lt_of_le kz hb.size
          have y2 : bs < wr.heap.size := World.block_lt_of_cell? wr ⟨bs, 0, none⟩ kA'
          cases he : (k.cat[l[q].toNat].name.toList == k.cat[l[m].toNat].name.toList)
          · have fin : Hid (((l.take (q + 1)).any fun j => sameN k.cat l[m] j) = false) := Lib.hid (by
              rw [htk.out, ht.out, Bool.false_or]
              unfold sameN
              rw [hat.out, hat2.out, decide_eq_false (sne_of he)])
            go_wp2
            refine region_quiet (by kernel_rfl) (by kernel_rfl) ?_
            repeat (go_big_quiet_step (fail))
            refine wpQuiet_nil ?_
            intro W1 hw1
            replace hw1 := below_of_ext hw1
            go_wp2
            go_roundw
            case rel => exact ⟨Below.trans0 hb hw1 hb.size, q + 1, by omega, by go_num, fin⟩
            case measure => simp [intOf]; omega
          · have fin : Hid (hopeS k.cat l k.want frm = true) := Lib.hid (by
              unfold hopeS
              rw [bad_some hltm (by unfold badS; rw [take_any hltm hqm (by unfold sameN; rw [hat.out, hat2.out, decide_eq_true (seq_of he)])]; rfl)]; rfl)
            go_wp2
            refine region_quiet (by kernel_rfl) (by kernel_rfl) ?_
            repeat (go_big_quiet_step (fail))
            refine wpQuiet_nil ?_
            intro W1 hw1
            replace hw1 := below_of_ext hw1
            go_wp2
            go_ret
            exact ⟨ret_bool fin.out.symm, hBB (Below.trans0 HB4 (Below.trans0 hb hw1 hb.size) HB4.size)⟩
        · have htw : Hid (twiceS k.cat l m = false) := Lib.hid (by
            rw [twiceS_eq hltm]
            have h1 := ht.out
            rw [show q = m from by omega] at h1
            exact h1)
          have hSw := hSx.below hb
          obtain ⟨p2, r2, B3, cb3, C3, cc3, D3, cd3, e, hp3, g0, g1, g2, g3, g4, -, -, -, hcl3⟩ := hSw.ac.getPkg l[m].toNat m2
          rw [hA1e] at e
          cases e
          have d0' := box_below hb d0
          have d1' := box_below hb d1
          have kb' := box_below hb kb
          have kA' := box_below hb hkA
          have y0 : sb < wr.heap.size := Nat.lt_of_lt_of_le d0z hb.size
          have y1 : kbx < wr.heap.size := Nat.lt_of_lt_of_le kz hb.size
          have y2 : bs < wr.heap.size := World.block_lt_of_cell? wr ⟨bs, 0, none⟩ kA'
          have hse := Lib.hid (stuckS_eq (cat := k.cat) (k := frm) hltm)
          cases hst : stuckS k.cat l frm m
          · have hval : Hid ((k.cat[l[m].toNat].clauses.any fun c => !openS k.cat l c frm l[m]) = false) := Lib.hid (by rw [← hst, hse.out, hat.out])
            have fin : Hid (∀ q, q < m + 1 → badS k.cat l frm q = false) := Lib.hid (fun q hq => by
              by_cases e : q = m
              · subst e; unfold badS; rw [htw.out, hst]; rfl
              · exact hj.out q (by omega))
            clear hst
            go_wp2
            refine region_quiet (by kernel_rfl) (by kernel_rfl) ?_
            repeat (go_big_quiet_step ((go_at_call 58; exact call_quiet ((containsClause_any k.cat[l[m].toNat].clauses (fun c => !openS k.cat l c frm l[m]) _ _ _ _ (fun b => b < h0) _ entersH1 (hcl3.below (ext_below _ _)) (hope1_pred h0 h1 bs k s _ l _ sb fb kbx (fun b => b < h0) frm l[m] _ (hSw.below (ext_below _ _)) hl hs0 hf (box_below (ext_below _ _) d0') (box_below (ext_below _ _) d1') (box_below (ext_below _ _) kb'))).mono fun e W ⟨he, hw⟩ => ⟨he.trans (ret_bool hval.out), hw⟩))))
            refine wpQuiet_nil ?_
            intro W1 hw1
            replace hw1 := below_of_ext hw1
            go_wp2
            go_roundw
            case rel => exact ⟨Below.trans0 HB4 (Below.trans0 hb hw1 hb.size) HB4.size, m + 1, by omega, by go_num, fin⟩
            case measure => simp [intOf]; omega
          · have hval : Hid ((k.cat[l[m].toNat].clauses.any fun c => !openS k.cat l c frm l[m]) = true) := Lib.hid (by rw [← hst, hse.out, hat.out])
            have fin : Hid (hopeS k.cat l k.want frm = true) := Lib.hid (by
              unfold hopeS
              rw [bad_some hltm (by unfold badS; rw [hst, Bool.or_true])]; rfl)
            clear hst
            go_wp2
            refine region_quiet (by kernel_rfl) (by kernel_rfl) ?_
            repeat (go_big_quiet_step ((go_at_call 58; exact call_quiet ((containsClause_any k.cat[l[m].toNat].clauses (fun c => !openS k.cat l c frm l[m]) _ _ _ _ (fun b => b < h0) _ entersH1 (hcl3.below (ext_below _ _)) (hope1_pred h0 h1 bs k s _ l _ sb fb kbx (fun b => b < h0) frm l[m] _ (hSw.below (ext_below _ _)) hl hs0 hf (box_below (ext_below _ _) d0') (box_below (ext_below _ _) d1') (box_below (ext_below _ _) kb'))).mono fun e W ⟨he, hw⟩ => ⟨he.trans (ret_bool hval.out), hw⟩))))
            refine wpQuiet_nil ?_
            intro W1 hw1
            replace hw1 := below_of_ext hw1
            go_wp2
            go_ret
            exact ⟨ret_bool fin.out.symm, hBB (Below.trans0 HB4 (Below.trans0 hb hw1 hb.size) HB4.size)⟩
    · have hnone := Lib.hid (bad_none (cat := k.cat) hltm hj.out)
      have fin : Hid (hopeS k.cat l k.want frm = k.want.any fun c => !openS k.cat l c frm (-1)) := Lib.hid (by unfold hopeS; rw [hnone.out, Bool.false_or])
      have hSr := hS2.below hb
      have d0' := box_below hb b0
      have d1' := box_below hb b1
      have c2' := hSr.c2
      go_wp2_with fail
      refine (containsClause_any k.want (fun c => !openS k.cat l c frm (-1)) _ _ _ _ (fun b => b < h0) _ entersH2 hSr.aw (hope2_pred h0 h1 bs k s _ l _ sb fb (fun b => b < h0) frm _ hSr hl hf d0' d1')).mono ?_
      rintro e w5 ⟨rfl, hw5⟩
      go_wp2
      go_ret
      exact ⟨ret_bool fin.out.symm, hBB (Below.trans0 hb hw5 hb.size)⟩

end Go.Proofs.YtppbjmhllmaakaaGreatDoor
