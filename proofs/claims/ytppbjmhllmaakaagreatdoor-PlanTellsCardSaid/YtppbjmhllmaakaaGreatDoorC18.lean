/- Contracts: plan.ranked, plan.provided. -/
import Derived.Test.YtppbjmhllmaakaaGreatDoorC10
import Derived.Test.YtppbjmhllmaakaaGreatDoorX6
import Derived.Laws.CopyOwn
set_option linter.unusedVariables false
namespace Go.Proofs.YtppbjmhllmaakaaGreatDoor
open Go.RowKit

theorem setRow_new (W : World) (cur new : Array Value) (t : TypeId) : (W.alloc (.cells cur t)).setRow W.heap.size new = W.alloc (.cells new t) := by
  unfold World.setRow World.alloc
  simp only [World.mk.injEq, and_true]
  apply Array.ext_getElem?
  intro i
  rw [Array.getElem?_modify]
  by_cases h : W.heap.size = i
  · subst h; simp
  · rw [if_neg h]
    by_cases h2 : i < W.heap.size
    · rw [Array.getElem?_push_lt h2, Array.getElem?_push_lt h2]
    · rw [Array.getElem?_eq_none (by simp; omega), Array.getElem?_eq_none (by simp; omega)]
/-- copy, into the block that was made last, as one step of a region that draws its order. -/
theorem step_copy_new {P : Program} {W : World} {w : World} {ops : Array Oper} {o : Oper} {a : Act} {K : Act → World → Prop} {Q : Exit → Act → World → Prop} {E : Prop} (hgd : o.guard = none) (d s : Operand) (dT sT : TypeId)
    (ho : o.op = .call { callee := .builtin .copy, args := #[d, s], argTypes := #[dT, sT] }) (elem : TypeId) (hu : P.underlying dT = some (.slice elem)) (hsz : (P.info? elem).map (·.size) = some 1)
    (cur : List Value) (t : TypeId) (hw : w = (W.alloc (.cells cur.toArray t)).drew) (g : Nat) (hgg : W.heap.size = g) (off dLen dCap : Nat) (sp : Option Addr) (sLen sCap : Nat) (hd : a.eval d = .slice (some ⟨g, off, none⟩) dLen dCap) (hs : a.eval s = .slice sp sLen sCap)
    (cs : List Value) (hn : cs.length = Nat.min sLen dLen) (hsrc : 0 < cs.length → ∃ ad, sp = some ad ∧ ∀ j v, cs[j]? = some v → w.cell? (ad.add j) = some v)
    (hfit : off + cs.length ≤ cur.length) (h1 : ∀ v ∈ cs, v.oneCell' = true) (x : Int) (hx : x = cs.length)
    (h : K (a.put o.dst (.int .i64 x)) (W.alloc (.cells (splice cur off cs).toArray t)).drew) :
    if Region.wanted o (yielded ops a.tmps) = true then Oper.wp P o a w K Q else E := by
  have hwd : Region.wanted o (yielded ops a.tmps) = true := by simp [Region.wanted, hgd]
  rw [if_pos hwd]
  subst hx
  subst hgg
  have hrun : (Builtin.copy_ #[dT, sT] o.type #[.slice (some ⟨W.heap.size, off, none⟩) dLen dCap, .slice sp sLen sCap]).run P w = .ok (goInt cs.length) (W.alloc (.cells (splice cur off cs).toArray t)).drew := by
    by_cases h0 : cs.length = 0
    · obtain rfl : cs = [] := List.eq_nil_of_length_eq_zero h0
      have := run_copy_none (P := P) w dT sT o.type elem (some ⟨W.heap.size, off, none⟩) sp dLen dCap sLen sCap hu hsz (by simpa using hn.symm)
      rw [this, hw]
      simp [splice]
    · obtain ⟨ad, rfl, hsrc2⟩ := hsrc (by omega)
      have hg : w.heap[W.heap.size]? = some (.cells cur.toArray t (0, 0)) := by rw [hw]; exact (MapKept.heap_alloc W _).1
      rw [run_copy_row (P := P) w dT sT o.type elem W.heap.size off dLen dCap ad sLen sCap cur.toArray t cs hu hsz hg hn hsrc2 (by simpa using hfit) h1]
      have e1 := setRow_new W cur.toArray (splice cur off cs).toArray t
      rw [hw]
      congr 1
      have e2 : (W.alloc (.cells cur.toArray t)).drew.setRow W.heap.size (splice cur off cs).toArray = ((W.alloc (.cells cur.toArray t)).setRow W.heap.size (splice cur off cs).toArray).drew := rfl
      rw [e1] at e2
      simpa [splice] using e2
  unfold Oper.wp
  simp [execOp, ho, resolve, invoke, builtin, hd, hs, hrun, Result.andThen]
  exact h

theorem splice_parts (n t : Value) {l : List Int} (h : l.length ≤ 4) : splice [n, .int .i64 0, .int .i64 0, .int .i64 0, .int .i64 0, t] 1 (l.map (Value.int .i64)) = [n, .int .i64 (pt l 0), .int .i64 (pt l 1), .int .i64 (pt l 2), .int .i64 (pt l 3), t] := by
  match l, h with
  | [], _ => rfl
  | [_], _ => rfl
  | [_, _], _ => rfl
  | [_, _, _], _ => rfl
  | [_, _, _, _], _ => rfl

set_option maxHeartbeats 1000000 in
set_option maxRecDepth 100000 in
theorem ranked_any (p : Pkg) (va : List Value) (S : Nat → Prop) (w : World) (h : Cd.rep w S p va) (h4 : p.ver.parts.length ≤ 4) :
    Calls Tryz.prog 99 #[.agg va.toArray] w fun e w' => e = .returned (rankV p) ∧ Below w.heap.size w w' := by
  obtain ⟨A, ca, B, cb, C, cc, rfl, hn, ha, ht, hp, hc⟩ := h
  have hla := ha.len
  have hsp := Lib.hid (splice_parts (.string p.name) (.string p.ver.tail) h4)
  have hsrc : ∀ W : World, Below w.heap.size w W → 0 < (p.ver.parts.map (Value.int .i64)).length → ∃ ad, A = some ad ∧ ∀ j v, (p.ver.parts.map (Value.int .i64))[j]? = some v → W.cell? (ad.add j) = some v := by
    intro W hb h0
    have h0' : 0 < p.ver.parts.length := by simpa using h0
    obtain ⟨b, o, rfl, _⟩ := (ha.below hb).lt h0'
    refine ⟨_, rfl, fun j v hv => ?_⟩
    have hj : j < p.ver.parts.length := by simpa using (List.getElem?_eq_some_iff.1 hv).1
    obtain ⟨b', o', e, _, _, hc⟩ := (ha.below hb).getI j hj
    cases e
    have hv' : v = .int .i64 p.ver.parts[j] := by have := (List.getElem?_eq_some_iff.1 hv).2; rw [← this]; simp
    have e1 : (⟨b, o, none⟩ : Addr).add j = ⟨b, o + j, none⟩ := by unfold Addr.add; split <;> simp_all
    rw [hv', e1]
    exact hc
  go_enter Tryz.func99, Tryz.ntmps99
  go_wp2
  go_region_law (refine step_copy_new (W := (w.alloc (.cells #[.string p.name, .slice A p.ver.parts.length ca, .string p.ver.tail, .slice B p.provides.length cb, .slice C p.clauses.length cc] 36)).alloc (.cells #[.string ⟨#[]⟩, .int .i64 0, .int .i64 0, .int .i64 0, .int .i64 0, .string ⟨#[]⟩] 114)) rfl (.tmp 11) (.tmp 14) 23 23 rfl 3 Tryz.underlying23 (by kernel_rfl) [.string p.name, .int .i64 0, .int .i64 0, .int .i64 0, .int .i64 0, .string p.ver.tail] 114 rfl (w.heap.size + 1 + 1) (by simp) 1 4 4 A p.ver.parts.length ca rfl rfl (p.ver.parts.map (Value.int .i64)) (by rw [List.length_map]; exact (Nat.min_eq_left h4).symm) (hsrc _ (by (repeat (first | exact Below.refl _ _ | assumption | (refine Below.setCell ?_ (by first | omega | (simp; done) | (simp; omega) | exact Below.size (by assumption)) _) | (refine Below.alloc ?_ (by first | omega | (simp; done) | (simp; omega) | exact Below.size (by assumption)) _) | refine Below.drew ?_ | refine Below.trans0 ?_ (by assumption))))) (by rw [List.length_map]; simp; omega) (by simp [Value.oneCell']) _ rfl ?_; rw [hsp.out])
  all_goals
    go_wp2
    exact bodyPost_ret (v := rankV p) (by simp [results, Tryz.results99, go_sem, rankV]) rfl ⟨rfl, by (repeat (first | exact Below.refl _ _ | assumption | (refine Below.setCell ?_ (by first | omega | (simp; done) | (simp; omega) | exact Below.size (by assumption)) _) | (refine Below.alloc ?_ (by first | omega | (simp; done) | (simp; omega) | exact Below.size (by assumption)) _) | refine Below.drew ?_ | refine Below.trans0 ?_ (by assumption)))⟩

theorem provAt_eq {l : List ByteArray} {k : Nat} (hk : k < l.length) : provAt l k = (nameOk l[k] && (decide (k = 0) || Op.bytesLess (l[k - 1]'(by omega)).toList l[k].toList)) := by
  have h1 : k - 1 < l.length := by omega
  simp [provAt, List.getD, hk, h1]

set_option maxHeartbeats 2000000 in
theorem provided_any (l : List ByteArray) (A : Option Addr) (ca : Nat) (S : Nat → Prop) (w : World) (h : Arr w S A l) (hL : Laid w) :
    Calls Tryz.prog 98 #[.slice A l.length ca] w fun e w' => e = .returned (.bool (provOk l)) ∧ Below w.heap.size w w' := by
  have hl := h.len
  go_enter Tryz.func98, Tryz.ntmps98
  go_wp2
  go_loopw [2, 7] (fun r i wr => Below w.heap.size w wr ∧ ∃ k : Nat, k ≤ l.length ∧ i = .int .i64 k ∧ Hid (To (provAt l) k)) (fun _ i _ => l.length - (intOf i).toNat)
  case atStart => exact ⟨Below.refl _ _, 0, Nat.zero_le _, rfl, Lib.hid (To.zero _)⟩
  case round =>
    obtain ⟨hB, k, hk, rfl, hj⟩ := hrel
    by_cases hlt : k < l.length
    · obtain ⟨b, o, rfl, hb, hs, hcc⟩ := (h.below hB).getS k hlt
      have hat := Lib.hid (provAt_eq hlt)
      cases hn : nameOk l[k]
      · have Hn := Lib.hid hn
        clear hn
        have fin := Lib.hid (show provOk l = false by unfold provOk; rw [range_no hlt (by rw [hat.out, Hn.out]; rfl)]; simp)
        go_wp2_with (go_at_call 38; refine (name_any _ _ hs ((hL.below hB).below (by (repeat (first | exact Below.refl _ _ | assumption | (refine Below.setCell ?_ (by first | omega | (simp; done) | (simp; omega) | exact Below.size (by assumption)) _) | (refine Below.alloc ?_ (by first | omega | (simp; done) | (simp; omega) | exact Below.size (by assumption)) _) | refine Below.drew ?_ | refine Below.trans0 ?_ (by assumption)))))).mono ?_; rintro e w1 ⟨rfl, hw1⟩; rw [Hn.out])
        go_ret
        exact ⟨ret_bool fin.out.symm, by (repeat (first | exact Below.refl _ _ | assumption | (refine Below.setCell ?_ (by first | omega | (simp; done) | (simp; omega) | exact Below.size (by assumption)) _) | (refine Below.alloc ?_ (by first | omega | (simp; done) | (simp; omega) | exact Below.size (by assumption)) _) | refine Below.drew ?_ | refine Below.trans0 ?_ (by assumption)))⟩
      · have Hn := Lib.hid hn
        clear hn
        by_cases h0 : k = 0
        · have h0' : ¬ (0 : Int) < k := by omega
          have fin : Hid (To (provAt l) (k + 1)) := Lib.hid (hj.out.succ (by rw [hat.out, Hn.out, decide_eq_true h0]; rfl))
          clear h0
          go_wp2_with (go_at_call 38; refine (name_any _ _ hs ((hL.below hB).below (by (repeat (first | exact Below.refl _ _ | assumption | (refine Below.setCell ?_ (by first | omega | (simp; done) | (simp; omega) | exact Below.size (by assumption)) _) | (refine Below.alloc ?_ (by first | omega | (simp; done) | (simp; omega) | exact Below.size (by assumption)) _) | refine Below.drew ?_ | refine Below.trans0 ?_ (by assumption)))))).mono ?_; rintro e w1 ⟨rfl, hw1⟩; rw [Hn.out])
          have hB1 : Below w.heap.size w w1 := by (repeat (first | exact Below.refl _ _ | assumption | (refine Below.setCell ?_ (by first | omega | (simp; done) | (simp; omega) | exact Below.size (by assumption)) _) | (refine Below.alloc ?_ (by first | omega | (simp; done) | (simp; omega) | exact Below.size (by assumption)) _) | refine Below.drew ?_ | refine Below.trans0 ?_ (by assumption)))
          clear hw1 hcc hb hB
          go_roundw
          case rel => exact ⟨hB1, k + 1, by omega, by go_num, fin⟩
          case measure => simp [intOf]; omega
        · have hk1 : k - 1 < l.length := by omega
          have hk0 : (0 : Int) < k := by omega
          have e1 : IntKind.i64.wrap ((k : Int) - 1) = ((k - 1 : Nat) : Int) := by rw [IntWalk.i64_in _ (by omega)]; omega
          obtain ⟨b', o', e, hb', hs', hcc'⟩ := (h.below hB).getS (k - 1) hk1
          cases e
          cases hle : Op.bytesLess l[k - 1].toList l[k].toList
          · have fin := Lib.hid (show provOk l = false by unfold provOk; rw [range_no hlt (by rw [hat.out, Hn.out, hle, decide_eq_false h0]; rfl)]; simp)
            go_wp2_with (go_at_call 38; refine (name_any _ _ hs ((hL.below hB).below (by (repeat (first | exact Below.refl _ _ | assumption | (refine Below.setCell ?_ (by first | omega | (simp; done) | (simp; omega) | exact Below.size (by assumption)) _) | (refine Below.alloc ?_ (by first | omega | (simp; done) | (simp; omega) | exact Below.size (by assumption)) _) | refine Below.drew ?_ | refine Below.trans0 ?_ (by assumption)))))).mono ?_; rintro e w1 ⟨rfl, hw1⟩; rw [Hn.out]; obtain ⟨q1, q2⟩ := bcell hw1)
            go_ret
            exact ⟨ret_bool fin.out.symm, by (repeat (first | exact Below.refl _ _ | assumption | (refine Below.setCell ?_ (by first | omega | (simp; done) | (simp; omega) | exact Below.size (by assumption)) _) | (refine Below.alloc ?_ (by first | omega | (simp; done) | (simp; omega) | exact Below.size (by assumption)) _) | refine Below.drew ?_ | refine Below.trans0 ?_ (by assumption)))⟩
          · have fin : Hid (To (provAt l) (k + 1)) := Lib.hid (hj.out.succ (by rw [hat.out, Hn.out, hle]; simp))
            go_wp2_with (go_at_call 38; refine (name_any _ _ hs ((hL.below hB).below (by (repeat (first | exact Below.refl _ _ | assumption | (refine Below.setCell ?_ (by first | omega | (simp; done) | (simp; omega) | exact Below.size (by assumption)) _) | (refine Below.alloc ?_ (by first | omega | (simp; done) | (simp; omega) | exact Below.size (by assumption)) _) | refine Below.drew ?_ | refine Below.trans0 ?_ (by assumption)))))).mono ?_; rintro e w1 ⟨rfl, hw1⟩; rw [Hn.out]; obtain ⟨q1, q2⟩ := bcell hw1)
            have hB1 : Below w.heap.size w w1 := by (repeat (first | exact Below.refl _ _ | assumption | (refine Below.setCell ?_ (by first | omega | (simp; done) | (simp; omega) | exact Below.size (by assumption)) _) | (refine Below.alloc ?_ (by first | omega | (simp; done) | (simp; omega) | exact Below.size (by assumption)) _) | refine Below.drew ?_ | refine Below.trans0 ?_ (by assumption)))
            clear hw1 hcc hb hB q1 q2 hcc' hb'
            go_roundw
            case rel => exact ⟨hB1, k + 1, by omega, by go_num, fin⟩
            case measure => simp [intOf]; omega
    · have hall := Lib.hid (To.all hlt hj.out)
      by_cases h16 : l.length ≤ 16
      · have fin := Lib.hid (show provOk l = true by unfold provOk; rw [hall.out, decide_eq_true h16]; rfl)
        go_wp2
        go_ret
        exact ⟨ret_bool (by rw [fin.out]; simp; omega), hB⟩
      · have fin := Lib.hid (show provOk l = false by unfold provOk; rw [decide_eq_false h16]; rfl)
        go_wp2
        go_ret
        exact ⟨ret_bool (by rw [fin.out]; simp; omega), hB⟩

end Go.Proofs.YtppbjmhllmaakaaGreatDoor
