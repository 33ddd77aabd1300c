/- Contract: slices.DeleteFunc of ints. -/
import Derived.Test.YtppbjmhllmaakaaGreatDoorC31
import Derived.Test.YtppbjmhllmaakaaGreatDoorC28
set_option linter.unusedVariables false
namespace Go.Proofs.YtppbjmhllmaakaaGreatDoor
open Go.RowKit

theorem wpList_clear {P : Program} {w w' : World} {ops : Array Oper} {rest : List Oper} {o : Oper} {a : Act} {Q : Exit → Act → World → Prop} (hgd : o.guard = none) (s : Operand) (t : TypeId)
    (ho : o.op = .call { callee := .builtin .clear, args := #[s], argTypes := #[t] }) (v : Value) (hs : a.eval s = v) (hrun : (Builtin.clear_ #[t] o.type #[v]).run P w = .ok (.tuple #[]) w')
    (h : wpList P ops Q rest (a.put o.dst (.tuple #[])) w') : wpList P ops Q (o :: rest) a w := by
  refine wpList_plain hgd fun K hK => ?_
  unfold Oper.wp
  simp [execOp, ho, resolve, invoke, builtin, hs, hrun, Result.andThen]
  exact hK _ _ h
theorem zeroInt (w : World) : (zeroValue 3).run Tryz.prog w = .ok (.int .i64 0) w := by kernel_rfl

set_option maxHeartbeats 0 in
set_option maxRecDepth 100000 in
theorem deleteInt_any (l : List Int) (p : Int → Bool) (gf : FuncId) (cs : Array Value) (g cap : Nat) (w0 : World) (B : Nat) (w : World) (eg : ∀ args w, (callFunc gf args).run Tryz.prog w = .ok (.enter gf args) w) (h0 : Below B w0 w) (hB : B ≤ g)
    (hr : RowI w g cap l) (hp : PredB gf cs w0 B p) (hi : ∀ x ∈ l, In64 x) (hby : l.length * 8 ≤ reach) :
    Calls Tryz.prog 108 #[.slice (some ⟨g, 0, none⟩) l.length cap, .func (.func gf) #[] cs] w fun e w' =>
      e = .returned (.slice (some ⟨g, 0, none⟩) (l.filter fun x => !p x).length cap) ∧ RowI w' g cap (l.filter fun x => !p x) ∧ w.grownBy w' (some g) := by
  have hl : l.length ≤ 17592186044404 := by unfold reach at hby; omega
  have hg := hr.lt
  have hBw : B ≤ w.heap.size := by omega
  have hcap : l.length ≤ cap := by obtain ⟨_, _, h, _⟩ := hr; exact h
  have HP := Lib.hid hp
  have EG := Lib.hid eg
  clear hp
  go_enter Tryz.func108, Tryz.ntmps108
  go_wp2_with fail
  refine (indexInt_any l p gf cs (some ⟨g, 0, none⟩) cap (fun _ => True) _ eg (hr.arr _ trivial hby hi) (fun x _ W hb hx => HP.out x W (h0.trans (hb.mono hBw)) hx)).mono ?_
  rintro e w1 ⟨hw1, r, rfl, hf⟩
  have h1 : Below B w0 w1 := h0.trans (hw1.mono hBw)
  have hr1 : RowI w1 g cap l := hr.below hw1 hg
  have hg1 : w.grownBy w1 (some g) := gb_of_below hw1
  rcases hf with ⟨rfl, hnone⟩ | ⟨k, hk, rfl, hpk, hall⟩
  · have hfl : (l.filter fun x => !p x) = l := by
      rw [List.filter_eq_self]
      intro x hx
      rw [List.any_eq_false] at hnone
      have := hnone x hx
      simpa using this
    have Hfl := Lib.hid hfl
    clear hfl hnone hw1
    go_wp2
    go_ret
    exact ⟨by rw [Hfl.out]; rfl, by rw [Hfl.out]; exact hr1, hg1⟩
  · have d0 : Hid (DelAt p l l k (k + 1)) := Lib.hid ⟨rfl, by omega, by
      rw [← List.take_append_getElem hk, List.filter_append]
      simp only [List.filter_cons, hpk, Bool.not_true, Bool.false_eq_true, if_false, List.filter_nil, List.append_nil]
      exact (List.filter_eq_self.2 hall).symm, fun _ _ => rfl⟩
    have hk1 : ¬ (k : Int) = -1 := by omega
    have hk2 : ((k : Int) == -1) = false := beq_eq_false_iff_ne.2 hk1
    clear hall hpk hw1 hr
    go_wp2
    go_loopw [5, 6] (fun i j wr => w1.grownBy wr (some g) ∧ Below B w0 wr ∧ ∃ (a b : Nat) (L : List Int), a < b ∧ b ≤ l.length ∧ i = .int .i64 a ∧ j = .int .i64 b ∧ Hid (DelAt p l L a b) ∧ RowI wr g cap L) (fun _ j _ => l.length - (intOf j).toNat)
    case atStart => exact ⟨gb_refl _ _, h1, k, k + 1, l, by omega, by omega, rfl, by go_num, d0, hr1⟩
    case round =>
      obtain ⟨hgw, hbw, a, b, L, hab, hbl, rfl, rfl, hd, hrow⟩ := hrel
      have hLl := hd.out.len
      have hgr := hrow.lt
      by_cases hlt : b < l.length
      · have hLb : L[b]'(by omega) = l[b] := by
          have := hd.out.rest b (Nat.le_refl _)
          rw [List.getElem?_eq_getElem (by omega), List.getElem?_eq_getElem hlt] at this
          exact Option.some.inj this
        obtain ⟨hcb, -⟩ := hrow.at b (by omega)
        rw [hLb] at hcb
        cases hv : p l[b]
        · have Hv := Lib.hid hv
          have hd' := Lib.hid (hd.out.yes hlt hab hv)
          clear hv
          go_wp2_with fail
          refine (HP.out l[b] _ (by first | exact hbw | exact hbw.drew) (hi _ (List.getElem_mem hlt))).mono ?_
          rintro e w2 ⟨rfl, hw2⟩
          rw [Hv.out]
          have hrow2 : RowI w2 g cap L := hrow.below hw2 hgr
          obtain ⟨hca, hfa⟩ := hrow2.at a (by omega)
          have hgr2 : g < w2.heap.size := hrow2.lt
          have hb2 : Below B w0 w2 := hbw.trans (hw2.mono (by omega))
          have hg2 : w1.grownBy w2 (some g) := gb_below hgw hw2 hgw.size
          go_wp2
          go_roundw
          case rel => exact ⟨gb_trans hg2 (gb_set _ _ _ _), hb2.setCell hB _, a + 1, b + 1, L.set a l[b], by omega, by omega, by go_num, by go_num, hd', hrow2.set a (by omega) _⟩
          case measure => simp [intOf]; omega
        · have Hv := Lib.hid hv
          have hd' := Lib.hid (hd.out.no hlt hv)
          clear hv
          go_wp2_with fail
          refine (HP.out l[b] _ (by first | exact hbw | exact hbw.drew) (hi _ (List.getElem_mem hlt))).mono ?_
          rintro e w2 ⟨rfl, hw2⟩
          rw [Hv.out]
          have hrow2 : RowI w2 g cap L := hrow.below hw2 hgr
          have hb2 : Below B w0 w2 := hbw.trans (hw2.mono (by omega))
          have hg2 : w1.grownBy w2 (some g) := gb_below hgw hw2 hgw.size
          go_wp2
          go_roundw
          case rel => exact ⟨hg2, hb2, a, b + 1, L, by omega, by omega, rfl, by go_num, hd', hrow2⟩
          case measure => simp [intOf]; omega
      · have hbe : b = l.length := by omega
        subst hbe
        have hfl : Hid (L.take a = l.filter fun x => !p x) := Lib.hid (by rw [hd.out.kept, List.take_length])
        have hfn : Hid ((l.filter fun x => !p x).length = a) := Lib.hid (by rw [← hfl.out, List.length_take]; omega)
        have hcells : ∀ j, j < l.length - a → (wr.cell? ⟨g, a + j, none⟩).isSome = true := fun j hj => by rw [(hrow.at (a + j) (by omega)).1]; rfl
        have hfro : ∀ j, j < l.length - a → wr.frozen? ⟨g, a + j, none⟩ = false := fun j hj => (hrow.at (a + j) (by omega)).2
        have hrun : ∀ ty, (Builtin.clear_ #[23] ty #[.slice (some ⟨g, a, none⟩) (l.length - a) (cap - a)]).run Tryz.prog wr = .ok (.tuple #[]) (wr.setCells g a (List.replicate (l.length - a) (.int .i64 0))) := fun ty =>
          Lib.run_clear_slice wr 23 3 ty (.int .i64 0) Tryz.underlying23 zeroInt rfl rfl g a (l.length - a) (cap - a) (by omega) hcells hfro
        have a1 : (0 : Int) ≤ a := by omega
        have a2 : (a : Int) ≤ l.length := by omega
        have a3 : (l.length : Int) ≤ cap := by omega
        have a4 : ¬ (a : Int) = cap := by omega
        have a5 : (a : Int) ≤ cap := by omega
        have a6 : ¬ a = cap := by omega
        have a7 : ¬ cap = a := by omega
        go_wp2
        go_ret
        refine ⟨by rw [hfn.out]; rfl, ?_, gb_trans hg1 (gb_trans hgw (gb_sets _ _ _ _))⟩
        rw [← hfl.out]
        exact RowI.pasts _ _ (hrow.take a) (by rw [List.length_take]; omega)

end Go.Proofs.YtppbjmhllmaakaaGreatDoor
