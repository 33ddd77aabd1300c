/- Contracts: the search's open, and the closures of hopeless. -/
import Derived.Test.YtppbjmhllmaakaaGreatDoorC40
set_option linter.unusedVariables false
namespace Go.Proofs.YtppbjmhllmaakaaGreatDoor
open Go.RowKit

set_option maxHeartbeats 2000000 in
theorem openS_any (h0 h1 bs : Nat) (k : Work) (s : Int) (v : Value) (l : List Int) (w : World) (c : Clause) (vc : List Value) (U : Nat → Prop) (frm : Nat) (own : Int) (hS : Srch w h0 h1 3 bs k s v l) (hl : Up k.cat.length 0 l) (hr : Cd.rep w U c vc) (hb64 : In64 own) (hf : frm ≤ k.cat.length) :
    Calls Tryz.prog 135 #[.pointer (some ⟨bs, 0, none⟩), .agg vc.toArray, .int .i64 frm, .int .i64 own] w fun e w' => e = .returned (.bool (openS k.cat l c frm own)) ∧ Below w.heap.size w w' := by
  obtain ⟨C, cc, rfl, hC⟩ := hr
  have hlt := hS.lt
  have HW : Below w.heap.size w (w.alloc (.cells #[.bool c.neg, .slice C c.any.length cc] 48)) := (Below.refl _ _).alloc (Nat.le_refl _) _
  have d0 : (w.alloc (.cells #[.bool c.neg, .slice C c.any.length cc] 48)).cell? ⟨w.heap.size, 0, none⟩ = some (.bool c.neg) := laid_new
  have d1 : (w.alloc (.cells #[.bool c.neg, .slice C c.any.length cc] 48)).cell? ⟨w.heap.size, 1, none⟩ = some (.slice C c.any.length cc) := laid_new
  have zz : w.heap.size < (w.alloc (.cells #[.bool c.neg, .slice C c.any.length cc] 48)).heap.size := by simp
  have hS2 := hS.below HW
  have hC2 := hC.below HW
  have c0 := hS2.c0
  have hlt2 := hS2.lt
  cases hn : c.neg
  · have fin := Lib.hid (show openS k.cat l c frm own = someS k.cat l c frm (-1) by unfold openS; rw [hn]; rfl)
    rw [hn] at d0 d1 HW zz hS2 hC2 c0 hlt2
    go_enter Tryz.func135, Tryz.ntmps135
    go_wp2_with fail
    refine (someS_any h0 h1 bs k s v l _ c false C cc U frm (-1) hS2 hl hC2 ⟨by omega, by omega⟩ hf).mono ?_
    rintro e w1 ⟨rfl, hw1⟩
    go_wp2
    go_ret
    exact ⟨ret_bool fin.out.symm, Below.trans0 HW hw1 HW.size⟩
  · have fin := Lib.hid (show openS k.cat l c frm own = !someS k.cat l c k.cat.length own by unfold openS; rw [hn]; rfl)
    rw [hn] at d0 d1 HW zz hS2 hC2 c0 hlt2
    go_enter Tryz.func135, Tryz.ntmps135
    go_wp2
    generalize w.alloc (.cells #[.bool true, .slice C c.any.length cc] 48) = w2 at *
    refine region_quiet (by kernel_rfl) (by kernel_rfl) ?_
    repeat (go_big_quiet_step ((go_at_call 168; exact call_quiet (someS_any h0 h1 bs k s v l _ c true C cc U k.cat.length own (hS2.below (ext_below _ _)) hl (hC2.below (ext_below _ _)) hb64 (Nat.le_refl _)))))
    refine wpQuiet_nil ?_
    intro W1 hw1
    replace hw1 := below_of_ext hw1
    go_wp2
    go_ret
    exact ⟨ret_bool fin.out.symm, Below.trans0 HW hw1 HW.size⟩

theorem entersH1 : ∀ args w, (callFunc 134 args).run Tryz.prog w = .ok (.enter 134 args) w := enters_of Tryz.func134 (by kernel_rfl) rfl
theorem entersH2 : ∀ args w, (callFunc 136 args).run Tryz.prog w = .ok (.enter 136 args) w := enters_of Tryz.func136 (by kernel_rfl) rfl

set_option maxHeartbeats 1000000 in
theorem hope1_pred (h0 h1 bs : Nat) (k : Work) (s : Int) (v : Value) (l : List Int) (w : World) (sb fb kb : Nat) (U : Nat → Prop) (frm : Nat) (own : Int) (cl : List Clause) (hS : Srch w h0 h1 3 bs k s v l) (hl : Up k.cat.length 0 l) (hb64 : In64 own) (hf : frm ≤ k.cat.length)
    (g0 : w.cell? ⟨sb, 0, none⟩ = some (.pointer (some ⟨bs, 0, none⟩))) (g1 : w.cell? ⟨fb, 0, none⟩ = some (.int .i64 frm)) (g2 : w.cell? ⟨kb, 0, none⟩ = some (.int .i64 own)) :
    Pred 134 #[.pointer (some ⟨sb, 0, none⟩), .pointer (some ⟨fb, 0, none⟩), .pointer (some ⟨kb, 0, none⟩)] w U (fun c => !openS k.cat l c frm own) cl := by
  intro x hx W vs hb hr
  have hr' := hr
  obtain ⟨C, cc, rfl, hC⟩ := hr'
  replace g0 := box_below hb g0
  replace g1 := box_below hb g1
  replace g2 := box_below hb g2
  have z0 : sb < W.heap.size := World.block_lt_of_cell? W ⟨sb, 0, none⟩ g0
  have z1 : fb < W.heap.size := World.block_lt_of_cell? W ⟨fb, 0, none⟩ g1
  have z2 : kb < W.heap.size := World.block_lt_of_cell? W ⟨kb, 0, none⟩ g2
  have HW : Below W.heap.size W (W.alloc (.cells #[.bool x.neg, .slice C x.any.length cc] 48)) := (Below.refl _ _).alloc (Nat.le_refl _) _
  have hS2 := (hS.below hb).below HW
  have hr2 := Cd.below HW hr
  go_enter Tryz.func134, Tryz.ntmps134
  go_wp2_with fail
  refine (openS_any h0 h1 bs k s v l _ x [_, _] U frm own hS2 hl hr2 hb64 hf).mono ?_
  rintro e w1 ⟨rfl, hw1⟩
  go_wp2
  go_ret
  exact ⟨rfl, Below.trans0 HW hw1 HW.size⟩

set_option maxHeartbeats 1000000 in
theorem hope2_pred (h0 h1 bs : Nat) (k : Work) (s : Int) (v : Value) (l : List Int) (w : World) (sb fb : Nat) (U : Nat → Prop) (frm : Nat) (cl : List Clause) (hS : Srch w h0 h1 3 bs k s v l) (hl : Up k.cat.length 0 l) (hf : frm ≤ k.cat.length)
    (g0 : w.cell? ⟨sb, 0, none⟩ = some (.pointer (some ⟨bs, 0, none⟩))) (g1 : w.cell? ⟨fb, 0, none⟩ = some (.int .i64 frm)) :
    Pred 136 #[.pointer (some ⟨sb, 0, none⟩), .pointer (some ⟨fb, 0, none⟩)] w U (fun c => !openS k.cat l c frm (-1)) cl := by
  intro x hx W vs hb hr
  have hr' := hr
  obtain ⟨C, cc, rfl, hC⟩ := hr'
  replace g0 := box_below hb g0
  replace g1 := box_below hb g1
  have z0 : sb < W.heap.size := World.block_lt_of_cell? W ⟨sb, 0, none⟩ g0
  have z1 : fb < W.heap.size := World.block_lt_of_cell? W ⟨fb, 0, none⟩ g1
  have HW : Below W.heap.size W (W.alloc (.cells #[.bool x.neg, .slice C x.any.length cc] 48)) := (Below.refl _ _).alloc (Nat.le_refl _) _
  have hS2 := (hS.below hb).below HW
  have hr2 := Cd.below HW hr
  go_enter Tryz.func136, Tryz.ntmps136
  go_wp2_with fail
  refine (openS_any h0 h1 bs k s v l _ x [_, _] U frm (-1) hS2 hl hr2 ⟨by omega, by omega⟩ hf).mono ?_
  rintro e w1 ⟨rfl, hw1⟩
  go_wp2
  go_ret
  exact ⟨rfl, Below.trans0 HW hw1 HW.size⟩

end Go.Proofs.YtppbjmhllmaakaaGreatDoor
