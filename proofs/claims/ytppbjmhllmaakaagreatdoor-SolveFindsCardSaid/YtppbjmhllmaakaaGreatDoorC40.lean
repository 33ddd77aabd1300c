/- Contracts: the search's some and open. -/
import Derived.Test.YtppbjmhllmaakaaGreatDoorC39
import Derived.Test.YtppbjmhllmaakaaGreatDoorC25a
import Derived.Test.YtppbjmhllmaakaaGreatDoorC19
set_option linter.unusedVariables false
namespace Go.Proofs.YtppbjmhllmaakaaGreatDoor
open Go.RowKit

theorem entersS11 : ∀ args w, (callFunc 208 args).run Tryz.prog w = .ok (.enter 208 args) w := enters_of Tryz.func208 (by kernel_rfl) rfl
theorem entersS1 : ∀ args w, (callFunc 207 args).run Tryz.prog w = .ok (.enter 207 args) w := enters_of Tryz.func207 (by kernel_rfl) rfl

set_option maxHeartbeats 1000000 in
theorem some11_pred (w : World) (S T : Nat → Prop) (l : List Need) (cat : List Pkg) (A : Option Addr) (ca sb kb bs : Nat) (kk : Int) (hA : Arr w T A cat)
    (h0 : w.cell? ⟨sb, 0, none⟩ = some (.pointer (some ⟨bs, 0, none⟩))) (h1 : w.cell? ⟨bs, 0, none⟩ = some (.slice A cat.length ca)) (h2 : w.cell? ⟨kb, 0, none⟩ = some (.int .i64 kk)) (k0 : 0 ≤ kk) (k1 : kk < cat.length) :
    Pred 208 #[.pointer (some ⟨sb, 0, none⟩), .pointer (some ⟨kb, 0, none⟩)] w S (fun n => meets n (at0 cat kk)) l := by
  intro x hx W vs hb hr
  have hr' := hr
  obtain ⟨A', ca', rfl, hn, ho, ha, hta⟩ := hr'
  have k2 : kk.toNat < cat.length := by omega
  rw [at0_get k0 k1]
  have hAW := hA.below hb
  obtain ⟨b, o, B2, cb2, C2, cc2, D2, cd2, rfl, hb0, e0, e1, e2, e3, e4, hrep, -, -, -⟩ := hAW.getPkg kk.toNat k2
  replace h0 := box_below hb h0
  replace h1 := box_below hb h1
  replace h2 := box_below hb h2
  have z0 : sb < W.heap.size := World.block_lt_of_cell? W ⟨sb, 0, none⟩ h0
  have z1 : bs < W.heap.size := World.block_lt_of_cell? W ⟨bs, 0, none⟩ h1
  have z2 : kb < W.heap.size := World.block_lt_of_cell? W ⟨kb, 0, none⟩ h2
  have HW : Below W.heap.size W (W.alloc (.cells #[.string x.name, .int .i64 x.op, .slice A' x.ver.parts.length ca', .string x.ver.tail] 51)) := (Below.refl _ _).alloc (Nat.le_refl _) _
  have d0 : (W.alloc (.cells #[.string x.name, .int .i64 x.op, .slice A' x.ver.parts.length ca', .string x.ver.tail] 51)).cell? ⟨W.heap.size, 0, none⟩ = some (.string x.name) := by simp
  have d1 : (W.alloc (.cells #[.string x.name, .int .i64 x.op, .slice A' x.ver.parts.length ca', .string x.ver.tail] 51)).cell? ⟨W.heap.size, 1, none⟩ = some (.int .i64 x.op) := by simp
  have d2 : (W.alloc (.cells #[.string x.name, .int .i64 x.op, .slice A' x.ver.parts.length ca', .string x.ver.tail] 51)).cell? ⟨W.heap.size, 2, none⟩ = some (.slice A' x.ver.parts.length ca') := by simp
  have d3 : (W.alloc (.cells #[.string x.name, .int .i64 x.op, .slice A' x.ver.parts.length ca', .string x.ver.tail] 51)).cell? ⟨W.heap.size, 3, none⟩ = some (.string x.ver.tail) := by simp
  have zz : W.heap.size < (W.alloc (.cells #[.string x.name, .int .i64 x.op, .slice A' x.ver.parts.length ca', .string x.ver.tail] 51)).heap.size := by simp
  go_enter Tryz.func208, Tryz.ntmps208
  go_wp2
  replace h0 := box_below HW h0
  replace h1 := box_below HW h1
  replace h2 := box_below HW h2
  replace e0 := box_below HW e0
  replace e1 := box_below HW e1
  replace e2 := box_below HW e2
  replace e3 := box_below HW e3
  replace e4 := box_below HW e4
  replace hr := Cd.below HW hr
  replace hrep := Cd.below HW hrep
  replace hb0 := Nat.lt_of_lt_of_le hb0 HW.size
  replace z0 := Nat.lt_of_lt_of_le z0 HW.size
  replace z1 := Nat.lt_of_lt_of_le z1 HW.size
  replace z2 := Nat.lt_of_lt_of_le z2 HW.size
  clear hAW ha
  generalize W.alloc (.cells #[.string x.name, .int .i64 x.op, .slice A' x.ver.parts.length ca', .string x.ver.tail] 51) = w2 at *
  refine region_quiet (by kernel_rfl) (by kernel_rfl) ?_
  repeat (go_big_quiet_step ((go_at_call 28; exact call_quiet (meets_any x cat[kk.toNat] [_, _, _, _] [_, _, _, _, _] S T _ (Cd.below (ext_below _ _) hr) (Cd.below (ext_below _ _) hrep)))))
  refine wpQuiet_nil ?_
  intro W1 hw1
  replace hw1 := below_of_ext hw1
  go_wp2
  go_ret
  exact ⟨rfl, Below.trans0 HW hw1 HW.size⟩

set_option maxHeartbeats 1000000 in
theorem some1_pred (w : World) (S T U : Nat → Prop) (l : List Int) (cat : List Pkg) (c : Clause) (but : Int) (A C : Option Addr) (ca cc bb cbx sb bs : Nat) (hA : Arr w T A cat) (hC : Arr w U C c.any)
    (h0 : w.cell? ⟨sb, 0, none⟩ = some (.pointer (some ⟨bs, 0, none⟩))) (h1 : w.cell? ⟨bs, 0, none⟩ = some (.slice A cat.length ca)) (h2 : w.cell? ⟨cbx, 1, none⟩ = some (.slice C c.any.length cc)) (h3 : w.cell? ⟨bb, 0, none⟩ = some (.int .i64 but)) (hl : ∀ x ∈ l, 0 ≤ x ∧ x < cat.length) :
    PredI 207 #[.pointer (some ⟨bb, 0, none⟩), .pointer (some ⟨cbx, 0, none⟩), .pointer (some ⟨sb, 0, none⟩)] w S (hitN cat c but) l := by
  intro x hx W hb hx64
  have k0 := (hl x hx).1
  have k1 := (hl x hx).2
  replace h0 := box_below hb h0
  replace h1 := box_below hb h1
  replace h2 := box_below hb h2
  replace h3 := box_below hb h3
  have z0 : sb < W.heap.size := World.block_lt_of_cell? W ⟨sb, 0, none⟩ h0
  have z2 : cbx < W.heap.size := World.block_lt_of_cell? W ⟨cbx, 1, none⟩ h2
  have z3 : bb < W.heap.size := World.block_lt_of_cell? W ⟨bb, 0, none⟩ h3
  have HW : Below W.heap.size W (W.alloc (.cells #[.int .i64 x] 3)) := (Below.refl _ _).alloc (Nat.le_refl _) _
  have d0 : (W.alloc (.cells #[.int .i64 x] 3)).cell? ⟨W.heap.size, 0, none⟩ = some (.int .i64 x) := by simp
  by_cases hxb : x = but
  · subst hxb
    have fin := Lib.hid (show hitN cat c x x = false by unfold hitN; rw [decide_eq_false (by simp)]; rfl)
    go_enter Tryz.func207, Tryz.ntmps207
    go_wp2
    go_ret
    exact ⟨ret_bool fin.out.symm, HW⟩
  · have hxb' : (x != but) = true := by simp [hxb]
    have fin := Lib.hid (show hitN cat c but x = hitC cat c x by unfold hitN; rw [decide_eq_true hxb]; rfl)
    go_enter Tryz.func207, Tryz.ntmps207
    go_wp2_with fail
    refine (containsNeed_any c.any _ _ _ _ _ U _ entersS11 ((hC.below hb).below HW) (some11_pred _ U T _ cat A ca sb W.heap.size bs x ((hA.below hb).below HW) (box_below HW h0) (box_below HW h1) d0 k0 k1)).mono ?_
    rintro e w1 ⟨rfl, hw1⟩
    go_wp2
    go_ret
    exact ⟨ret_bool fin.out.symm, Below.trans0 HW hw1 HW.size⟩

/-- The values of those from place k on. -/
def placesS (n k : Nat) : List Int := (List.range' k (n - k)).map fun j : Nat => (j : Int)
theorem laterS_places (cat : List Pkg) (c : Clause) (but : Int) (k : Nat) : laterS cat c but k = (placesS cat.length k).any (hitN cat c but) := by
  unfold laterS placesS
  rw [any_map2]
theorem up_mem {n : Nat} {l : List Int} (h : Up n 0 l) : ∀ x ∈ l, 0 ≤ x ∧ x < (n : Int) := fun x hx => by have := h.2 x hx; omega

set_option maxHeartbeats 2000000 in
theorem someS_any (h0 h1 bs : Nat) (k : Work) (s : Int) (v : Value) (l : List Int) (w : World) (c : Clause) (nb : Bool) (C : Option Addr) (cc : Nat) (U : Nat → Prop) (frm : Nat) (but : Int) (hS : Srch w h0 h1 3 bs k s v l) (hl : Up k.cat.length 0 l) (hC : Arr w U C c.any) (hb64 : In64 but) (hf : frm ≤ k.cat.length) :
    Calls Tryz.prog 168 #[.pointer (some ⟨bs, 0, none⟩), .agg #[.bool nb, .slice C c.any.length cc], .int .i64 frm, .int .i64 but] w fun e w' => e = .returned (.bool (someS k.cat l c frm but)) ∧ Below w.heap.size w w' := by
  have hcl := hS.ac.len
  obtain ⟨A', c', rfl⟩ := hS.own.form
  have hlt := hS.lt
  have c0 := hS.c0
  have c5 := hS.c5
  have hg := hS.own.block_ge
  have hll : l.length ≤ k.cat.length := tgt_len (tgt_up.2 hl)
  have hby := hS.ac.1
  have hAl : ∃ S', Arr w S' A' l := by
    obtain ⟨A2, c2, e2, hr, -⟩ := hS.own.rep2 (S' := fun _ => True) (fun b _ h => h.elim) (fun b _ _ => trivial) (by change l.length * 8 ≤ _; change _ * 104 ≤ _ at hby; omega) (by omega)
    cases e2
    exact ⟨_, hr⟩
  obtain ⟨S', hAl⟩ := hAl
  have HW : Below w.heap.size w (((w.alloc (.cells #[.pointer (some ⟨bs, 0, none⟩)] 68)).alloc (.cells #[.bool nb, .slice C c.any.length cc] 48)).alloc (.cells #[.int .i64 but] 3)) := by (repeat (first | exact Below.refl _ _ | assumption | (refine Below.setCell ?_ (by first | omega | (simp; done) | (simp; omega) | exact Below.size (by assumption)) _) | (refine Below.alloc ?_ (by first | omega | (simp; done) | (simp; omega) | exact Below.size (by assumption)) _) | refine Below.drew ?_ | refine Below.trans0 ?_ (by assumption)))
  have b0 : (((w.alloc (.cells #[.pointer (some ⟨bs, 0, none⟩)] 68)).alloc (.cells #[.bool nb, .slice C c.any.length cc] 48)).alloc (.cells #[.int .i64 but] 3)).cell? ⟨w.heap.size, 0, none⟩ = some (.pointer (some ⟨bs, 0, none⟩)) := three0
  have b1 : (((w.alloc (.cells #[.pointer (some ⟨bs, 0, none⟩)] 68)).alloc (.cells #[.bool nb, .slice C c.any.length cc] 48)).alloc (.cells #[.int .i64 but] 3)).cell? ⟨w.heap.size + 1, 1, none⟩ = some (.slice C c.any.length cc) := three1
  have b2 : (((w.alloc (.cells #[.pointer (some ⟨bs, 0, none⟩)] 68)).alloc (.cells #[.bool nb, .slice C c.any.length cc] 48)).alloc (.cells #[.int .i64 but] 3)).cell? ⟨w.heap.size + 1 + 1, 0, none⟩ = some (.int .i64 but) := three2
  have b3 := box_below HW c5
  have b4 := box_below HW c0
  have hAl3 := hAl.below HW
  have hC3 := hC.below HW
  have hA3 := hS.ac.below HW
  have HP := some1_pred _ S' (fun b => b < h0) U l k.cat c but k.A C k.ca cc (w.heap.size + 1 + 1) (w.heap.size + 1) w.heap.size bs hA3 hC3 b0 b4 b1 b2 (up_mem hl)
  have HQ := Lib.hid (some1_pred _ S' (fun b => b < h0) U (placesS k.cat.length frm) k.cat c but k.A C k.ca cc (w.heap.size + 1 + 1) (w.heap.size + 1) w.heap.size bs hA3 hC3 b0 b4 b1 b2 (fun x hx => by
    unfold placesS at hx
    rw [List.mem_map] at hx
    obtain ⟨j, hj, rfl⟩ := hx
    rw [List.mem_range'_1] at hj
    omega))
  have eg := entersS1
  go_enter Tryz.func168, Tryz.ntmps168
  go_wp2_with fail
  refine (containsInt_any l (hitN k.cat c but) _ _ A' c' S' _ entersS1 hAl3 HP).mono ?_
  rintro e w4 ⟨rfl, hw4⟩
  have HW4 := Below.trans0 HW hw4 HW.size
  have b0' := box_below hw4 b0
  have b4' := box_below hw4 b4
  clear HP
  generalize hW3 : (((w.alloc (.cells #[.pointer (some ⟨bs, 0, none⟩)] 68)).alloc (.cells #[.bool nb, .slice C c.any.length cc] 48)).alloc (.cells #[.int .i64 but] 3)) = w3 at *
  cases hany : l.any (hitN k.cat c but)
  · have fin0 := Lib.hid (show someS k.cat l c frm but = laterS k.cat c but frm by unfold someS; rw [hany, Bool.false_or])
    clear hany
    go_wp2
    go_loopw [10] (fun i wr => Below w4.heap.size w4 wr ∧ ∃ m : Nat, frm ≤ m ∧ m ≤ k.cat.length ∧ i = .int .i64 m ∧ Hid (laterS k.cat c but frm = laterS k.cat c but m)) (fun i _ => k.cat.length - (intOf i).toNat)
    case atStart => exact ⟨Below.refl _ _, frm, Nat.le_refl _, hf, rfl, Lib.hid rfl⟩
    case round =>
      obtain ⟨hb, m, hfm, hm, rfl, hj⟩ := hrel
      have e0 := box_below hb b0'
      have e4 := box_below hb b4'
      have HB := Below.trans0 hw4 hb hw4.size
      by_cases hlt2 : m < k.cat.length
      · have hstep := Lib.hid (hj.out.trans (laterS_step k.cat c but hlt2))
        have hmem : ((m : Nat) : Int) ∈ placesS k.cat.length frm := by
          unfold placesS
          rw [List.mem_map]
          exact ⟨m, by rw [List.mem_range'_1]; omega, rfl⟩
        have hm' : (m : Int) < k.cat.length := by omega
        clear hj
        cases hh : hitN k.cat c but (m : Int)
        all_goals
          have Hh := Lib.hid hh
          clear hh
          go_wp2_with fail
          refine (HQ.out (m : Int) hmem _ HB ⟨by omega, by omega⟩).mono ?_
          rintro e w5 ⟨rfl, hw5⟩
          rw [Hh.out]
          go_wp2
        · have fin : Hid (laterS k.cat c but frm = laterS k.cat c but (m + 1)) := Lib.hid (by rw [hstep.out, Hh.out, Bool.false_or])
          go_roundw
          case rel => exact ⟨Below.trans0 hb hw5 hb.size, m + 1, by omega, by omega, by go_num, fin⟩
          case measure => simp [intOf]; omega
        · go_ret
          exact ⟨ret_bool (by rw [fin0.out, hstep.out, Hh.out]; rfl), Below.trans0 (Below.trans0 HW4 hb HW4.size) hw5 (Nat.le_trans HW4.size hb.size)⟩
      · go_wp2
        go_ret
        exact ⟨ret_bool (by rw [fin0.out, hj.out, laterS_end _ _ _ (by omega)]), Below.trans0 HW4 hb HW4.size⟩
  · have fin := Lib.hid (show someS k.cat l c frm but = true by unfold someS; rw [hany]; rfl)
    clear hany
    go_wp2
    go_ret
    exact ⟨ret_bool fin.out.symm, HW4⟩

end Go.Proofs.YtppbjmhllmaakaaGreatDoor
