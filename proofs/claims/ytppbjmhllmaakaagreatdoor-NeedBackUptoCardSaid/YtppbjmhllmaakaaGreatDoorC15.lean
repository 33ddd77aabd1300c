/- Contracts: the reference's Pick and without; some, pkgs of the statements. -/
import Derived.Test.YtppbjmhllmaakaaGreatDoorC14
set_option linter.unusedVariables false
namespace Go.Proofs.YtppbjmhllmaakaaGreatDoor
open Go.RowKit

theorem tgt_nil (n : Nat) : tgt n [] = true := rfl

set_option maxHeartbeats 2000000 in
set_option maxRecDepth 100000 in
theorem refPick_any (cat : List Pkg) (l : List Int) (A B : Option Addr) (ca cb : Nat) (S T : Nat → Prop) (w : World) (hA : Arr w S A cat) (h : Arr w T B l) :
    Calls Tryz.prog 20 #[.slice A cat.length ca, .slice B l.length cb] w fun e w' => Below w.heap.size w w' ∧ ∃ A' c', e = .returned (.slice A' (pick cat l).length c') ∧ Arr w' (Fr w S) A' (pick cat l) ∧ (pick cat l).length ≤ c' := by
  have hl := h.len
  have hc := hA.len
  have hby := hA.1
  replace hA := hA.old
  have hown0 : Own (w.alloc (.cells #[] 36)) w.heap.size 36 (Fr w S) (.slice (some ⟨w.heap.size, 0, none⟩) 0 0) ([] : List Pkg) := Own.made w _ _ _ (Nat.le_refl _)
  have hB0 : Below w.heap.size w (w.alloc (.cells #[] 36)) := by (repeat (first | exact Below.refl _ _ | assumption | (refine Below.setCell ?_ (by first | omega | (simp; done) | (simp; omega) | exact Below.size (by assumption)) _) | (refine Below.alloc ?_ (by first | omega | (simp; done) | (simp; omega) | exact Below.size (by assumption)) _) | refine Below.drew ?_ | refine Below.trans0 ?_ (by assumption)))
  cases ht : tgt cat.length l
  · have fin := Lib.hid (pick_no ht)
    have hpos : 0 < l.length := by
      rcases Nat.eq_zero_or_pos l.length with h0 | h0
      · rw [List.eq_nil_of_length_eq_zero h0, tgt_nil] at ht; cases ht
      · exact h0
    have Ht := Lib.hid ht
    clear ht
    go_enter Tryz.func20, Tryz.ntmps20
    go_wp2
    generalize w.alloc (.cells #[] 36) = w0 at *
    refine wp_loop_rounds 1 ?_
    rw [rounds_succ]
    go_wp2_with (go_at_call 57; refine (refTarget_any cat l A ca _ B cb T _ (hA.below hB0) (h.below hB0)).mono ?_; rintro e w1 ⟨rfl, hw1⟩; rw [Ht.out])
    go_ret
    obtain ⟨A2, c2, e2, hr⟩ := (hown0.below hw1).rep2 (fun b _ h => h) (fun b h _ => .inr h) (by simp) (by simp)
    exact ⟨hB0.trans (hw1.mono hB0.size), A2, c2, by rw [fin.out, ← e2]; rfl, by rw [fin.out]; exact hr⟩
  · have fin := Lib.hid (pick_yes ht)
    have hlen := tgt_len ht
    have Ht := Lib.hid ht
    clear ht
    go_enter Tryz.func20, Tryz.ntmps20
    go_wp2
    generalize w.alloc (.cells #[] 36) = w0 at *
    go_loopw [5, 6] (fun v i wr => Below w.heap.size w wr ∧ ∃ k : Nat, k ≤ l.length ∧ i = .int .i64 k ∧ Own wr w.heap.size 36 (Fr w S) v ((l.take k).map (at0 cat))) (fun _ i _ => l.length - (intOf i).toNat)
    case atStart => exact ⟨hB0, 0, Nat.zero_le _, rfl, hown0⟩
    case round =>
      obtain ⟨hb, k, hk, rfl, hown⟩ := hrel
      by_cases hlt : k < l.length
      · obtain ⟨wo, hwo⟩ : ∃ wo : World, wo = wr := ⟨_, rfl⟩
        subst hwo
        have hmem := tgt_mem Ht.out (List.getElem_mem hlt)
        obtain ⟨m0, m1⟩ := hmem
        have m2 : l[k].toNat < cat.length := by omega
        have hat := Lib.hid (at0_get m0 m1)
        go_wp2_with (first | (at_builtin; refine Hold.out ?_) | (go_at_call 57; refine (refTarget_any cat l A ca _ B cb T _ (hA.below hb) (h.below hb)).mono ?_; rintro e wr ⟨rfl, hw1⟩; rw [Ht.out]; have hb' := hb.trans (hw1.mono hb.size); replace hown := hown.below hw1; clear hb hw1; obtain ⟨b, o, rfl, hb1, hs, hcc⟩ := (h.below hb').getI k hlt; obtain ⟨b2, o2, B2, cb2, C2, cc2, D2, cd2, rfl, hb2, g1, g2, g3, g4, g5, hr, -, -, -⟩ := (hA.below hb').getPkg l[k].toNat m2))
        refine ⟨?_⟩
        have hlm : ((l.take k).map (at0 cat)).length = k := by simp; omega
        have Hlm := Lib.hid hlm
        clear hlm
        have hrep := rep_cast hat.out (hr.mono (S' := fun b => Fr w S b ∧ Value.ownBlock u5 ≠ some b) (fun b _ hbb => ⟨.inl hbb, fun e => by have := hown.block_ge b e; have := hbb.2; omega⟩))
        clear hr
        refine wpList_own_app rfl _ _ 22 rfl w.heap.size 36 elPkg (Fr w S) u5 _ ?_ (hown.below ((Below.refl _ _).alloc (Nat.le_refl _) _)) ⟨wr.heap.size, 0, none⟩ 1 [at0 cat l[k]] ?_ (Src.one 36 hrep) ?_ ?_ ?_ ?_
        · simp [Act.eval]
        · simp [Act.eval]
        · rw [Hlm.out]; exact app_bound hby (by simp; omega)
        · rw [Hlm.out]; simp; omega
        · have := hb'.size; simp; omega
        intro v2 w6 hown6 hg6 hat6
        have hb6 : Below w.heap.size w w6 := (hb'.alloc hb'.size _).grown hg6 (by have := hb'.size; simp; omega) (fun b e => (hown.block_ge _ e).1)
        clear hg6 hat6 hrep hown g1 g2 g3 g4 g5 hcc
        go_wp2
        go_roundw
        case rel => exact ⟨hb6, k + 1, by omega, by go_num, by rw [take_map_succ _ hlt]; exact hown6⟩
        case measure => simp [intOf]; omega
      · rw [List.take_of_length_le (by omega)] at hown
        have hle : (l.map (at0 cat)).length ≤ cat.length := by simp; omega
        obtain ⟨A2, c2, e2, hr⟩ := hown.rep2 (fun b _ h => h) (fun b h _ => .inr h) (mul_bound hby hle) (by omega)
        go_wp2
        go_ret
        exact ⟨hb, A2, c2, by rw [fin.out, ← e2]; rfl, by rw [fin.out]; exact hr⟩

end Go.Proofs.YtppbjmhllmaakaaGreatDoor
