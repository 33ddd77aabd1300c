/- Contract: the chapter's example (the statements of layer 19). -/
import Derived.Test.YtppbjmhllmaakaaGreatDoorC21
set_option linter.unusedVariables false
namespace Go.Proofs.YtppbjmhllmaakaaGreatDoor
open Go.RowKit

theorem val_a : validP (cat2 []) [0] = false := by decide +kernel
theorem val_ab : validP (cat2 []) [0, 1] = true := by decide +kernel
theorem val_no : validP (cat2 [⟨true, [needN 97]⟩]) [0, 1] = false := by decide +kernel
theorem val_b : validP (cat2 [⟨true, [needN 97]⟩]) [1] = true := by decide +kernel

theorem Two.set {w : World} {b p q : Nat} {A : Option Addr} {n ca : Nat} (h : Two w b p q A n ca) (A' : Option Addr) (n' ca' : Nat) : Two (w.setCell ⟨b, 9, none⟩ (.slice A' n' ca')) b p q A' n' ca' :=
  ⟨(World.cell?_setCell_other _ _ _ _ (by simp)).trans h.c0, (World.cell?_setCell_other _ _ _ _ (by simp)).trans h.c1, (World.cell?_setCell_other _ _ _ _ (by simp)).trans h.c2, (World.cell?_setCell_other _ _ _ _ (by simp)).trans h.c3, (World.cell?_setCell_other _ _ _ _ (by simp)).trans h.c4,
    (World.cell?_setCell_other _ _ _ _ (by simp)).trans h.c5, (World.cell?_setCell_other _ _ _ _ (by simp)).trans h.c6, (World.cell?_setCell_other _ _ _ _ (by simp)).trans h.c7, (World.cell?_setCell_other _ _ _ _ (by simp)).trans h.c8, World.cell?_setCell_same' _ _ _ (by rw [h.c9]; rfl)⟩

set_option maxHeartbeats 4000000 in
set_option maxRecDepth 100000 in
theorem works19_any (w : World) (hL : Laid w) : Calls Tryz.prog 25 #[] w fun e w' => e = .returned (.bool true) ∧ Below w.heap.size w w' := by
  have va := Lib.hid val_a
  have vab := Lib.hid val_ab
  have vno := Lib.hid val_no
  have vb := Lib.hid val_b
  go_enter Tryz.func25, Tryz.ntmps25
  go_wp2_with (go_at_call 64; refine (two19_any _).mono ?_; rintro e w1 ⟨hw1, b, p, q, rfl, ht, hb, hb1, hf, hp, hq⟩)
  have W0 : w.heap.size ≤ w1.heap.size := hw1.size
  have hp1 : Arr w1 (fun x => x < b) (some ⟨p, 0, none⟩) [(1 : Int)] := hp.mono (fun _ _ h => h.2)
  have hq1 : Arr w1 (fun x => x < b) (some ⟨q, 0, none⟩) [(⟨false, [needN 98]⟩ : Clause)] := hq.mono (fun _ _ h => h.2)
  have hc1 : Arr w1 (fun _ => True) (some ⟨b, 0, none⟩) (cat2 []) := Two.arr (l := []) ht trivial (hp1.mono (fun _ _ _ => trivial)) (hq1.mono (fun _ _ _ => trivial)) (Arr.nil _ _ _)
  have a1 : Below w1.heap.size w1 (w1.alloc (.cells #[.int .i64 0] 3)) := (Below.refl _ _).alloc (Nat.le_refl _) _
  refine (planValid_any (cat2 []) [0] _ _ _ _ (fun _ => True) (fun _ => True) _ (hc1.below a1) (arr_ints1 (b := w1.heap.size) trivial ⟨by decide, by decide⟩ (by simp)) (hL.below (hw1.alloc hw1.size _))).mono ?_
  rintro e w2 ⟨rfl, hw2⟩
  rw [va.out]
  have b2 : Below w1.heap.size w1 w2 := Below.trans0 a1 hw2 a1.size
  have B2 : Below w.heap.size w w2 := Below.trans0 hw1 b2 hw1.size
  clear hw2 a1
  go_wp2_with fail
  have a2 : Below w2.heap.size w2 (w2.alloc (.cells #[.int .i64 0, .int .i64 1] 3)) := (Below.refl _ _).alloc (Nat.le_refl _) _
  refine (planValid_any (cat2 []) [0, 1] _ _ _ _ (fun _ => True) (fun _ => True) _ ((hc1.below b2).below a2) (arr_ints2 (b := w2.heap.size) trivial ⟨by decide, by decide⟩ ⟨by decide, by decide⟩ (by simp) (by simp)) (hL.below (B2.alloc B2.size _))).mono ?_
  rintro e w3 ⟨rfl, hw3⟩
  rw [vab.out]
  have b3 : Below w1.heap.size w1 w3 := Below.trans0 b2 (Below.trans0 a2 hw3 a2.size) b2.size
  have B3 : Below w.heap.size w w3 := Below.trans0 hw1 b3 hw1.size
  have t3 := ht.below b3
  have c9 := t3.c9
  have f9 : w3.frozen? ⟨b, 9, none⟩ = false := (b3.frozen hb1).trans hf
  have g3 : b < w3.heap.size := Nat.lt_of_lt_of_le hb1 b3.size
  have hp3 := hp1.below b3
  have hq3 := hq1.below b3
  clear hw3 a2 b2 b3 B2 hc1 ht hp hq hp1 hq1 hf hb1 hw1 W0
  go_wp2_with fail
  have hsz : (w3.setCell ⟨b, 9, none⟩ (.slice (some ⟨w3.heap.size + 1, 0, none⟩) 1 1)).heap.size = w3.heap.size := by simp
  have ts := t3.set (some ⟨w3.heap.size + 1, 0, none⟩) 1 1
  have hps : Arr (w3.setCell ⟨b, 9, none⟩ (.slice (some ⟨w3.heap.size + 1, 0, none⟩) 1 1)) (fun _ => True) (some ⟨p, 0, none⟩) [(1 : Int)] := hp3.set _ _ (fun x hx _ => ⟨trivial, by simp only; omega⟩)
  have hqs : Arr (w3.setCell ⟨b, 9, none⟩ (.slice (some ⟨w3.heap.size + 1, 0, none⟩) 1 1)) (fun _ => True) (some ⟨q, 0, none⟩) [(⟨false, [needN 98]⟩ : Clause)] := hq3.set _ _ (fun x hx _ => ⟨trivial, by simp only; omega⟩)
  have BS : Below w.heap.size w (w3.setCell ⟨b, 9, none⟩ (.slice (some ⟨w3.heap.size + 1, 0, none⟩) 1 1)) := B3.setCell hb _
  generalize w3.setCell ⟨b, 9, none⟩ (.slice (some ⟨w3.heap.size + 1, 0, none⟩) 1 1) = ws at *
  rw [← hsz] at ts ⊢
  have aC : Below ws.heap.size ws ((ws.alloc (.cells #[.string ⟨#[97]⟩, .int .i64 0, .slice none 0 0, .string ⟨#[]⟩] 51)).alloc (.cells #[.bool true, .slice (some ⟨ws.heap.size, 0, none⟩) 1 1] 48)) := by (repeat (first | exact Below.refl _ _ | assumption | (refine Below.setCell ?_ (by first | omega | (simp; done) | (simp; omega) | exact Below.size (by assumption)) _) | (refine Below.alloc ?_ (by first | omega | (simp; done) | (simp; omega) | exact Below.size (by assumption)) _) | refine Below.drew ?_ | refine Below.trans0 ?_ (by assumption)))
  have hcl : Arr ((ws.alloc (.cells #[.string ⟨#[97]⟩, .int .i64 0, .slice none 0 0, .string ⟨#[]⟩] 51)).alloc (.cells #[.bool true, .slice (some ⟨ws.heap.size, 0, none⟩) 1 1] 48)) (fun _ => True) (some ⟨ws.heap.size + 1, 0, none⟩) [(⟨true, [needN 97]⟩ : Clause)] :=
    arr_clause (A := some ⟨ws.heap.size, 0, none⟩) (ca := 1) trivial (by simp [go_sem]) (by simp [go_sem]) (arr_need trivial (by simp [go_sem]) (by simp [go_sem]) (by simp [go_sem]) (by simp [go_sem]))
  have hcc : Arr ((ws.alloc (.cells #[.string ⟨#[97]⟩, .int .i64 0, .slice none 0 0, .string ⟨#[]⟩] 51)).alloc (.cells #[.bool true, .slice (some ⟨ws.heap.size, 0, none⟩) 1 1] 48)) (fun _ => True) (some ⟨b, 0, none⟩) (cat2 [⟨true, [needN 97]⟩]) :=
    Two.arr (l := [⟨true, [needN 97]⟩]) (ts.below aC) trivial (hps.below aC) (hqs.below aC) hcl
  have BC : Below w.heap.size w ((ws.alloc (.cells #[.string ⟨#[97]⟩, .int .i64 0, .slice none 0 0, .string ⟨#[]⟩] 51)).alloc (.cells #[.bool true, .slice (some ⟨ws.heap.size, 0, none⟩) 1 1] 48)) := Below.trans0 BS aC BS.size
  have hcs : ((ws.alloc (.cells #[.string ⟨#[97]⟩, .int .i64 0, .slice none 0 0, .string ⟨#[]⟩] 51)).alloc (.cells #[.bool true, .slice (some ⟨ws.heap.size, 0, none⟩) 1 1] 48)).heap.size = ws.heap.size + 1 + 1 := by simp
  generalize (ws.alloc (.cells #[.string ⟨#[97]⟩, .int .i64 0, .slice none 0 0, .string ⟨#[]⟩] 51)).alloc (.cells #[.bool true, .slice (some ⟨ws.heap.size, 0, none⟩) 1 1] 48) = wc at *
  rw [← hcs]
  have a4 : Below wc.heap.size wc (wc.alloc (.cells #[.int .i64 0, .int .i64 1] 3)) := (Below.refl _ _).alloc (Nat.le_refl _) _
  refine (planValid_any (cat2 [⟨true, [needN 97]⟩]) [0, 1] _ _ _ _ (fun _ => True) (fun _ => True) _ (hcc.below a4) (arr_ints2 (b := wc.heap.size) trivial ⟨by decide, by decide⟩ ⟨by decide, by decide⟩ (by simp) (by simp)) (hL.below (BC.alloc BC.size _))).mono ?_
  rintro e w5 ⟨rfl, hw5⟩
  rw [vno.out]
  have b5 : Below wc.heap.size wc w5 := Below.trans0 a4 hw5 a4.size
  have B5 : Below w.heap.size w w5 := Below.trans0 BC b5 BC.size
  clear hw5 a4 BS B3 aC ts hps hqs hcl t3 hp3 hq3 c9 f9 g3 hsz hcs BC
  go_wp2_with fail
  have a6 : Below w5.heap.size w5 (w5.alloc (.cells #[.int .i64 1] 3)) := (Below.refl _ _).alloc (Nat.le_refl _) _
  refine (planValid_any (cat2 [⟨true, [needN 97]⟩]) [1] _ _ _ _ (fun _ => True) (fun _ => True) _ ((hcc.below b5).below a6) (arr_ints1 (b := w5.heap.size) trivial ⟨by decide, by decide⟩ (by simp)) (hL.below (B5.alloc B5.size _))).mono ?_
  rintro e w6 ⟨rfl, hw6⟩
  rw [vb.out]
  have B6 : Below w.heap.size w w6 := Below.trans0 B5 (Below.trans0 a6 hw6 a6.size) B5.size
  clear hw6 a6 b5 B5
  go_wp2
  go_ret
  exact ⟨rfl, B6⟩

end Go.Proofs.YtppbjmhllmaakaaGreatDoor
