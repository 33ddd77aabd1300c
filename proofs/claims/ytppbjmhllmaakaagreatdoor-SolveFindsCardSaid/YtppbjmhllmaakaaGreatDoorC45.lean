/- Contracts: the search's run, solve.Solve. -/
import Derived.Test.YtppbjmhllmaakaaGreatDoorC44
import Derived.Laws.EntriesVeiled
set_option linter.unusedVariables false
namespace Go.Proofs.YtppbjmhllmaakaaGreatDoor
open Go.RowKit

set_option maxHeartbeats 0 in
set_option maxRecDepth 100000 in
theorem run_any (h0 h1 bs : Nat) (k : Work) (w : World) (hp : planOk k.cat = true) (hn : k.cat.length ≤ 1000000000) (hb : 1 ≤ k.budget) (hx : k.budget ≤ 1048576) (hS : Srch w h0 h1 3 bs k 0 (.slice none 0 0) []) :
    Calls Tryz.prog 46 #[.pointer (some ⟨bs, 0, none⟩)] w fun e w' => e = .returned (.bool (runS (good k.cat k.want) k.hv k.cat.length k.cat.length k.budget 0 []).found) ∧ Below h0 w w' ∧ ∃ h2 v' l', Srch w' h0 h2 3 bs k (runS (good k.cat k.want) k.hv k.cat.length k.cat.length k.budget 0 []).steps v' l' ∧
      ((runS (good k.cat k.want) k.hv k.cat.length k.cat.length k.budget 0 []).found = true → l' = (runS (good k.cat k.want) k.hv k.cat.length k.cat.length k.budget 0 []).ins) := by
  have hlt := hS.lt
  have hlo := hS.lo
  have hle := hS.le
  have eg := entersR1
  have hcall := run1_any h0 (w.heap.size + 1 + 1 + 1) bs w.heap.size (w.heap.size + 1) (w.heap.size + 1 + 1) k hp hn hx k.cat.length 0 0 [] 0 (.slice none 0 0)
  have Hc := Lib.hid hcall
  clear hcall
  generalize runS (good k.cat k.want) k.hv k.cat.length k.cat.length k.budget 0 [] = X at *
  have HW : Below w.heap.size w (((w.alloc (.cells #[.pointer (some ⟨bs, 0, none⟩)] 68)).alloc (.cells #[.bool false] 4)).alloc (.cells #[(.func (.func 100) #[] #[.pointer (some ⟨w.heap.size, 0, none⟩), .pointer (some ⟨w.heap.size + 1, 0, none⟩), .pointer (some ⟨w.heap.size + 1 + 1, 0, none⟩)])] 116)) := by (repeat (first | exact Below.refl _ _ | assumption | (refine Below.setCell ?_ (by first | omega | (simp; done) | (simp; omega) | exact Below.size (by assumption)) _) | (refine Below.alloc ?_ (by first | omega | (simp; done) | (simp; omega) | exact Below.size (by assumption)) _) | refine Below.drew ?_ | refine Below.trans0 ?_ (by assumption)))
  have x0 : (((w.alloc (.cells #[.pointer (some ⟨bs, 0, none⟩)] 68)).alloc (.cells #[.bool false] 4)).alloc (.cells #[(.func (.func 100) #[] #[.pointer (some ⟨w.heap.size, 0, none⟩), .pointer (some ⟨w.heap.size + 1, 0, none⟩), .pointer (some ⟨w.heap.size + 1 + 1, 0, none⟩)])] 116)).cell? ⟨w.heap.size, 0, none⟩ = some (.pointer (some ⟨bs, 0, none⟩)) := three0
  have x1 : (((w.alloc (.cells #[.pointer (some ⟨bs, 0, none⟩)] 68)).alloc (.cells #[.bool false] 4)).alloc (.cells #[(.func (.func 100) #[] #[.pointer (some ⟨w.heap.size, 0, none⟩), .pointer (some ⟨w.heap.size + 1, 0, none⟩), .pointer (some ⟨w.heap.size + 1 + 1, 0, none⟩)])] 116)).cell? ⟨w.heap.size + 1, 0, none⟩ = some (.bool false) := three1
  have x2 : (((w.alloc (.cells #[.pointer (some ⟨bs, 0, none⟩)] 68)).alloc (.cells #[.bool false] 4)).alloc (.cells #[(.func (.func 100) #[] #[.pointer (some ⟨w.heap.size, 0, none⟩), .pointer (some ⟨w.heap.size + 1, 0, none⟩), .pointer (some ⟨w.heap.size + 1 + 1, 0, none⟩)])] 116)).frozen? ⟨w.heap.size + 1, 0, none⟩ = false := (World.frozen?_of_block (Below.heap_alloc _ _ _ (by rw [size_alloc, size_alloc]; simp only; omega))).trans (frozen_box _ _ (by rw [size_alloc]))
  have x3 : (((w.alloc (.cells #[.pointer (some ⟨bs, 0, none⟩)] 68)).alloc (.cells #[.bool false] 4)).alloc (.cells #[(.func (.func 100) #[] #[.pointer (some ⟨w.heap.size, 0, none⟩), .pointer (some ⟨w.heap.size + 1, 0, none⟩), .pointer (some ⟨w.heap.size + 1 + 1, 0, none⟩)])] 116)).cell? ⟨w.heap.size + 1 + 1, 0, none⟩ = some (.func (.func 100) #[] #[.pointer (some ⟨w.heap.size, 0, none⟩), .pointer (some ⟨w.heap.size + 1, 0, none⟩), .pointer (some ⟨w.heap.size + 1 + 1, 0, none⟩)]) := three2
  have hz3 : (((w.alloc (.cells #[.pointer (some ⟨bs, 0, none⟩)] 68)).alloc (.cells #[.bool false] 4)).alloc (.cells #[(.func (.func 100) #[] #[.pointer (some ⟨w.heap.size, 0, none⟩), .pointer (some ⟨w.heap.size + 1, 0, none⟩), .pointer (some ⟨w.heap.size + 1 + 1, 0, none⟩)])] 116)).heap.size = w.heap.size + 1 + 1 + 1 := by rw [size_alloc, size_alloc, size_alloc]
  have hS3 : Srch (((w.alloc (.cells #[.pointer (some ⟨bs, 0, none⟩)] 68)).alloc (.cells #[.bool false] 4)).alloc (.cells #[(.func (.func 100) #[] #[.pointer (some ⟨w.heap.size, 0, none⟩), .pointer (some ⟨w.heap.size + 1, 0, none⟩), .pointer (some ⟨w.heap.size + 1 + 1, 0, none⟩)])] 116)) h0 (w.heap.size + 1 + 1 + 1) 3 bs k 0 (.slice none 0 0) [] := { hS.below HW with hi := by omega, le := by rw [hz3]; omega, own := Own.nil _ _ _ _ }
  have hR : RunAt (((w.alloc (.cells #[.pointer (some ⟨bs, 0, none⟩)] 68)).alloc (.cells #[.bool false] 4)).alloc (.cells #[(.func (.func 100) #[] #[.pointer (some ⟨w.heap.size, 0, none⟩), .pointer (some ⟨w.heap.size + 1, 0, none⟩), .pointer (some ⟨w.heap.size + 1 + 1, 0, none⟩)])] 116)) h0 (w.heap.size + 1 + 1 + 1) bs w.heap.size (w.heap.size + 1) (w.heap.size + 1 + 1) k 0 false (.slice none 0 0) [] :=
    { st := hS3
      s0 := x0
      f0 := x1
      ff := x2
      g0 := x3
      sl := by omega
      fl := by omega
      gl := by omega
      sh := by omega
      fh := by omega
      gh := by omega
      ns := by omega
      nf := by omega
      ng := by omega
      nfs := by omega
      nfg := by omega }
  have HB4 : Below h0 w (((w.alloc (.cells #[.pointer (some ⟨bs, 0, none⟩)] 68)).alloc (.cells #[.bool false] 4)).alloc (.cells #[(.func (.func 100) #[] #[.pointer (some ⟨w.heap.size, 0, none⟩), .pointer (some ⟨w.heap.size + 1, 0, none⟩), .pointer (some ⟨w.heap.size + 1 + 1, 0, none⟩)])] 116)) := HW.mono (by omega)
  have hH := Hc.out (((w.alloc (.cells #[.pointer (some ⟨bs, 0, none⟩)] 68)).alloc (.cells #[.bool false] 4)).alloc (.cells #[(.func (.func 100) #[] #[.pointer (some ⟨w.heap.size, 0, none⟩), .pointer (some ⟨w.heap.size + 1, 0, none⟩), .pointer (some ⟨w.heap.size + 1 + 1, 0, none⟩)])] 116)) rfl (Nat.zero_add _) (Up.nil _ _) (Int.le_refl 0) (by omega) hR
  have HH := Lib.hid hH
  clear hH Hc
  go_enter Tryz.func46, Tryz.ntmps46
  go_wp2_with fail
  refine HH.out.mono ?_
  rintro e w5 ⟨rfl, hB5, v5, l5, hR5, hl5⟩
  have f5 := hR5.f0
  go_wp2
  go_ret
  exact ⟨rfl, HB4.trans hB5, _, v5, l5, hR5.st, fun h => hl5 (Or.inr h)⟩

end Go.Proofs.YtppbjmhllmaakaaGreatDoor
