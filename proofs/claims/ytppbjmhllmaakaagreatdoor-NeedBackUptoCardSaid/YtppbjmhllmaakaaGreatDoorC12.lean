/- Contracts: copies (sutlerbase), targets' packages (plan.Pick, the reference's Pick). -/
import Derived.Test.YtppbjmhllmaakaaGreatDoorC11
import Derived.Test.YtppbjmhllmaakaaGreatDoorX3
import Derived.Deep.RegionHeld3
set_option linter.unusedVariables false
namespace Go.Proofs.YtppbjmhllmaakaaGreatDoor
open Go.RowKit

theorem elemT_mk {P : Program} {t e : TypeId} {n bytes : Nat} (ht : P.underlying t = some (.slice e)) (z : Value) (h : (P.info? e).map (fun i => (i.zero, i.size, i.bytes)) = some (some z, n, bytes)) (hz : z.cells.size = n) : ElemT P t e n bytes := by
  obtain ⟨i, h1, h2, h3, h4⟩ := info_parts h
  exact ⟨ht, i, z, h1, h2, h3, h4, hz⟩
theorem elInt : ElemT Tryz.prog 23 3 (Cd.n Int) (Cd.bytes Int) := elemT_mk Tryz.underlying23 (.int .i64 0) (by kernel_rfl) rfl
theorem elStr : ElemT Tryz.prog 34 9 (Cd.n ByteArray) (Cd.bytes ByteArray) := elemT_mk Tryz.underlying34 (.string ⟨#[]⟩) (by kernel_rfl) rfl
theorem elNeed : ElemT Tryz.prog 46 51 (Cd.n Need) (Cd.bytes Need) := elemT_mk Tryz.underlying46 (.agg #[.string ⟨#[]⟩, .int .i64 0, .slice none 0 0, .string ⟨#[]⟩]) (by kernel_rfl) rfl
theorem elClause : ElemT Tryz.prog 24 48 (Cd.n Clause) (Cd.bytes Clause) := elemT_mk Tryz.underlying24 (.agg #[.bool false, .slice none 0 0]) (by kernel_rfl) rfl
theorem elPkg : ElemT Tryz.prog 22 36 (Cd.n Pkg) (Cd.bytes Pkg) := elemT_mk Tryz.underlying22 (.agg #[.string ⟨#[]⟩, .slice none 0 0, .string ⟨#[]⟩, .slice none 0 0, .slice none 0 0]) (by kernel_rfl) rfl

theorem reach_app {n b : Nat} (h : n * b ≤ reach) : (0 + n) * b ≤ 140737488355328 := by
  unfold reach at h; rw [Nat.zero_add]; omega
/-- A call hands back a slice that reads as l, in blocks of S or new ones; it may be appended to (base: where the call began). -/
def RetOwn {α : Type} [Cd α] (w : World) (e : TypeId) (S : Nat → Prop) (l : List α) (en : Ending) (w' : World) : Prop :=
  Below w.heap.size w w' ∧ ∃ v, en = .returned v ∧ Own w' w.heap.size e (fun b => S b ∧ b < w.heap.size) v l

set_option maxHeartbeats 400000 in
theorem baseInts_any (l : List Int) (A : Option Addr) (ca : Nat) (S : Nat → Prop) (w : World) (h : Arr w S A l) :
    Calls Tryz.prog 13 #[.slice A l.length ca] w (RetOwn w 3 S l) := by
  have hby := reach_app h.1
  have hl := h.len
  have hfoot : ∀ b, b < w.heap.size → (Value.slice (some ⟨w.heap.size, 0, none⟩) 0 0).ownBlock ≠ some b := fun b hb e => by simp [Value.ownBlock] at e; omega
  go_enter Tryz.func13, Tryz.ntmps13
  go_wp2_with (at_builtin; refine wpList_own_src rfl _ _ 23 rfl w.heap.size 3 elInt (fun b => S b ∧ b < w.heap.size) _ [] rfl (Own.made w _ _ _ (Nat.le_refl _)) A ca l rfl (h.keep (fun b hS hlt => ⟨⟨⟨hS, hlt⟩, hfoot b hlt⟩, Below.heap_alloc _ _ _ hlt⟩)) hby (by simpa using hl) (by simp) ?_; intro v' w' hown hg hat)
  go_ret
  exact ⟨(Below.refl _ _ |>.alloc (Nat.le_refl _) _).grown hg (by simp) (fun k hk => by have := ownBlock_eq hk; omega), _, rfl, hown⟩

set_option maxHeartbeats 400000 in
theorem baseTexts_any (l : List ByteArray) (A : Option Addr) (ca : Nat) (S : Nat → Prop) (w : World) (h : Arr w S A l) :
    Calls Tryz.prog 96 #[.slice A l.length ca] w (RetOwn w 9 S l) := by
  have hby := reach_app h.1
  have hl := h.len
  have hfoot : ∀ b, b < w.heap.size → (Value.slice (some ⟨w.heap.size, 0, none⟩) 0 0).ownBlock ≠ some b := fun b hb e => by simp [Value.ownBlock] at e; omega
  go_enter Tryz.func96, Tryz.ntmps96
  go_wp2_with (at_builtin; refine wpList_own_src rfl _ _ 34 rfl w.heap.size 9 elStr (fun b => S b ∧ b < w.heap.size) _ [] rfl (Own.made w _ _ _ (Nat.le_refl _)) A ca l rfl (h.keep (fun b hS hlt => ⟨⟨⟨hS, hlt⟩, hfoot b hlt⟩, Below.heap_alloc _ _ _ hlt⟩)) hby (by simpa using hl) (by simp) ?_; intro v' w' hown hg hat)
  go_ret
  exact ⟨(Below.refl _ _ |>.alloc (Nat.le_refl _) _).grown hg (by simp) (fun k hk => by have := ownBlock_eq hk; omega), _, rfl, hown⟩

/-! ### Structs that are handed back -/
set_option maxHeartbeats 1000000 in
theorem baseVersion_any (v : Ver) (va : List Value) (S : Nat → Prop) (w : World) (h : Cd.rep w S v va) :
    Calls Tryz.prog 48 #[.agg va.toArray] w fun e w' => Below w.heap.size w w' ∧ ∃ vs, e = .returned (.agg vs.toArray) ∧ Cd.rep w' (fun b => (S b ∧ b < w.heap.size) ∨ w.heap.size ≤ b) v vs := by
  obtain ⟨A, ca, rfl, ha, hta⟩ := h
  have hla := ha.len
  replace ha := ha.old
  go_enter Tryz.func48, Tryz.ntmps48
  go_wp2
  generalize hW0 : ((w.alloc (.cells #[.slice A v.parts.length ca, .string v.tail] 33)).alloc (.cells #[.slice none 0 0, .string { data := #[] }] 33)) = W0
  have hB0 : Below w.heap.size w W0 := by rw [← hW0]; (repeat (first | exact Below.refl _ _ | assumption | (refine Below.setCell ?_ (by first | omega | (simp; done) | (simp; omega) | exact Below.size (by assumption)) _) | (refine Below.alloc ?_ (by first | omega | (simp; done) | (simp; omega) | exact Below.size (by assumption)) _) | refine Below.drew ?_ | refine Below.trans0 ?_ (by assumption)))
  have x0 : W0.cell? ⟨w.heap.size, 0, none⟩ = some (.slice A v.parts.length ca) := by rw [← hW0]; simp
  have x1 : W0.cell? ⟨w.heap.size, 1, none⟩ = some (.string v.tail) := by rw [← hW0]; simp
  have y0 : W0.cell? ⟨w.heap.size + 1, 0, none⟩ = some (.slice none 0 0) := by rw [← hW0]; simp
  have y1 : W0.cell? ⟨w.heap.size + 1, 1, none⟩ = some (.string { data := #[] }) := by rw [← hW0]; simp
  have f0 : W0.frozen? ⟨w.heap.size + 1, 0, none⟩ = false := by rw [← hW0]; simp
  have f1 : W0.frozen? ⟨w.heap.size + 1, 1, none⟩ = false := by rw [← hW0]; simp
  clear hW0
  have b0 : w.heap.size < W0.heap.size := World.block_lt_of_cell? W0 _ x0
  have b1 : w.heap.size + 1 < W0.heap.size := World.block_lt_of_cell? W0 _ y0
  have hI : ∀ w1, Below W0.drew.heap.size W0.drew w1 → Below W0.heap.size W0 w1 := fun w1 h => ((Below.refl _ W0).drew).trans h
  go_region_held3 (fun W => W.cell? ⟨w.heap.size, 0, none⟩ = some (.slice A v.parts.length ca) ∧ W.cell? ⟨w.heap.size, 1, none⟩ = some (.string v.tail)) (go_keep) ((go_at_call 13; refine (baseInts_any v.parts A ca _ _ (ha.below hB0.drew)).mono ?_; rintro e w1 ⟨hw1, u, rfl, hown⟩; obtain ⟨A', c', rfl⟩ := hown.form; replace hw1 := hI w1 hw1; obtain ⟨q1, q2⟩ := bcell hw1; replace x0 := (q1 _ _ b0).trans x0; replace x1 := (q1 _ _ b0).trans x1; replace y0 := (q1 _ _ b1).trans y0; replace y1 := (q1 _ _ b1).trans y1; replace f0 := (q2 _ _ b1).trans f0; replace f1 := (q2 _ _ b1).trans f1; clear q1 q2))
  go_wp2
  have hz1 := hw1.size
  have n1 : ¬ w.heap.size + 1 < w.heap.size := by omega
  refine bodyPost_ret (v := .agg #[.slice A' v.parts.length c', .string v.tail]) (by simp [results, Tryz.results48, go_sem, y0, y1]) rfl ⟨?_, [_, _], rfl, ?_⟩
  · exact ((hB0.trans (hw1.mono hB0.size)).setCell (by simp) _).setCell (by simp) _
  · obtain ⟨A2, c2, e2, hr⟩ := hown.rep (S' := fun b => (S b ∧ b < w.heap.size) ∨ W0.heap.size ≤ b) (fun b _ h => .inl h.1) (fun b h _ => .inr h) ha.1 hla
    cases e2
    exact ⟨_, _, rfl, (hr.set _ _ (S' := fun b => (S b ∧ b < w.heap.size) ∨ W0.heap.size ≤ b) (fun b h _ => ⟨h, by simp only; omega⟩)).set _ _ (fun b h _ => ⟨by rcases h with h | h; exact .inl h; exact .inr (by omega), by simp only; omega⟩), hta⟩

end Go.Proofs.YtppbjmhllmaakaaGreatDoor
