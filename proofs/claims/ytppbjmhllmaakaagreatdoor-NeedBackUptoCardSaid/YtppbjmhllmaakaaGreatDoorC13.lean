/- Contracts: copies of clauses and packages (sutlerbase). -/
import Derived.Test.YtppbjmhllmaakaaGreatDoorC12
set_option linter.unusedVariables false
namespace Go.Proofs.YtppbjmhllmaakaaGreatDoor
open Go.RowKit

/-- In blocks of S that were there, or new ones. -/
def Fr (w : World) (S : Nat → Prop) (b : Nat) : Prop := (S b ∧ b < w.heap.size) ∨ w.heap.size ≤ b
theorem frozen_box {w : World} {cs : Array Value} {e : TypeId} (b o : Nat) (h : b = w.heap.size) : (w.alloc (.cells cs e)).frozen? ⟨b, o, none⟩ = false := by subst h; simp

set_option maxHeartbeats 2000000 in
set_option maxRecDepth 100000 in
theorem baseClauses_any (l : List Clause) (A : Option Addr) (ca : Nat) (S : Nat → Prop) (w : World) (h : Arr w S A l) :
    Calls Tryz.prog 14 #[.slice A l.length ca] w fun e w' => Below w.heap.size w w' ∧ ∃ A' c', e = .returned (.slice A' l.length c') ∧ Arr w' (Fr w S) A' l := by
  have hl := h.len
  have hby := h.1
  replace h := h.old
  go_enter Tryz.func14, Tryz.ntmps14
  go_wp2
  have hown0 : Own (w.alloc (.cells #[] 48)) w.heap.size 48 (Fr w S) (.slice (some ⟨w.heap.size, 0, none⟩) 0 0) ([] : List Clause) := Own.made w _ _ _ (Nat.le_refl _)
  have hB0 : Below w.heap.size w (w.alloc (.cells #[] 48)) := by (repeat (first | exact Below.refl _ _ | assumption | (refine Below.setCell ?_ (by first | omega | (simp; done) | (simp; omega) | exact Below.size (by assumption)) _) | (refine Below.alloc ?_ (by first | omega | (simp; done) | (simp; omega) | exact Below.size (by assumption)) _) | refine Below.drew ?_ | refine Below.trans0 ?_ (by assumption)))
  generalize w.alloc (.cells #[] 48) = w1 at *
  go_loopw [3, 4] (fun o i wr => Below w.heap.size w wr ∧ ∃ k : Nat, k ≤ l.length ∧ i = .int .i64 k ∧ Own wr w.heap.size 48 (Fr w S) o (l.take k)) (fun _ i _ => l.length - (intOf i).toNat)
  case atStart => exact ⟨hB0, 0, Nat.zero_le _, rfl, hown0⟩
  case round =>
    obtain ⟨hb, k, hk, rfl, hown⟩ := hrel
    by_cases hlt : k < l.length
    · obtain ⟨b1, o1, B1, c1, rfl, hb1, hc11, hc12, -, hr1⟩ := (h.below hb).getClause k hlt
      have hll := hr1.len
      have hby1 := hr1.1
      obtain ⟨wo, hwo⟩ : ∃ wo : World, wo = wr := ⟨_, rfl⟩
      subst hwo
      go_wp2
      have hB1 : Below wo.heap.size wo (wo.alloc (.cells #[.bool l[k].neg, .slice none 0 0] 48)) := by (repeat (first | exact Below.refl _ _ | assumption | (refine Below.setCell ?_ (by first | omega | (simp; done) | (simp; omega) | exact Below.size (by assumption)) _) | (refine Below.alloc ?_ (by first | omega | (simp; done) | (simp; omega) | exact Below.size (by assumption)) _) | refine Below.drew ?_ | refine Below.trans0 ?_ (by assumption)))
      have x0 : (wo.alloc (.cells #[.bool l[k].neg, .slice none 0 0] 48)).cell? ⟨wo.heap.size, 0, none⟩ = some (.bool l[k].neg) := by simp
      have x1 : (wo.alloc (.cells #[.bool l[k].neg, .slice none 0 0] 48)).cell? ⟨wo.heap.size, 1, none⟩ = some (.slice none 0 0) := by simp
      have f1 : (wo.alloc (.cells #[.bool l[k].neg, .slice none 0 0] 48)).frozen? ⟨wo.heap.size, 1, none⟩ = false := by simp
      generalize wo.alloc (.cells #[.bool l[k].neg, .slice none 0 0] 48) = W1 at *
      have hbo := hb.size
      go_loopw [6] (fun j w2 => Below wo.heap.size wo w2 ∧ ∃ m : Nat, m ≤ l[k].any.length ∧ j = .int .i64 m ∧ ∃ v', w2.cell? ⟨wo.heap.size, 0, none⟩ = some (.bool l[k].neg) ∧ w2.cell? ⟨wo.heap.size, 1, none⟩ = some v' ∧ w2.frozen? ⟨wo.heap.size, 1, none⟩ = false ∧
        Own w2 (wo.heap.size + 1) 51 (fun b => (S b ∧ b < w.heap.size) ∨ wo.heap.size < b) v' (l[k].any.take m)) (fun j _ => l[k].any.length - (intOf j).toNat)
      case atStart => exact ⟨hB1, 0, Nat.zero_le _, rfl, _, x0, x1, f1, Own.nil _ _ _ _⟩
      case round =>
        obtain ⟨hx, m, hm, rfl, v', x0', x1', f1', hownA⟩ := hrel
        clear x0 x1 f1 hB1
        have hz : wo.heap.size < wr.heap.size := World.block_lt_of_cell? wr _ x0'
        obtain ⟨Aa, na, cca, rfl, hna⟩ := hownA.form2
        obtain ⟨q1, -⟩ := bcell hx
        rw [← q1 _ _ hb1] at hc11 hc12
        clear q1
        have hb1' := Nat.lt_of_lt_of_le hb1 hx.size
        by_cases hmt : m < l[k].any.length
        · obtain ⟨b3, o3, B3, c3, rfl, hb3, n0, n1, n2, n3, hn⟩ := (hr1.below hx).getNeed m hmt
          have hn' := hn
          obtain ⟨Ap, cp, en, hs1, hs2, hs3, hs4⟩ := hn'
          have hzz : wo.heap.size < wr.heap.size + 1 := by omega
          have hne : ¬ wo.heap.size = wr.heap.size := by omega
          have hne' : ¬ wr.heap.size = wo.heap.size := by omega
          go_wp2_with (first | (at_builtin; refine Hold.out ?_) | (go_at_call 48; refine (baseVersion_any l[k].any[m].ver [_, _] _ _ ⟨_, _, rfl, hs3.below (by (repeat (first | exact Below.refl _ _ | assumption | (refine Below.setCell ?_ (by first | omega | (simp; done) | (simp; omega) | exact Below.size (by assumption)) _) | (refine Below.alloc ?_ (by first | omega | (simp; done) | (simp; omega) | exact Below.size (by assumption)) _) | refine Below.drew ?_ | refine Below.trans0 ?_ (by assumption)))), hs4⟩).mono ?_; rintro e w4 ⟨hw4, vs, rfl, hver⟩; obtain ⟨A2, c2, rfl, hv1, hv2⟩ := hver; have z0 : wr.heap.size < w4.heap.size := (by have := hw4.size; simp at this; omega); have z1 : wo.heap.size < w4.heap.size := (by omega); obtain ⟨q1, q2⟩ := bcell hw4))
          refine ⟨?_⟩
          have hb4 : Below wr.heap.size wr w4 := by (repeat (first | exact Below.refl _ _ | assumption | (refine Below.setCell ?_ (by first | omega | (simp; done) | (simp; omega) | exact Below.size (by assumption)) _) | (refine Below.alloc ?_ (by first | omega | (simp; done) | (simp; omega) | exact Below.size (by assumption)) _) | refine Below.drew ?_ | refine Below.trans0 ?_ (by assumption)))
          have hbw4 : Below wo.heap.size wo w4 := hx.trans (hb4.mono hx.size)
          -- the need's box, the version's copy in it
          obtain ⟨W5, hW5⟩ : ∃ W5, W5 = (w4.setCell ⟨wr.heap.size, 2, none⟩ (.slice A2 l[k].any[m].ver.parts.length c2)).setCell ⟨wr.heap.size, 2 + 1, none⟩ (.string l[k].any[m].ver.tail) := ⟨_, rfl⟩
          have hb5 : Below wr.heap.size wr W5 := by rw [hW5]; exact (hb4.setCell (Nat.le_refl _) _).setCell (Nat.le_refl _) _
          have hwr : w.heap.size ≤ wr.heap.size := Nat.le_trans hbo hx.size
          have hsz3 : ∀ o, (wr.alloc o).heap.size = wr.heap.size + 1 := fun o => by simp
          rw [hsz3] at hv1
          have hF : ∀ b, ((S b ∧ b < w.heap.size) ∨ wr.heap.size + 1 ≤ b) → ((S b ∧ b < w.heap.size) ∨ wr.heap.size < b) ∧ b ≠ wr.heap.size := by
            intro b hbb
            rcases hbb with h | h
            · exact ⟨.inl h, by omega⟩
            · exact ⟨.inr (by omega), by omega⟩
          have hv5 : Arr W5 (fun b => (S b ∧ b < w.heap.size) ∨ wr.heap.size < b) A2 l[k].any[m].ver.parts := by
            rw [hW5]
            exact (hv1.set _ _ (S' := fun b => (S b ∧ b < w.heap.size) ∨ wr.heap.size < b) (fun b h _ => hF b (h.imp (fun h => h.1) id))).set _ _ (fun b h _ => ⟨h, by simp only; rcases h with h | h <;> omega⟩)
          have hownW := hownA.below hb5
          have hAb : ∀ b, ((S b ∧ b < w.heap.size) ∨ wr.heap.size < b) → ((S b ∧ b < w.heap.size) ∨ wo.heap.size < b) ∧ (Value.slice Aa na cca).ownBlock ≠ some b := by
            intro b hbb
            refine ⟨?_, fun e => ?_⟩
            · rcases hbb with h | h
              · exact .inl h
              · exact .inr (by omega)
            · have := hownA.block_ge b e
              rcases hbb with h | h <;> omega
          have hrep5 : Cd.rep W5 (fun b => ((S b ∧ b < w.heap.size) ∨ wo.heap.size < b) ∧ (Value.slice Aa na cca).ownBlock ≠ some b) l[k].any[m] [.string l[k].any[m].name, .int .i64 l[k].any[m].op, .slice A2 l[k].any[m].ver.parts.length c2, .string l[k].any[m].ver.tail] :=
            ⟨A2, c2, rfl, hs1, hs2, hv5.mono (fun b _ h => hAb b h), hv2⟩
          rw [← hW5]
          have hlm : (l[k].any.take m).length = m := by rw [List.length_take]; omega
          have hS5 : W5.heap.size = w4.heap.size := by rw [hW5]; simp
          refine wpList_own_app rfl _ _ 46 rfl (wo.heap.size + 1) 51 elNeed (fun b => (S b ∧ b < w.heap.size) ∨ wo.heap.size < b) (.slice Aa na cca) (l[k].any.take m) ?_ (hownW.below ((Below.refl _ _).alloc (Nat.le_refl _) _)) ⟨W5.heap.size, 0, none⟩ 1 [l[k].any[m]] ?_ (Src.one 51 hrep5) ?_ ?_ ?_ ?_
          · simp [Act.eval]
          · simp [Act.eval, hS5]
          · rw [hlm]; exact app_bound hby1 (by simp; omega)
          · rw [hlm]; simp; omega
          · simp; omega
          intro v2 w6 hown6 hg6 hat6
          have hne1 : (Value.slice Aa na cca).ownBlock ≠ some wo.heap.size := fun e => by have := hownA.block_ge _ e; omega
          have y0 : w6.cell? ⟨wo.heap.size, 0, none⟩ = some (.bool l[k].neg) := grown_cell hg6 (box_below (hb5.trans (((Below.refl _ W5).alloc (Nat.le_refl _) _).mono hb5.size)) x0') hne1
          have y1 : w6.cell? ⟨wo.heap.size, 1, none⟩ = some (.slice Aa na cca) := grown_cell hg6 (box_below (hb5.trans (((Below.refl _ W5).alloc (Nat.le_refl _) _).mono hb5.size)) x1') hne1
          have g1 : w6.frozen? ⟨wo.heap.size, 1, none⟩ = false := by
            refine grown_frozen hg6 (by simp; have := hb5.size; omega) ?_ hne1
            have e : (W5.alloc (.cells #[.string l[k].any[m].name, .int .i64 l[k].any[m].op, .slice A2 l[k].any[m].ver.parts.length c2, .string l[k].any[m].ver.tail] 51)).frozen? ⟨wo.heap.size, 1, none⟩ = wr.frozen? ⟨wo.heap.size, 1, none⟩ :=
              (hb5.trans (((Below.refl _ W5).alloc (Nat.le_refl _) _).mono hb5.size)).frozen (p := ⟨wo.heap.size, 1, none⟩) hz
            exact e.trans f1'
          have hb6 : Below wo.heap.size wo w6 := (hx.trans ((hb5.trans (((Below.refl _ W5).alloc (Nat.le_refl _) _).mono hb5.size)).mono hx.size)).grown hg6 (by simp; have := hb5.size; omega) (fun b e => by have := hownA.block_ge _ e; omega)
          have hcell6 : (w6.setCell ⟨wo.heap.size, 1, none⟩ v2).cell? ⟨wo.heap.size, 1, none⟩ = some v2 := by simp [go_sem, y1]
          have hcell7 : (w6.setCell ⟨wo.heap.size, 1, none⟩ v2).cell? ⟨wo.heap.size, 0, none⟩ = some (.bool l[k].neg) := by simp [go_sem, y0]
          obtain ⟨A6, n6, c6, rfl, hn6⟩ := hown6.form2
          clear hg6 hat6 hown hownW hv5 hrep5 hS5 hb5 hW5 hlm hsz3 hF hAb hownA x0' x1' f1' q1 q2 hc11 hc12 n0 n1 n2 n3
          go_wp2
          go_roundw
          case rel =>
            refine ⟨hb6.setCell (Nat.le_refl _) _, m + 1, by omega, by go_num, _, hcell7, hcell6, by simp [go_sem, g1], ?_⟩
            rw [← List.take_append_getElem hmt]
            exact hown6.set _ _ (by simp) (fun b h => by simp only; rcases h with h | h <;> omega)
          case measure => simp [intOf]; omega
        · rw [List.take_of_length_le (by omega)] at hownA
          have hwr : w.heap.size ≤ wr.heap.size := Nat.le_trans hbo hx.size
          obtain ⟨A2, c2, e2, hr⟩ := hownA.rep (S' := fun b => (S b ∧ b < w.heap.size) ∨ wo.heap.size < b) (fun b _ h => h) (fun b h _ => .inr h) hby1 hll
          simp only [Value.slice.injEq] at e2
          obtain ⟨rfl, rfl, rfl⟩ := e2
          have hbw := hb.trans (hx.mono hb.size)
          have hownO := hown.below hx
          have hlm : (l.take k).length = k := by rw [List.length_take]; omega
          have hAb : ∀ b, ((S b ∧ b < w.heap.size) ∨ wo.heap.size < b) → Fr w S b ∧ Value.ownBlock u3 ≠ some b := by
            intro b hbb
            refine ⟨?_, fun e => ?_⟩
            · rcases hbb with h | h
              · exact .inl h
              · exact .inr (by omega)
            · have := hown.block_ge b e
              rcases hbb with h | h <;> omega
          have hrep : Cd.rep wr (fun b => Fr w S b ∧ Value.ownBlock u3 ≠ some b) l[k] [.bool l[k].neg, .slice Aa l[k].any.length cca] := ⟨Aa, cca, rfl, hr.mono (fun b _ h => hAb b h)⟩
          have Hlm := Lib.hid hlm
          clear hlm
          go_wp2_with (at_builtin; refine Hold.out ?_)
          refine ⟨?_⟩
          refine wpList_own_app rfl _ _ 24 rfl w.heap.size 48 elClause (Fr w S) u3 (l.take k) ?_ (hownO.below ((Below.refl _ _).alloc (Nat.le_refl _) _)) ⟨wr.heap.size, 0, none⟩ 1 [l[k]] ?_ (Src.one 48 hrep) ?_ ?_ ?_ ?_
          · simp [Act.eval]
          · simp [Act.eval]
          · rw [Hlm.out]; exact app_bound hby (by simp; omega)
          · rw [Hlm.out]; simp; omega
          · simp; omega
          intro v2 w6 hown6 hg6 hat6
          have hb6 : Below w.heap.size w w6 := (hbw.alloc hwr _).grown hg6 (by simp; omega) (fun b e => (hown.block_ge _ e).1)
          clear hg6 hat6 hownO hrep hAb hownA hr x0' x1' f1' hc11 hc12
          go_wp2
          go_roundw
          case rel =>
            refine ⟨hb6, k + 1, by omega, by go_num, ?_⟩
            rw [← List.take_append_getElem hlt]
            exact hown6
          case measure => simp [intOf]; omega
    · go_wp2
      go_ret
      rw [List.take_of_length_le (by omega)] at hown
      obtain ⟨A2, c2, e2, hr⟩ := hown.rep (fun b _ h => h) (fun b h _ => .inr h) hby hl
      exact ⟨hb, A2, c2, by rw [← e2]; rfl, hr⟩

set_option maxHeartbeats 4000000 in
set_option maxRecDepth 100000 in
theorem basePkg_any (p : Pkg) (va : List Value) (S : Nat → Prop) (w : World) (h : Cd.rep w S p va) :
    Calls Tryz.prog 43 #[.agg va.toArray] w fun e w' => Below w.heap.size w w' ∧ ∃ vs, e = .returned (.agg vs.toArray) ∧ Cd.rep w' (Fr w S) p vs := by
  obtain ⟨A, a, B, b, C, c, rfl, h1, h2, h3, h4, h5⟩ := h
  have l2 := h2.len
  have l4 := h4.len
  have l5 := h5.len
  have r2 := h2.1
  have r4 := h4.1
  replace h2 := h2.old
  replace h4 := h4.old
  replace h5 := h5.old
  go_enter Tryz.func43, Tryz.ntmps43
  go_wp2
  generalize hW0 : ((w.alloc (.cells #[.string p.name, .slice A p.ver.parts.length a, .string p.ver.tail, .slice B p.provides.length b, .slice C p.clauses.length c] 36)).alloc (.cells #[.string { data := #[] }, .slice none 0 0, .string { data := #[] }, .slice none 0 0, .slice none 0 0] 36)) = W0
  have hB0 : Below w.heap.size w W0 := by rw [← hW0]; (repeat (first | exact Below.refl _ _ | assumption | (refine Below.setCell ?_ (by first | omega | (simp; done) | (simp; omega) | exact Below.size (by assumption)) _) | (refine Below.alloc ?_ (by first | omega | (simp; done) | (simp; omega) | exact Below.size (by assumption)) _) | refine Below.drew ?_ | refine Below.trans0 ?_ (by assumption)))
  have x0 : W0.cell? ⟨w.heap.size, 0, none⟩ = some (.string p.name) := by rw [← hW0]; simp
  have x1 : W0.cell? ⟨w.heap.size, 1, none⟩ = some (.slice A p.ver.parts.length a) := by rw [← hW0]; simp
  have x2 : W0.cell? ⟨w.heap.size, 2, none⟩ = some (.string p.ver.tail) := by rw [← hW0]; simp
  have x3 : W0.cell? ⟨w.heap.size, 3, none⟩ = some (.slice B p.provides.length b) := by rw [← hW0]; simp
  have x4 : W0.cell? ⟨w.heap.size, 4, none⟩ = some (.slice C p.clauses.length c) := by rw [← hW0]; simp
  have y0 : W0.cell? ⟨w.heap.size + 1, 0, none⟩ = some (.string { data := #[] }) := by rw [← hW0]; simp
  have y1 : W0.cell? ⟨w.heap.size + 1, 1, none⟩ = some (.slice none 0 0) := by rw [← hW0]; simp
  have y2 : W0.cell? ⟨w.heap.size + 1, 2, none⟩ = some (.string { data := #[] }) := by rw [← hW0]; simp
  have y3 : W0.cell? ⟨w.heap.size + 1, 3, none⟩ = some (.slice none 0 0) := by rw [← hW0]; simp
  have y4 : W0.cell? ⟨w.heap.size + 1, 4, none⟩ = some (.slice none 0 0) := by rw [← hW0]; simp
  have f0 : W0.frozen? ⟨w.heap.size + 1, 0, none⟩ = false := by rw [← hW0]; simp
  have f1 : W0.frozen? ⟨w.heap.size + 1, 1, none⟩ = false := by rw [← hW0]; simp
  have f2 : W0.frozen? ⟨w.heap.size + 1, 2, none⟩ = false := by rw [← hW0]; simp
  have f3 : W0.frozen? ⟨w.heap.size + 1, 3, none⟩ = false := by rw [← hW0]; simp
  have f4 : W0.frozen? ⟨w.heap.size + 1, 4, none⟩ = false := by rw [← hW0]; simp
  clear hW0
  have b0 : w.heap.size < W0.heap.size := World.block_lt_of_cell? W0 _ x0
  have b1 : w.heap.size + 1 < W0.heap.size := World.block_lt_of_cell? W0 _ y0
  have hI : ∀ w1, Below W0.drew.heap.size W0.drew w1 → Below W0.heap.size W0 w1 := fun w1 h => ((Below.refl _ W0).drew).trans h
  go_region_held3 (fun W => W.cell? ⟨w.heap.size, 0, none⟩ = some (.string p.name) ∧ W.cell? ⟨w.heap.size, 1, none⟩ = some (.slice A p.ver.parts.length a) ∧ W.cell? ⟨w.heap.size, 2, none⟩ = some (.string p.ver.tail) ∧ W.cell? ⟨w.heap.size, 3, none⟩ = some (.slice B p.provides.length b) ∧ W.cell? ⟨w.heap.size, 4, none⟩ = some (.slice C p.clauses.length c)) (go_keep) (first
    | (go_at_call 48; refine (baseVersion_any p.ver [_, _] _ _ ⟨_, _, rfl, h2.below hB0.drew, h3⟩).mono ?_; rintro e w1 ⟨hw1, vs, rfl, A1, c1, rfl, hv1, hv2⟩; replace hw1 := hI w1 hw1; obtain ⟨q1, q2⟩ := bcell hw1; replace x0 := (q1 _ _ b0).trans x0; replace x1 := (q1 _ _ b0).trans x1; replace x2 := (q1 _ _ b0).trans x2; replace x3 := (q1 _ _ b0).trans x3; replace x4 := (q1 _ _ b0).trans x4; clear q1 q2)
    | (go_at_call 96; refine (baseTexts_any p.provides B b _ _ (h4.below (hB0.trans (hw1.mono hB0.size)))).mono ?_; rintro e w2 ⟨hw2, u2, rfl, hown2⟩; obtain ⟨A2, n2, c2, rfl, hn2⟩ := hown2.form2; obtain ⟨q1, q2⟩ := bcell hw2; have b0' := Nat.lt_of_lt_of_le b0 hw1.size; replace x0 := (q1 _ _ b0').trans x0; replace x1 := (q1 _ _ b0').trans x1; replace x2 := (q1 _ _ b0').trans x2; replace x3 := (q1 _ _ b0').trans x3; replace x4 := (q1 _ _ b0').trans x4; clear q1 q2)
    | (go_at_call 14; refine (baseClauses_any p.clauses C c _ _ (h5.below (hB0.trans ((hw1.trans (hw2.mono hw1.size)).mono hB0.size)))).mono ?_; rintro e w3 ⟨hw3, A3, c3, rfl, hr3⟩; have hall := hw1.trans ((hw2.trans (hw3.mono hw2.size)).mono hw1.size); obtain ⟨q1, q2⟩ := bcell hw3; have b0'' := Nat.lt_of_lt_of_le b0' hw2.size; replace x0 := (q1 _ _ b0'').trans x0; replace x1 := (q1 _ _ b0'').trans x1; replace x2 := (q1 _ _ b0'').trans x2; replace x3 := (q1 _ _ b0'').trans x3; replace x4 := (q1 _ _ b0'').trans x4; clear q1 q2; obtain ⟨q1, q2⟩ := bcell hall; replace y0 := (q1 _ _ b1).trans y0; replace y1 := (q1 _ _ b1).trans y1; replace y2 := (q1 _ _ b1).trans y2; replace y3 := (q1 _ _ b1).trans y3; replace y4 := (q1 _ _ b1).trans y4; replace f0 := (q2 _ _ b1).trans f0; replace f1 := (q2 _ _ b1).trans f1; replace f2 := (q2 _ _ b1).trans f2; replace f3 := (q2 _ _ b1).trans f3; replace f4 := (q2 _ _ b1).trans f4; clear q1 q2))
  obtain ⟨fin, hfin⟩ : ∃ fin, fin = ((((w3.setCell ⟨w.heap.size + 1, 0, none⟩ (.string p.name)).setCell ⟨w.heap.size + 1, 1, none⟩ (.slice A1 p.ver.parts.length c1)).setCell ⟨w.heap.size + 1, 2, none⟩ (.string p.ver.tail)).setCell ⟨w.heap.size + 1, 3, none⟩ (.slice A2 n2 c2)).setCell ⟨w.heap.size + 1, 4, none⟩ (.slice A3 p.clauses.length c3) := ⟨_, rfl⟩
  have hB3 : Below w.heap.size w w3 := hB0.trans (hall.mono hB0.size)
  have hBf : Below w.heap.size w fin := by
    rw [hfin]; exact ((((hB3.setCell (by simp) _).setCell (by simp) _).setCell (by simp) _).setCell (by simp) _).setCell (by simp) _
  have hb3 : ∀ b, b ≠ w.heap.size + 1 → fin.heap[b]? = w3.heap[b]? := by
    intro b hb
    rw [hfin, Below.heap_setCell _ _ _ _ hb, Below.heap_setCell _ _ _ _ hb, Below.heap_setCell _ _ _ _ hb, Below.heap_setCell _ _ _ _ hb, Below.heap_setCell _ _ _ _ hb]
  have z1 := hw1.size
  have z2 := hw2.size
  have hver : Arr fin (Fr w S) A1 p.ver.parts := (hv1.below (hw2.trans (hw3.mono hw2.size))).keep fun b h _ => by
    rcases h with h | h
    · exact ⟨.inl h.1, hb3 b (by have := h.1.2; omega)⟩
    · have h' : W0.heap.size ≤ b := h
      exact ⟨.inr (by omega), hb3 b (by omega)⟩
  obtain ⟨A2', c2', e2, hr2⟩ := hown2.rep (S' := fun b => ((S b ∧ b < w.heap.size) ∨ w1.heap.size ≤ b)) (fun b _ h => .inl h.1) (fun b h _ => .inr h) r4 l4
  simp only [Value.slice.injEq] at e2
  obtain ⟨rfl, rfl, rfl⟩ := e2
  have hpro : Arr fin (Fr w S) A2 p.provides := (hr2.below hw3).keep fun b h _ => by
    rcases h with h | h
    · exact ⟨.inl h, hb3 b (by have := h.2; omega)⟩
    · exact ⟨.inr (by omega), hb3 b (by omega)⟩
  have hcl : Arr fin (Fr w S) A3 p.clauses := hr3.keep fun b h _ => by
    rcases h with h | h
    · exact ⟨.inl h.1, hb3 b (by have := h.1.2; omega)⟩
    · exact ⟨.inr (by omega), hb3 b (by omega)⟩
  have c0' : fin.cell? ⟨w.heap.size + 1, 0, none⟩ = some (.string p.name) := by rw [hfin]; simp [go_sem, y0]
  have c1' : fin.cell? ⟨w.heap.size + 1, 1, none⟩ = some (.slice A1 p.ver.parts.length c1) := by rw [hfin]; simp [go_sem, y1]
  have c2' : fin.cell? ⟨w.heap.size + 1, 2, none⟩ = some (.string p.ver.tail) := by rw [hfin]; simp [go_sem, y2]
  have c3' : fin.cell? ⟨w.heap.size + 1, 3, none⟩ = some (.slice A2 p.provides.length c2) := by rw [hfin]; simp [go_sem, y3]
  have c4' : fin.cell? ⟨w.heap.size + 1, 4, none⟩ = some (.slice A3 p.clauses.length c3) := by rw [hfin]; simp [go_sem, y4]
  have hp1 := h1
  have hp3 := h3
  rw [← hfin]
  clear hfin hb3 hown2 hr2 hv1 hr3 x0 x1 x2 x3 x4 y0 y1 y2 y3 y4 f0 f1 f2 f3 f4 hw1 hw2 hw3 hall hI
  go_wp2
  refine bodyPost_ret (v := .agg #[.string p.name, .slice A1 p.ver.parts.length c1, .string p.ver.tail, .slice A2 p.provides.length c2, .slice A3 p.clauses.length c3]) (by simp [results, Tryz.results43, go_sem, c0', c1', c2', c3', c4']) rfl ⟨hBf, [_, _, _, _, _], rfl, _, _, _, _, _, _, rfl, hp1, hver, hp3, hpro, hcl⟩

end Go.Proofs.YtppbjmhllmaakaaGreatDoor
