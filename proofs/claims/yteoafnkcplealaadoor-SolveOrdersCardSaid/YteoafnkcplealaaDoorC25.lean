/- Contract: base.Sorted. -/
import Derived.Test.YteoafnkcplealaaDoorC24
import Derived.Test.YteoafnkcplealaaDoorX8
set_option linter.unusedVariables false
namespace Go.Proofs.YteoafnkcplealaaDoor
open Go.RowKit

/-- Elements without slices of their own. -/
class Flat (α : Type) [Cd α] : Prop where
  any : ∀ {w w' : World} {S S' : Nat → Prop} {x : α} {vs : List Value}, Cd.rep w S x vs → Cd.rep w' S' x vs
instance : Flat ByteArray := ⟨fun h => h⟩
instance : Flat Int := ⟨fun h => h⟩
theorem run_own_flat {α : Type} [Cd α] [Flat α] {P : Program} {w : World} (t ty : TypeId) (base : Nat) (e : TypeId) (hE : ElemT P t e (Cd.n α) (Cd.bytes α)) (S S2 : Nat → Prop) (v : Value) (l : List α) (hown : Own w base e S v l)
    (A : Option Addr) (c : Nat) (r : List α) (hsrc : Arr w S2 A r)
    (hbytes : (l.length + r.length) * Cd.bytes α ≤ 140737488355328) (hlen : l.length + r.length ≤ 9223372036854775807) (hbase : base ≤ w.heap.size) :
    ∃ v' w', (Builtin.append_ #[t, t] ty #[v, .slice A r.length c]).run P w = .ok v' w' ∧ Own w' base e S v' (l ++ r) ∧ w.grownBy w' v.ownBlock ∧ (v'.ownBlock = v.ownBlock ∨ v'.ownBlock = some w.heap.size) := by
  cases r with
  | nil =>
    obtain ⟨i, z, hi, _⟩ := hE.info
    have hown' := hown
    obtain ⟨xs, h1, _⟩ := hown
    exact ⟨v, w, run_app_none (P := P) (w := w) base t ty e i _ hE.ht hi v l.length xs h1 A c, by rw [List.append_nil]; exact hown', ⟨rfl, rfl, rfl, Nat.le_refl _, fun _ _ _ => rfl⟩, .inl rfl⟩
  | cons y r =>
    obtain ⟨b, ofs, rfl, _⟩ := hsrc.lt (by simp)
    obtain ⟨xs, h1, h2⟩ := hown
    obtain ⟨news, k1, k2, k3⟩ := hsrc.src
    obtain ⟨i, z, hi, hz, hz1, hz2, hz3⟩ := hE.info
    obtain ⟨v', w', g0, g1, g2, _, g4⟩ := run_append_own_at (P := P) w base t ty e i z (Cd.n α) (Cd.bytes α) hE.ht hi hz hz1 hz2 hz3 Cd.pos v l.length xs h1 ⟨b, ofs, none⟩ (y :: r).length c news k1.1 k2 k3 (by unfold maxLen; omega) hbytes hbase
    exact ⟨v', w', g0, ⟨xs ++ news, by rw [List.length_append]; exact g1, (h2.mono fun y vs h => Flat.any h).append (k1.mono fun y vs h => Flat.any h)⟩, g2, g4⟩
/-- append, of elements without slices of their own, as one step of a region that draws its order. -/
theorem step_own_flat {α : Type} [Cd α] [Flat α] {P : Program} {w : World} {ops : Array Oper} {o : Oper} {a : Act} {K : Act → World → Prop} {Q : Exit → Act → World → Prop} {E : Prop} (hgd : o.guard = none) (s x : Operand) (t : TypeId)
    (ho : o.op = .call { callee := .builtin .append, args := #[s, x], argTypes := #[t, t] })
    (base : Nat) (e : TypeId) (hE : ElemT P t e (Cd.n α) (Cd.bytes α)) (S S2 : Nat → Prop) (v : Value) (l : List α) (hs : a.eval s = v) (hown : Own w base e S v l)
    (A : Option Addr) (c : Nat) (r : List α) (hx : a.eval x = .slice A r.length c) (hsrc : Arr w S2 A r)
    (hbytes : (l.length + r.length) * Cd.bytes α ≤ 140737488355328) (hlen : l.length + r.length ≤ 9223372036854775807) (hbase : base ≤ w.heap.size)
    (h : ∀ v' w', Own w' base e S v' (l ++ r) → w.grownBy w' v.ownBlock → (v'.ownBlock = v.ownBlock ∨ v'.ownBlock = some w.heap.size) → K (a.put o.dst v') w') :
    if Region.wanted o (yielded ops a.tmps) = true then Oper.wp P o a w K Q else E := by
  have hw : Region.wanted o (yielded ops a.tmps) = true := by simp [Region.wanted, hgd]
  rw [if_pos hw]
  obtain ⟨v', w', hrun, h1, h2, h3⟩ := run_own_flat (P := P) t o.type base e hE S S2 v l hown A c r hsrc hbytes hlen hbase
  unfold Oper.wp
  simp [execOp, ho, resolve, invoke, builtin, hs, hx, hrun, Result.andThen]
  exact h v' w' h1 h2 h3
theorem own_empty {α : Type} [Cd α] {w : World} {base g : Nat} {e : TypeId} {S : Nat → Prop} (hg : w.heap[g]? = some (.cells #[] e (0, 0))) (hb : base ≤ g) : Own w base e S (.slice (some ⟨g, 0, none⟩) 0 0) ([] : List α) :=
  ⟨[], ⟨by simp, .inr ⟨g, 0, #[], rfl, hb, hg, Nat.zero_le _, by simp [maxLen], by simp, by simp⟩⟩, Chunks.nil _ _⟩
theorem Own.base {α : Type} [Cd α] {w : World} {base base' : Nat} {e : TypeId} {S : Nat → Prop} {v : Value} {l : List α} (h : Own w base e S v l) (hb : base' ≤ base) : Own w base' e S v l := by
  obtain ⟨xs, h1, h2⟩ := h
  refine ⟨xs, ⟨h1.1, ?_⟩, h2⟩
  rcases h1.2 with h0 | ⟨g, cap, cur, hv, hg, hr⟩
  · exact .inl h0
  · exact .inr ⟨g, cap, cur, hv, Nat.le_trans hb hg, hr⟩
theorem own_form3 {α : Type} [Cd α] {w : World} {base : Nat} {e : TypeId} {S : Nat → Prop} {v : Value} {l : List α} (h : Own w base e S v l) : v = .slice none 0 0 ∨ ∃ g cap, v = .slice (some ⟨g, 0, none⟩) l.length cap ∧ l.length ≤ cap := by
  obtain ⟨xs, h1, h2⟩ := h
  rcases h1.2 with ⟨rfl, _⟩ | ⟨g, cap, cur, rfl, _, _, hc, _⟩
  · exact .inl rfl
  · exact .inr ⟨g, cap, rfl, hc⟩
theorem he1 (w : World) {W : World} (t : TypeId) (h : W.heap = (w.alloc (.cells #[] t)).heap) : W.heap[w.heap.size]? = some (.cells #[] t (0, 0)) := by
  rw [h]; exact (MapKept.heap_alloc w _).1
theorem he2 (w : World) {W : World} (t : TypeId) {o : Obj} (h : W.heap = ((w.alloc (.cells #[] t)).alloc o).heap) : W.heap[w.heap.size]? = some (.cells #[] t (0, 0)) := by
  rw [h]; exact ((MapKept.heap_alloc (w.alloc (.cells #[] t)) o).2 _ (by simp)).trans (MapKept.heap_alloc w _).1
theorem he3 (w : World) {W : World} (t : TypeId) {o : Obj} (h : W.heap = ((w.alloc o).alloc (.cells #[] t)).heap) : W.heap[w.heap.size + 1]? = some (.cells #[] t (0, 0)) := by
  rw [h]
  have e1 : (w.alloc o).heap.size = w.heap.size + 1 := by simp
  rw [← e1]; exact (MapKept.heap_alloc (w.alloc o) _).1
theorem g1a {w w9 : World} {o1 : Obj} {x : Value} {e : TypeId} {row : Option Nat} (hg : ((w.alloc o1).alloc (.cells #[x] e)).grownBy w9 row) (hr : row ≠ some (w.heap.size + 1)) : w9.cell? ⟨w.heap.size + 1, 0, none⟩ = some x :=
  have e1 : (w.alloc o1).heap.size = w.heap.size + 1 := by simp
  grown_cell hg (by rw [← e1]; simp) hr
theorem g1ad {w w9 : World} {o1 : Obj} {x : Value} {e : TypeId} {row : Option Nat} (hg : ((w.alloc o1).alloc (.cells #[x] e)).drew.grownBy w9 row) (hr : row ≠ some (w.heap.size + 1)) : w9.cell? ⟨w.heap.size + 1, 0, none⟩ = some x :=
  have e1 : (w.alloc o1).heap.size = w.heap.size + 1 := by simp
  grown_cell hg (by rw [World.cell?_drew, ← e1]; simp) hr
theorem g1b {w w9 : World} {o1 : Obj} {x : Value} {e : TypeId} {row : Option Nat} (hg : ((w.alloc (.cells #[x] e)).alloc o1).grownBy w9 row) (hr : row ≠ some w.heap.size) : w9.cell? ⟨w.heap.size, 0, none⟩ = some x :=
  grown_cell hg (by simp) hr
theorem g1bd {w w9 : World} {o1 : Obj} {x : Value} {e : TypeId} {row : Option Nat} (hg : ((w.alloc (.cells #[x] e)).alloc o1).drew.grownBy w9 row) (hr : row ≠ some w.heap.size) : w9.cell? ⟨w.heap.size, 0, none⟩ = some x :=
  grown_cell hg (by rw [World.cell?_drew]; simp) hr
theorem arr_text1 {w : World} {S : Nat → Prop} {b : Nat} {x : ByteArray} (hS : S b) (hx : x.size ≤ reach) (h0 : w.cell? ⟨b, 0, none⟩ = some (.string x)) : Arr w S (some ⟨b, 0, none⟩) [x] := by
  refine ⟨by change 1 * 16 ≤ _; unfold reach; omega, by simp, fun _ => ⟨b, 0, rfl, hS, fun i y hi => ?_⟩⟩
  match i, hi with
  | 0, hi =>
    cases hi
    refine ⟨[.string x], ⟨rfl, hx⟩, fun j v hj => ?_⟩
    match j, hj with
    | 0, hj => cases hj; exact h0


set_option maxHeartbeats 0 in
set_option maxRecDepth 100000 in
theorem sorted_any (l : List ByteArray) (A : Option Addr) (ca : Nat) (S : Nat → Prop) (w : World) (h : Arr w S A l) :
    Calls Tryd.prog 28 #[.slice A l.length ca] w fun e w' => Below w.heap.size w w' ∧ ∃ A' c', e = .returned (.slice A' (sortT l l.length).length c') ∧ Arr w' (fun b => w.heap.size ≤ b) A' (sortT l l.length) ∧ (sortT l l.length).length ≤ c' := by
  have hl := h.len
  have hby := h.1
  go_enter Tryd.func28, Tryd.ntmps28
  go_wp2
  go_loopw [3, 4] (fun o i wr => Below w.heap.size w wr ∧ ∃ k : Nat, k ≤ l.length ∧ i = .int .i64 k ∧ Own wr w.heap.size 9 (fun _ => False) o (sortT l k)) (fun _ i _ => l.length - (intOf i).toNat)
  case atStart => exact ⟨by (repeat (first | exact Below.refl _ _ | assumption | (refine Below.setCell ?_ (by first | omega | (simp; done) | (simp; omega) | exact Below.size (by assumption)) _) | (refine Below.alloc ?_ (by first | omega | (simp; done) | (simp; omega) | exact Below.size (by assumption)) _) | refine Below.drew ?_ | refine Below.trans0 ?_ (by assumption))), 0, Nat.zero_le _, rfl, Own.made _ _ _ _ (Nat.le_refl _)⟩
  case round =>
    obtain ⟨hb, k, hk, rfl, hown⟩ := hrel
    have hle := sortT_len l hk
    obtain ⟨A2, c2, e2, hr, hc2⟩ := hown.rep2 (S' := fun b => w.heap.size ≤ b) (fun b _ h => h.elim) (fun b h _ => h) (mul_bound hby (by omega)) (by omega)
    subst e2
    by_cases hlt : k < l.length
    · obtain ⟨b, o, rfl, hb1, hs, hcc⟩ := (h.below hb).getS k hlt
      have hst := Lib.hid (sortT_succ hlt)
      have hinst := Lib.hid (insT_eq l[k] (sortT l k))
      generalize hout : sortT l k = out at *
      obtain ⟨wo, hwo⟩ : ∃ wo : World, wo = wr := ⟨_, rfl⟩
      subst hwo
      go_wp2
      go_loopw [5] (fun j w2 => Below wo.heap.size wo w2 ∧ ∃ m : Nat, m ≤ out.length ∧ j = .int .i64 m ∧ Hid (∀ q (h : q < out.length), q < m → slt out[q] l[k] = true)) (fun j _ => out.length - (intOf j).toNat)
      case atStart => exact ⟨Below.refl _ _, 0, Nat.zero_le _, rfl, Lib.hid (fun q h hq => by omega)⟩
      case round =>
        obtain ⟨hb2, m, hm, rfl, hless⟩ := hrel
        by_cases hmt : m < out.length
        · obtain ⟨b2, o2, hA2e, hb3, hs2, hcc2⟩ := (hr.below hb2).getS m hmt
          cases hA2e
          have hb1' : b < wr.heap.size := Nat.lt_of_lt_of_le hb1 hb2.size
          have hccx : wr.cell? ⟨b, o + k, none⟩ = some (.string l[k]) := box_below hb2 hcc
          cases hls : slt out[m] l[k]
          · have hls' : Op.bytesLess out[m].toList l[k].toList = false := hls
            have hpos : Hid (m = posT l[k] out) := Lib.hid (posT_eq hm hless.out (fun _ => hls))
            have hmt' : (m : Int) < out.length := by omega
            cases heq : (out[m].toList == l[k].toList)
            · have hne : ¬ out[m] = l[k] := sne_of heq
              have fin : Hid (sortT l (k + 1) = out.take m ++ l[k] :: out.drop m) := Lib.hid (by rw [hst.out, hinst.out]; have hp := hpos.out; subst hp; rw [dif_pos hmt, if_neg hne])
              clear hls hinst hst hless hne
              go_wp2
              refine region_quiet (by kernel_rfl) (by kernel_rfl) ?_
              repeat (go_big_quiet_step (fail))
              refine wpQuiet_nil ?_
              intro W1 hw1
              replace hw1 := below_of_ext hw1
              replace hcc2 := box_below hw1 hcc2
              replace hccx := box_below hw1 hccx
              replace hb3 : b2 < W1.heap.size := Nat.lt_of_lt_of_le hb3 hw1.size
              replace hb1' : b < W1.heap.size := Nat.lt_of_lt_of_le hb1' hw1.size
              have HB1 : Below wo.heap.size wo W1 := Below.trans0 hb2 hw1 hb2.size
              clear hw1
              go_wp2
              refine region_quiet (by kernel_rfl) (by kernel_rfl) ?_
              repeat (go_big_quiet_step (fail))
              refine wpQuiet_nil ?_
              intro W2 hw2
              replace hw2 := below_of_ext hw2
              replace hccx := box_below hw2 hccx
              replace hb1' : b < W2.heap.size := Nat.lt_of_lt_of_le hb1' hw2.size
              have HB2 : Below wo.heap.size wo W2 := Below.trans0 HB1 hw2 HB1.size
              clear hw2 hcc2
              have a1 : (0 : Int) ≤ m := by omega
              have a2 : (m : Int) ≤ out.length := by omega
              have a3 : (m : Int) ≤ c2 := by omega
              have a4 : (out.length : Int) ≤ c2 := by omega
              have a5 : ¬ (m : Int) = c2 := by omega
              have a6 : ¬ m = c2 := by omega
              have a7 : (k : Int) < l.length := by omega
              have hws : w.heap.size ≤ W2.heap.size := Nat.le_trans hb.size HB2.size
              have hrw : Arr W2 (fun b => w.heap.size ≤ b) (some ⟨b2, o2, none⟩) out := hr.below HB2
              have t1 : (out.take m).length = m := by simp; omega
              have t2 : (out.drop m).length = out.length - m := by simp
              have p1 : Arr W2 (fun b => w.heap.size ≤ b) (some ⟨b2, o2, none⟩) (out.take m) := by have := hrw.part 0 m (by omega) (by omega); simpa using this
              have p2 : Arr W2 (fun b => w.heap.size ≤ b) (some ⟨b2, o2 + m, none⟩) (out.drop m) := by have := hrw.part m out.length (by omega) (by omega); rw [List.take_of_length_le (by simp)] at this; simpa [Cd.n] using this
              have hol : out.length ≤ k := hle
              have q1 : (([] : List ByteArray).length + (out.take m).length) * Cd.bytes ByteArray ≤ 140737488355328 := app_bound hby (by rw [t1]; simp; omega)
              have q1' : ([] : List ByteArray).length + (out.take m).length ≤ 9223372036854775807 := by rw [t1]; simp; omega
              have q2 : (([] ++ out.take m).length + [l[k]].length) * Cd.bytes ByteArray ≤ 140737488355328 := app_bound hby (by rw [List.nil_append, t1]; simp; omega)
              have q2' : ([] ++ out.take m).length + [l[k]].length ≤ 9223372036854775807 := by rw [List.nil_append, t1]; simp; omega
              have q3 : (([] ++ out.take m ++ [l[k]]).length + (out.drop m).length) * Cd.bytes ByteArray ≤ 140737488355328 := app_bound hby (by rw [List.nil_append, List.length_append, t1, t2]; simp; omega)
              have q3' : ([] ++ out.take m ++ [l[k]]).length + (out.drop m).length ≤ 9223372036854775807 := by rw [List.nil_append, List.length_append, t1, t2]; simp; omega
              go_wp2
              go_region_law (first
                | (refine step_own_flat rfl (.tmp 45) (.tmp 48) 34 rfl W2.heap.size 9 elStr (fun _ => False) (fun b => w.heap.size ≤ b) _ ([] : List ByteArray) rfl (own_empty (by first | exact he1 W2 _ rfl | exact he2 W2 _ rfl | exact he3 W2 _ rfl) (by first | exact Nat.le_refl _ | omega)) (some ⟨b2, o2, none⟩) c2 (out.take m) (by rw [t1]; rfl) (p1.below (by (repeat (first | exact Below.refl _ _ | assumption | (refine Below.setCell ?_ (by first | omega | (simp; done) | (simp; omega) | exact Below.size (by assumption)) _) | (refine Below.alloc ?_ (by first | omega | (simp; done) | (simp; omega) | exact Below.size (by assumption)) _) | refine Below.drew ?_ | refine Below.trans0 ?_ (by assumption))))) q1 q1' (by first | (simp; done) | (simp; omega)) ?_; intro v1 w1 hown1 hg1 hl1; have hB1 : Below W2.heap.size W2 w1 := Below.grown (by (repeat (first | exact Below.refl _ _ | assumption | (refine Below.setCell ?_ (by first | omega | (simp; done) | (simp; omega) | exact Below.size (by assumption)) _) | (refine Below.alloc ?_ (by first | omega | (simp; done) | (simp; omega) | exact Below.size (by assumption)) _) | refine Below.drew ?_ | refine Below.trans0 ?_ (by assumption)))) hg1 (by first | (simp; done) | (simp; omega)) (fun b e => by have := ownBlock_eq e; omega); have hccy := box_below hB1 hccx; have hby1 : b < w1.heap.size := Nat.lt_of_lt_of_le hb1' hB1.size; (first | have hcx := g1a hg1 (by intro e; have := ownBlock_eq e; omega) | have hcx := g1ad hg1 (by intro e; have := ownBlock_eq e; omega) | have hcx := g1b hg1 (by intro e; have := ownBlock_eq e; omega) | have hcx := g1bd hg1 (by intro e; have := ownBlock_eq e; omega) | skip))
                | (refine step_own_flat rfl (.tmp 49) (.tmp 54) 34 rfl W2.heap.size 9 elStr (fun _ => False) (fun _ => True) v1 ([] ++ out.take m) rfl (hown1.below (by (repeat (first | exact Below.refl _ _ | assumption | (refine Below.setCell ?_ (by first | omega | (simp; done) | (simp; omega) | exact Below.size (by assumption)) _) | (refine Below.alloc ?_ (by first | omega | (simp; done) | (simp; omega) | exact Below.size (by assumption)) _) | refine Below.drew ?_ | refine Below.trans0 ?_ (by assumption))))) _ 1 [l[k]] rfl (arr_text1 trivial hs (by first | assumption | (simp; done))) q2 q2' (by have := hB1.size; first | exact this | (simp; omega)) ?_; intro v2 w2 hown2 hg2 hl2; have hB2 : Below W2.heap.size W2 w2 := Below.grown (by first | exact hB1 | exact hB1.alloc hB1.size _ | exact hB1.drew | exact (hB1.alloc hB1.size _).drew) hg2 (by have := hB1.size; simp; omega) (fun b e => by have := hown1.block_ge b e; omega))
                | (refine step_own_flat rfl (.tmp 55) (.tmp 58) 34 rfl W2.heap.size 9 elStr (fun _ => False) (fun b => w.heap.size ≤ b) v2 ([] ++ out.take m ++ [l[k]]) rfl (hown2.below (by (repeat (first | exact Below.refl _ _ | assumption | (refine Below.setCell ?_ (by first | omega | (simp; done) | (simp; omega) | exact Below.size (by assumption)) _) | (refine Below.alloc ?_ (by first | omega | (simp; done) | (simp; omega) | exact Below.size (by assumption)) _) | refine Below.drew ?_ | refine Below.trans0 ?_ (by assumption))))) (some ⟨b2, o2 + m, none⟩) (c2 - m) (out.drop m) (by first | (rw [t2]; rfl) | (rw [t2]; simp [Act.eval]; done) | (rw [t2]; simp [Act.eval]; omega)) (p2.below hB2) q3 q3' hB2.size ?_; intro v3 w3 hown3 hg3 hl3; have hB3 : Below W2.heap.size W2 w3 := Below.grown hB2 hg3 hB2.size (fun b e => by have := hown2.block_ge b e; omega)))
              all_goals
                go_wp2
                go_roundw
                case rel => exact ⟨Below.trans0 hb (Below.trans0 HB2 hB3 HB2.size) hb.size, k + 1, by omega, by go_num, by rw [fin.out]; have := hown3.base hws; simpa using this⟩
                case measure => simp [intOf]; omega
            · have he : out[m] = l[k] := seq_of heq
              have fin : Hid (sortT l (k + 1) = out) := Lib.hid (by rw [hst.out, hinst.out]; have hp := hpos.out; subst hp; rw [dif_pos hmt, if_pos he])
              clear hls hinst hst hless he
              go_wp2
              refine region_quiet (by kernel_rfl) (by kernel_rfl) ?_
              repeat (go_big_quiet_step (fail))
              refine wpQuiet_nil ?_
              intro W1 hw1
              replace hw1 := below_of_ext hw1
              replace hcc2 := box_below hw1 hcc2
              replace hccx := box_below hw1 hccx
              replace hb3 : b2 < W1.heap.size := Nat.lt_of_lt_of_le hb3 hw1.size
              replace hb1' : b < W1.heap.size := Nat.lt_of_lt_of_le hb1' hw1.size
              have HB1 : Below wo.heap.size wo W1 := Below.trans0 hb2 hw1 hb2.size
              clear hw1
              go_wp2
              refine region_quiet (by kernel_rfl) (by kernel_rfl) ?_
              repeat (go_big_quiet_step (fail))
              refine wpQuiet_nil ?_
              intro W2 hw2
              replace hw2 := below_of_ext hw2
              have HB2 : Below wo.heap.size wo W2 := Below.trans0 HB1 hw2 HB1.size
              clear hw2
              go_wp2
              go_roundw
              case rel => exact ⟨Below.trans0 hb HB2 hb.size, k + 1, by omega, by go_num, by rw [fin.out]; exact hown.below HB2⟩
              case measure => simp [intOf]; omega
          · have hls' : Op.bytesLess out[m].toList l[k].toList = true := hls
            have hless' : Hid (∀ q (h : q < out.length), q < m + 1 → slt out[q] l[k] = true) := Lib.hid (fun q h hq => by by_cases e : q = m; (subst e; exact hls); exact hless.out q h (by omega))
            have hmt' : (m : Int) < out.length := by omega
            clear hls hcc
            go_wp2
            refine region_quiet (by kernel_rfl) (by kernel_rfl) ?_
            repeat (go_big_quiet_step (fail))
            refine wpQuiet_nil ?_
            intro W1 hw1
            replace hw1 := below_of_ext hw1
            go_wp2
            go_roundw
            case rel => exact ⟨Below.trans0 hb2 hw1 hb2.size, m + 1, by omega, by go_num, hless'⟩
            case measure => simp [intOf]; omega
        · have hme : m = out.length := by omega
          subst hme
          have hpos : Hid (out.length = posT l[k] out) := Lib.hid (posT_eq (Nat.le_refl _) hless.out (fun h => absurd h hmt))
          have fin : Hid (sortT l (k + 1) = out ++ [l[k]]) := Lib.hid (by rw [hst.out, hinst.out, dif_neg (by have := hpos.out; omega)])
          have hb1' : b < wr.heap.size := Nat.lt_of_lt_of_le hb1 hb2.size
          have hccx : wr.cell? ⟨b, o + k, none⟩ = some (.string l[k]) := box_below hb2 hcc
          clear hinst hst hless hcc
          have hform := own_form3 hown
          have n1 : ¬ (out.length : Int) < out.length := by omega
          have n2 : decide ((out.length : Int) < out.length) = false := by simp
          go_wp2
          refine region_quiet (by kernel_rfl) (by kernel_rfl) ?_
          repeat (go_big_quiet_step (fail))
          refine wpQuiet_nil ?_
          intro W1 hw1
          replace hw1 := below_of_ext hw1
          replace hccx := box_below hw1 hccx
          replace hb1' : b < W1.heap.size := Nat.lt_of_lt_of_le hb1' hw1.size
          have HB1 : Below wo.heap.size wo W1 := Below.trans0 hb2 hw1 hb2.size
          clear hw1
          go_wp2
          refine region_quiet (by kernel_rfl) (by kernel_rfl) ?_
          repeat (go_big_quiet_step (fail))
          refine wpQuiet_nil ?_
          intro W2 hw2
          replace hw2 := below_of_ext hw2
          replace hccx := box_below hw2 hccx
          replace hb1' : b < W2.heap.size := Nat.lt_of_lt_of_le hb1' hw2.size
          have HB2 : Below wo.heap.size wo W2 := Below.trans0 HB1 hw2 HB1.size
          clear hw2
          have a1 : (0 : Int) ≤ out.length := by omega
          have a4 : (out.length : Int) ≤ c2 := by omega
          have a7 : (k : Int) < l.length := by omega
          have hws : w.heap.size ≤ W2.heap.size := Nat.le_trans hb.size HB2.size
          have p1 : Arr W2 (fun b => w.heap.size ≤ b) A2 out := hr.below HB2
          have hol : out.length ≤ k := hle
          have q1 : (([] : List ByteArray).length + out.length) * Cd.bytes ByteArray ≤ 140737488355328 := app_bound hby (by simp; omega)
          have q1' : ([] : List ByteArray).length + out.length ≤ 9223372036854775807 := by simp; omega
          have q2 : (([] ++ out).length + [l[k]].length) * Cd.bytes ByteArray ≤ 140737488355328 := app_bound hby (by rw [List.nil_append]; simp; omega)
          have q2' : ([] ++ out).length + [l[k]].length ≤ 9223372036854775807 := by rw [List.nil_append]; simp; omega
          have q3 : (([] ++ out ++ [l[k]]).length + ([] : List ByteArray).length) * Cd.bytes ByteArray ≤ 140737488355328 := app_bound hby (by rw [List.nil_append, List.length_append]; simp; omega)
          have q3' : ([] ++ out ++ [l[k]]).length + ([] : List ByteArray).length ≤ 9223372036854775807 := by rw [List.nil_append, List.length_append]; simp; omega
          rcases hform with e0 | ⟨g, cap, e0, -⟩
          · obtain ⟨rfl, he, rfl⟩ : A2 = none ∧ out.length = 0 ∧ c2 = 0 := by simpa using e0
            have he' : out = [] := List.eq_nil_of_length_eq_zero he
            subst he'
            go_wp2
            go_region_law (first
              | (refine step_own_flat rfl (.tmp 45) (.tmp 48) 34 rfl W2.heap.size 9 elStr (fun _ => False) (fun b => w.heap.size ≤ b) _ ([] : List ByteArray) rfl (own_empty (by first | exact he1 W2 _ rfl | exact he2 W2 _ rfl | exact he3 W2 _ rfl) (by first | exact Nat.le_refl _ | omega)) none 0 ([] : List ByteArray) rfl (p1.below (by (repeat (first | exact Below.refl _ _ | assumption | (refine Below.setCell ?_ (by first | omega | (simp; done) | (simp; omega) | exact Below.size (by assumption)) _) | (refine Below.alloc ?_ (by first | omega | (simp; done) | (simp; omega) | exact Below.size (by assumption)) _) | refine Below.drew ?_ | refine Below.trans0 ?_ (by assumption))))) q1 q1' (by first | (simp; done) | (simp; omega)) ?_; intro v1 w1 hown1 hg1 hl1; have hB1 : Below W2.heap.size W2 w1 := Below.grown (by (repeat (first | exact Below.refl _ _ | assumption | (refine Below.setCell ?_ (by first | omega | (simp; done) | (simp; omega) | exact Below.size (by assumption)) _) | (refine Below.alloc ?_ (by first | omega | (simp; done) | (simp; omega) | exact Below.size (by assumption)) _) | refine Below.drew ?_ | refine Below.trans0 ?_ (by assumption)))) hg1 (by first | (simp; done) | (simp; omega)) (fun b e => by have := ownBlock_eq e; omega); have hccy := box_below hB1 hccx; have hby1 : b < w1.heap.size := Nat.lt_of_lt_of_le hb1' hB1.size; (first | have hcx := g1a hg1 (by intro e; have := ownBlock_eq e; omega) | have hcx := g1ad hg1 (by intro e; have := ownBlock_eq e; omega) | have hcx := g1b hg1 (by intro e; have := ownBlock_eq e; omega) | have hcx := g1bd hg1 (by intro e; have := ownBlock_eq e; omega) | skip))
              | (refine step_own_flat rfl (.tmp 49) (.tmp 54) 34 rfl W2.heap.size 9 elStr (fun _ => False) (fun _ => True) v1 ([] ++ ([] : List ByteArray)) rfl (hown1.below (by (repeat (first | exact Below.refl _ _ | assumption | (refine Below.setCell ?_ (by first | omega | (simp; done) | (simp; omega) | exact Below.size (by assumption)) _) | (refine Below.alloc ?_ (by first | omega | (simp; done) | (simp; omega) | exact Below.size (by assumption)) _) | refine Below.drew ?_ | refine Below.trans0 ?_ (by assumption))))) _ 1 [l[k]] rfl (arr_text1 trivial hs (by first | assumption | (simp; done))) q2 q2' (by have := hB1.size; first | exact this | (simp; omega)) ?_; intro v2 w2 hown2 hg2 hl2; have hB2 : Below W2.heap.size W2 w2 := Below.grown (by first | exact hB1 | exact hB1.alloc hB1.size _ | exact hB1.drew | exact (hB1.alloc hB1.size _).drew) hg2 (by have := hB1.size; simp; omega) (fun b e => by have := hown1.block_ge b e; omega))
              | (refine step_own_flat rfl (.tmp 55) (.tmp 58) 34 rfl W2.heap.size 9 elStr (fun _ => False) (fun b => w.heap.size ≤ b) v2 ([] ++ ([] : List ByteArray) ++ [l[k]]) rfl (hown2.below (by (repeat (first | exact Below.refl _ _ | assumption | (refine Below.setCell ?_ (by first | omega | (simp; done) | (simp; omega) | exact Below.size (by assumption)) _) | (refine Below.alloc ?_ (by first | omega | (simp; done) | (simp; omega) | exact Below.size (by assumption)) _) | refine Below.drew ?_ | refine Below.trans0 ?_ (by assumption))))) none 0 ([] : List ByteArray) (by first | rfl | (simp [Act.eval]; done) | (simp [Act.eval]; intro hq; omega)) (Arr.nil _ _ _) q3 q3' hB2.size ?_; intro v3 w3 hown3 hg3 hl3; have hB3 : Below W2.heap.size W2 w3 := Below.grown hB2 hg3 hB2.size (fun b e => by have := hown2.block_ge b e; omega)))
            all_goals
              go_wp2
              go_roundw
              case rel => exact ⟨Below.trans0 hb (Below.trans0 HB2 hB3 HB2.size) hb.size, k + 1, by omega, by go_num, by rw [fin.out]; have := hown3.base hws; simpa using this⟩
              case measure => simp [intOf]; omega
          · obtain ⟨rfl, rfl⟩ : A2 = some ⟨g, 0, none⟩ ∧ c2 = cap := by simpa using e0
            by_cases hcc : out.length = c2
            · have a5 : (out.length : Int) = c2 := by omega
              have a6 : (c2 : Int) ≤ c2 := by omega
              have a8 : (0 : Int) ≤ c2 := by omega
              subst hcc
              go_wp2
              go_region_law (first
                | (refine step_own_flat rfl (.tmp 45) (.tmp 48) 34 rfl W2.heap.size 9 elStr (fun _ => False) (fun b => w.heap.size ≤ b) _ ([] : List ByteArray) rfl (own_empty (by first | exact he1 W2 _ rfl | exact he2 W2 _ rfl | exact he3 W2 _ rfl) (by first | exact Nat.le_refl _ | omega)) (some ⟨g, 0, none⟩) out.length out rfl (p1.below (by (repeat (first | exact Below.refl _ _ | assumption | (refine Below.setCell ?_ (by first | omega | (simp; done) | (simp; omega) | exact Below.size (by assumption)) _) | (refine Below.alloc ?_ (by first | omega | (simp; done) | (simp; omega) | exact Below.size (by assumption)) _) | refine Below.drew ?_ | refine Below.trans0 ?_ (by assumption))))) q1 q1' (by first | (simp; done) | (simp; omega)) ?_; intro v1 w1 hown1 hg1 hl1; have hB1 : Below W2.heap.size W2 w1 := Below.grown (by (repeat (first | exact Below.refl _ _ | assumption | (refine Below.setCell ?_ (by first | omega | (simp; done) | (simp; omega) | exact Below.size (by assumption)) _) | (refine Below.alloc ?_ (by first | omega | (simp; done) | (simp; omega) | exact Below.size (by assumption)) _) | refine Below.drew ?_ | refine Below.trans0 ?_ (by assumption)))) hg1 (by first | (simp; done) | (simp; omega)) (fun b e => by have := ownBlock_eq e; omega); have hccy := box_below hB1 hccx; have hby1 : b < w1.heap.size := Nat.lt_of_lt_of_le hb1' hB1.size; (first | have hcx := g1a hg1 (by intro e; have := ownBlock_eq e; omega) | have hcx := g1ad hg1 (by intro e; have := ownBlock_eq e; omega) | have hcx := g1b hg1 (by intro e; have := ownBlock_eq e; omega) | have hcx := g1bd hg1 (by intro e; have := ownBlock_eq e; omega) | skip))
                | (refine step_own_flat rfl (.tmp 49) (.tmp 54) 34 rfl W2.heap.size 9 elStr (fun _ => False) (fun _ => True) v1 ([] ++ out) rfl (hown1.below (by (repeat (first | exact Below.refl _ _ | assumption | (refine Below.setCell ?_ (by first | omega | (simp; done) | (simp; omega) | exact Below.size (by assumption)) _) | (refine Below.alloc ?_ (by first | omega | (simp; done) | (simp; omega) | exact Below.size (by assumption)) _) | refine Below.drew ?_ | refine Below.trans0 ?_ (by assumption))))) _ 1 [l[k]] rfl (arr_text1 trivial hs (by first | assumption | (simp; done))) q2 q2' (by have := hB1.size; first | exact this | (simp; omega)) ?_; intro v2 w2 hown2 hg2 hl2; have hB2 : Below W2.heap.size W2 w2 := Below.grown (by first | exact hB1 | exact hB1.alloc hB1.size _ | exact hB1.drew | exact (hB1.alloc hB1.size _).drew) hg2 (by have := hB1.size; simp; omega) (fun b e => by have := hown1.block_ge b e; omega))
                | (refine step_own_flat rfl (.tmp 55) (.tmp 58) 34 rfl W2.heap.size 9 elStr (fun _ => False) (fun b => w.heap.size ≤ b) v2 ([] ++ out ++ [l[k]]) rfl (hown2.below (by (repeat (first | exact Below.refl _ _ | assumption | (refine Below.setCell ?_ (by first | omega | (simp; done) | (simp; omega) | exact Below.size (by assumption)) _) | (refine Below.alloc ?_ (by first | omega | (simp; done) | (simp; omega) | exact Below.size (by assumption)) _) | refine Below.drew ?_ | refine Below.trans0 ?_ (by assumption))))) (some ⟨g, 0, none⟩) 0 ([] : List ByteArray) (by first | rfl | (simp [Act.eval]; done) | (simp [Act.eval]; intro hq; omega)) (Arr.nil _ _ _) q3 q3' hB2.size ?_; intro v3 w3 hown3 hg3 hl3; have hB3 : Below W2.heap.size W2 w3 := Below.grown hB2 hg3 hB2.size (fun b e => by have := hown2.block_ge b e; omega)))
              all_goals
                go_wp2
                go_roundw
                case rel => exact ⟨Below.trans0 hb (Below.trans0 HB2 hB3 HB2.size) hb.size, k + 1, by omega, by go_num, by rw [fin.out]; have := hown3.base hws; simpa using this⟩
                case measure => simp [intOf]; omega
            · have a5 : ¬ (out.length : Int) = c2 := by omega
              go_wp2
              go_region_law (first
                | (refine step_own_flat rfl (.tmp 45) (.tmp 48) 34 rfl W2.heap.size 9 elStr (fun _ => False) (fun b => w.heap.size ≤ b) _ ([] : List ByteArray) rfl (own_empty (by first | exact he1 W2 _ rfl | exact he2 W2 _ rfl | exact he3 W2 _ rfl) (by first | exact Nat.le_refl _ | omega)) (some ⟨g, 0, none⟩) c2 out rfl (p1.below (by (repeat (first | exact Below.refl _ _ | assumption | (refine Below.setCell ?_ (by first | omega | (simp; done) | (simp; omega) | exact Below.size (by assumption)) _) | (refine Below.alloc ?_ (by first | omega | (simp; done) | (simp; omega) | exact Below.size (by assumption)) _) | refine Below.drew ?_ | refine Below.trans0 ?_ (by assumption))))) q1 q1' (by first | (simp; done) | (simp; omega)) ?_; intro v1 w1 hown1 hg1 hl1; have hB1 : Below W2.heap.size W2 w1 := Below.grown (by (repeat (first | exact Below.refl _ _ | assumption | (refine Below.setCell ?_ (by first | omega | (simp; done) | (simp; omega) | exact Below.size (by assumption)) _) | (refine Below.alloc ?_ (by first | omega | (simp; done) | (simp; omega) | exact Below.size (by assumption)) _) | refine Below.drew ?_ | refine Below.trans0 ?_ (by assumption)))) hg1 (by first | (simp; done) | (simp; omega)) (fun b e => by have := ownBlock_eq e; omega); have hccy := box_below hB1 hccx; have hby1 : b < w1.heap.size := Nat.lt_of_lt_of_le hb1' hB1.size; (first | have hcx := g1a hg1 (by intro e; have := ownBlock_eq e; omega) | have hcx := g1ad hg1 (by intro e; have := ownBlock_eq e; omega) | have hcx := g1b hg1 (by intro e; have := ownBlock_eq e; omega) | have hcx := g1bd hg1 (by intro e; have := ownBlock_eq e; omega) | skip))
                | (refine step_own_flat rfl (.tmp 49) (.tmp 54) 34 rfl W2.heap.size 9 elStr (fun _ => False) (fun _ => True) v1 ([] ++ out) rfl (hown1.below (by (repeat (first | exact Below.refl _ _ | assumption | (refine Below.setCell ?_ (by first | omega | (simp; done) | (simp; omega) | exact Below.size (by assumption)) _) | (refine Below.alloc ?_ (by first | omega | (simp; done) | (simp; omega) | exact Below.size (by assumption)) _) | refine Below.drew ?_ | refine Below.trans0 ?_ (by assumption))))) _ 1 [l[k]] rfl (arr_text1 trivial hs (by first | assumption | (simp; done))) q2 q2' (by have := hB1.size; first | exact this | (simp; omega)) ?_; intro v2 w2 hown2 hg2 hl2; have hB2 : Below W2.heap.size W2 w2 := Below.grown (by first | exact hB1 | exact hB1.alloc hB1.size _ | exact hB1.drew | exact (hB1.alloc hB1.size _).drew) hg2 (by have := hB1.size; simp; omega) (fun b e => by have := hown1.block_ge b e; omega))
                | (refine step_own_flat rfl (.tmp 55) (.tmp 58) 34 rfl W2.heap.size 9 elStr (fun _ => False) (fun b => w.heap.size ≤ b) v2 ([] ++ out ++ [l[k]]) rfl (hown2.below (by (repeat (first | exact Below.refl _ _ | assumption | (refine Below.setCell ?_ (by first | omega | (simp; done) | (simp; omega) | exact Below.size (by assumption)) _) | (refine Below.alloc ?_ (by first | omega | (simp; done) | (simp; omega) | exact Below.size (by assumption)) _) | refine Below.drew ?_ | refine Below.trans0 ?_ (by assumption))))) (some ⟨g, 0 + out.length, none⟩) (c2 - out.length) ([] : List ByteArray) (by first | rfl | (simp [Act.eval]; done) | (simp [Act.eval]; intro hq; omega)) (Arr.nil _ _ _) q3 q3' hB2.size ?_; intro v3 w3 hown3 hg3 hl3; have hB3 : Below W2.heap.size W2 w3 := Below.grown hB2 hg3 hB2.size (fun b e => by have := hown2.block_ge b e; omega)))
              all_goals
                go_wp2
                go_roundw
                case rel => exact ⟨Below.trans0 hb (Below.trans0 HB2 hB3 HB2.size) hb.size, k + 1, by omega, by go_num, by rw [fin.out]; have := hown3.base hws; simpa using this⟩
                case measure => simp [intOf]; omega
    · have hke : k = l.length := by omega
      subst hke
      go_wp2
      go_ret
      exact ⟨hb, A2, c2, rfl, hr, hc2⟩

end Go.Proofs.YteoafnkcplealaaDoor
