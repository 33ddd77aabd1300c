/- Contract: the reference's Steps. -/
import Derived.Test.YtppbjmhllmaakaaGreatDoorC61
import Derived.Test.YtppbjmhllmaakaaGreatDoorC34
set_option linter.unusedVariables false
namespace Go.Proofs.YtppbjmhllmaakaaGreatDoor
open Go.RowKit

/-- What is gathered of the first k. -/
def refTo (l but : List Int) (k : Nat) : List Int := ((l.take k).filter fun x => !decide (x ∈ but)).foldl putL []
theorem refTo_yes {l but : List Int} {k : Nat} (hk : k < l.length) (h : ¬ l[k] ∈ but) : refTo l but (k + 1) = putL (refTo l but k) l[k] := by
  unfold refTo
  rw [← List.take_append_getElem hk, List.filter_append, List.foldl_append]
  simp [h]
theorem refTo_no {l but : List Int} {k : Nat} (hk : k < l.length) (h : l[k] ∈ but) : refTo l but (k + 1) = refTo l but k := by
  unfold refTo
  rw [← List.take_append_getElem hk, List.filter_append, List.foldl_append]
  simp [h]
theorem foldl_putL_len : ∀ (l a : List Int), (l.foldl putL a).length ≤ a.length + l.length
  | [], a => by simp
  | n :: r, a => by
    have h1 := foldl_putL_len r (putL a n)
    have h2 := putL_len a n
    simp only [List.foldl_cons, List.length_cons]
    omega
theorem refTo_len (l but : List Int) (k : Nat) : (refTo l but k).length ≤ k := by
  unfold refTo
  have h1 := foldl_putL_len ((l.take k).filter fun x => !decide (x ∈ but)) []
  have h2 := List.length_filter_le (fun x => !decide (x ∈ but)) (l.take k)
  have h3 : (l.take k).length ≤ k := by rw [List.length_take]; omega
  simp only [List.length_nil] at h1
  omega
theorem refTo_all (l but : List Int) : refTo l but l.length = lessRef l but := by
  unfold refTo lessRef
  rw [List.take_of_length_le (Nat.le_refl _)]

/-- A slice that the call has made, whatever of it. -/
def Mine (wr : World) (B : Nat) (v : Value) (l : List Int) : Prop :=
  ∃ b o c, v = .slice (some ⟨b, o, none⟩) l.length c ∧ Arr wr (fun b => B ≤ b) (some ⟨b, o, none⟩) l ∧ l.length ≤ c ∧ b < wr.heap.size ∧ B ≤ b
theorem Mine.below {w w' : World} {B : Nat} {v : Value} {l : List Int} (h : Mine w B v l) (hb : Below w.heap.size w w') : Mine w' B v l := by
  obtain ⟨b, o, c, h1, h2, h3, h4, h5⟩ := h
  exact ⟨b, o, c, h1, h2.below hb, h3, Nat.lt_of_lt_of_le h4 hb.size, h5⟩

set_option maxHeartbeats 0 in
set_option maxRecDepth 100000 in
theorem refSteps_any (l m : List Int) (A B : Option Addr) (ca cb : Nat) (S T : Nat → Prop) (w : World) (h : Arr w S A l) (hm : Arr w T B m) :
    Calls Tryz.prog 24 #[.slice A l.length ca, .slice B m.length cb] w fun e w' => Below w.heap.size w w' ∧ ∃ A1 c1 A2 c2, e = .returned (.tuple #[.slice A1 (lessRef l m).reverse.length c1, .slice A2 (lessRef m l).length c2]) ∧ Arr w' (fun _ => True) A1 (lessRef l m).reverse ∧ Arr w' (fun _ => True) A2 (lessRef m l) := by
  have hl := h.len
  have hml := hm.len
  have hby : l.length * 8 ≤ reach := h.1
  have hby2 : m.length * 8 ≤ reach := hm.1
  have Hby := Lib.hid hby
  have Hby2 := Lib.hid hby2
  go_enter Tryz.func24, Tryz.ntmps24
  go_wp2
  have B0 : Below w.heap.size w ((w.alloc (.cells #[] 3)).alloc (.cells #[] 3)) := ((Below.refl _ _).alloc (Nat.le_refl _) _).alloc (by simp) _
  have m0 : Mine ((w.alloc (.cells #[] 3)).alloc (.cells #[] 3)) w.heap.size (.slice (some ⟨w.heap.size, 0, none⟩) 0 0) [] := ⟨_, _, _, rfl, Arr.nil _ _ _, Nat.le_refl _, by simp; omega, Nat.le_refl _⟩
  have m1 : Mine ((w.alloc (.cells #[] 3)).alloc (.cells #[] 3)) w.heap.size (.slice (some ⟨w.heap.size + 1, 0, none⟩) 0 0) [] := ⟨_, _, _, rfl, Arr.nil _ _ _, Nat.le_refl _, by simp, by omega⟩
  generalize (w.alloc (.cells #[] 3)).alloc (.cells #[] 3) = W0 at *
  clear hby hby2
  go_loopw [6, 8] (fun a i wr => Below W0.heap.size W0 wr ∧ ∃ k : Nat, k ≤ l.length ∧ i = .int .i64 k ∧ Mine wr w.heap.size a (refTo l m k)) (fun _ i _ => l.length - (intOf i).toNat)
  case atStart => exact ⟨Below.refl _ _, 0, Nat.zero_le _, rfl, m0⟩
  case round =>
    obtain ⟨hb, k, hk, rfl, hmine⟩ := hrel
    have Br := Below.trans0 B0 hb B0.size
    by_cases hlt : k < l.length
    · obtain ⟨b, o, rfl, hb0, hs, hcc⟩ := (h.below Br).getI k hlt
      have hlen := refTo_len l m k
      by_cases hin : l[k] ∈ m
      · have Hin := Lib.hid (decide_eq_true hin)
        have hst := Lib.hid (refTo_no hlt hin)
        clear hin
        generalize l[k] = z at *
        go_wp2_with fail
        refine (hasInt_any m z B cb T _ (hm.below Br)).mono ?_
        rintro e w1 ⟨rfl, hw1⟩
        have hw1' := hw1.symm
        clear hw1
        subst hw1'
        rw [Hin.out]
        go_wp2
        go_roundw
        case rel => exact ⟨hb, k + 1, by omega, by go_num, by rw [hst.out]; exact hmine⟩
        case measure => simp [intOf]; omega
      · have Hin := Lib.hid (decide_eq_false hin)
        have hst := Lib.hid (refTo_yes hlt hin)
        clear hin
        obtain ⟨b2, o2, c2, rfl, g1, g2, g3, g4⟩ := hmine
        have hput := Lib.hid (refPut_any (refTo l m k) l[k] b2 o2 c2 (fun b => w.heap.size ≤ b) _ g1 g2 hs (by have := Hby.out; omega) g3 g4)
        generalize l[k] = z at *
        go_wp2_with fail
        refine (hasInt_any m z B cb T _ (hm.below Br)).mono ?_
        rintro e w1 ⟨rfl, hw1⟩
        have hw1' := hw1.symm
        clear hw1
        subst hw1'
        rw [Hin.out]
        go_wp2_with fail
        refine hput.out.mono ?_
        rintro e w2 ⟨hw2, b', o', c', rfl, p1, p2, p3, p4⟩
        go_wp2
        go_roundw
        case rel => exact ⟨Below.trans0 hb hw2 hb.size, k + 1, by omega, by go_num, by rw [hst.out]; exact ⟨b', o', c', rfl, p1.mono (fun b _ h => by have := Br.size; omega), p2, p3, by have := Br.size; omega⟩⟩
        case measure => simp [intOf]; omega
    · have hke : k = l.length := by omega
      subst hke
      rw [refTo_all] at hmine
      have m1' := m1.below hb
      clear m0 m1
      obtain ⟨ba, oa, ca2, rfl, ga1, ga2, ga3, ga4⟩ := hmine
      have hla : Hid ((lessRef l m).length ≤ l.length) := Lib.hid (by rw [← refTo_all]; exact refTo_len l m l.length)
      have hia : Hid (∀ x ∈ lessRef l m, In64 x) := Lib.hid (fun x hx => by
        obtain ⟨i, hi, rfl⟩ := List.getElem_of_mem hx
        obtain ⟨_, _, _, _, h, _⟩ := ga1.getI i hi
        exact h)
      generalize hRa : lessRef l m = Ra at *
      have HRa := Lib.hid hRa
      clear hRa
      obtain ⟨wa, hwa⟩ : ∃ wa : World, wa = wr := ⟨_, rfl⟩
      subst hwa
      go_wp2
      go_loopw [7, 9] (fun a i wr => Below wa.heap.size wa wr ∧ ∃ k : Nat, k ≤ m.length ∧ i = .int .i64 k ∧ Mine wr w.heap.size a (refTo m l k)) (fun _ i _ => m.length - (intOf i).toNat)
      case atStart => exact ⟨Below.refl _ _, 0, Nat.zero_le _, rfl, m1'⟩
      case round =>
        obtain ⟨hb2, k, hk, rfl, hmine⟩ := hrel
        have Br2 := Below.trans0 Br hb2 Br.size
        by_cases hlt2 : k < m.length
        · obtain ⟨b, o, rfl, hb0, hs, hcc⟩ := (hm.below Br2).getI k hlt2
          have hlen := refTo_len m l k
          by_cases hin : m[k] ∈ l
          · have Hin := Lib.hid (decide_eq_true hin)
            have hst := Lib.hid (refTo_no hlt2 hin)
            clear hin
            generalize m[k] = z at *
            go_wp2_with fail
            refine (hasInt_any l z A ca S _ (h.below Br2)).mono ?_
            rintro e w1 ⟨rfl, hw1⟩
            have hw1' := hw1.symm
            clear hw1
            subst hw1'
            rw [Hin.out]
            go_wp2
            go_roundw
            case rel => exact ⟨hb2, k + 1, by omega, by go_num, by rw [hst.out]; exact hmine⟩
            case measure => simp [intOf]; omega
          · have Hin := Lib.hid (decide_eq_false hin)
            have hst := Lib.hid (refTo_yes hlt2 hin)
            clear hin
            obtain ⟨b2, o2, c2, rfl, g1, g2, g3, g4⟩ := hmine
            have hput := Lib.hid (refPut_any (refTo m l k) m[k] b2 o2 c2 (fun b => w.heap.size ≤ b) _ g1 g2 hs (by have := Hby2.out; omega) g3 g4)
            generalize m[k] = z at *
            go_wp2_with fail
            refine (hasInt_any l z A ca S _ (h.below Br2)).mono ?_
            rintro e w1 ⟨rfl, hw1⟩
            have hw1' := hw1.symm
            clear hw1
            subst hw1'
            rw [Hin.out]
            go_wp2_with fail
            refine hput.out.mono ?_
            rintro e w2 ⟨hw2, b', o', c', rfl, p1, p2, p3, p4⟩
            go_wp2
            go_roundw
            case rel => exact ⟨Below.trans0 hb2 hw2 hb2.size, k + 1, by omega, by go_num, by rw [hst.out]; exact ⟨b', o', c', rfl, p1.mono (fun b _ h => by have := Br2.size; omega), p2, p3, by have := Br2.size; omega⟩⟩
            case measure => simp [intOf]; omega
        · have hke : k = m.length := by omega
          subst hke
          rw [refTo_all] at hmine
          obtain ⟨bb, ob, cb2, rfl, gb1, gb2, gb3, gb4⟩ := hmine
          generalize hRb : lessRef m l = Rb at *
          have HRb := Lib.hid hRb
          clear hRb
          have ga1' := ga1.below hb2
          have hwr := Hby.out
          obtain ⟨wc, hwc⟩ : ∃ wc : World, wc = wr := ⟨_, rfl⟩
          subst hwc
          have hRal : Ra.length ≤ 9223372036854775807 := by have := hla.out; omega
          have hw1 : IntKind.i64.wrap ((Ra.length : Int) - 1) = (Ra.length : Int) - 1 := IntWalk.i64_in _ (by omega)
          clear hwr
          have Bc := Below.trans0 Br hb2 Br.size
          go_wp2
          go_loopw [10, 11] (fun o i wr => Below wc.heap.size wc wr ∧ ∃ k : Nat, k ≤ Ra.length ∧ i = .int .i64 ((Ra.length : Int) - 1 - k) ∧ Own wr wc.heap.size 3 (fun _ => False) o (Ra.reverse.take k)) (fun _ i _ => (intOf i + 1).toNat)
          case atStart => exact ⟨(Below.refl _ _).alloc (Nat.le_refl _) _, 0, Nat.zero_le _, by simp, Own.made _ _ _ _ (Nat.le_refl _)⟩
          case round =>
            obtain ⟨hb3, k, hk, rfl, hown⟩ := hrel
            have Br3 := Below.trans0 Bc hb3 Bc.size
            by_cases hlt3 : k < Ra.length
            · have hidx : (Ra.length : Int) - 1 - k = ((Ra.length - 1 - k : Nat) : Int) := by omega
              have hkr : Ra.length - 1 - k < Ra.length := by omega
              obtain ⟨b, o, e, hb0, hs, hcc⟩ := (ga1'.below hb3).getI (Ra.length - 1 - k) hkr
              cases e
              have hnx : Hid (Ra.reverse.take (k + 1) = Ra.reverse.take k ++ [Ra[Ra.length - 1 - k]]) := Lib.hid (by
                rw [← List.take_append_getElem (l := Ra.reverse) (i := k) (by rw [List.length_reverse]; exact hlt3), List.getElem_reverse])
              have hlm : Hid ((Ra.reverse.take k).length = k) := Lib.hid (by rw [List.length_take, List.length_reverse]; omega)
              have hdec : Hid ((Ra.length : Int) - 1 - ((k + 1 : Nat) : Int) = ((Ra.length - 1 - k : Nat) : Int) - 1) := Lib.hid (by omega)
              have hw2 : IntKind.i64.wrap (((Ra.length - 1 - k : Nat) : Int) - 1) = ((Ra.length - 1 - k : Nat) : Int) - 1 := IntWalk.i64_in _ (by omega)
              generalize Ra[Ra.length - 1 - k] = z at *
              rw [hidx]
              have hge : (0 : Int) ≤ ((Ra.length - 1 - k : Nat) : Int) := by omega
              have hlt4 : ((Ra.length - 1 - k : Nat) : Int) < Ra.length := by omega
              generalize hq : Ra.length - 1 - k = q at *
              have Hq := Lib.hid hq
              clear hq hidx
              go_wp2_with (at_builtin; refine Hold.out ?_)
              refine ⟨?_⟩
              refine wpList_own_app rfl _ _ 23 rfl wc.heap.size 3 elInt (fun _ => False) u10 (Ra.reverse.take k) ?_ (hown.below ((Below.refl _ _).alloc (Nat.le_refl _) _)) ⟨wr.heap.size, 0, none⟩ 1 [z] ?_ (Src.one 3 (show Cd.rep wr (fun b => False ∧ Value.ownBlock u10 ≠ some b) z [.int .i64 z] from ⟨rfl, hs⟩)) ?_ ?_ ?_ ?_
              · simp [Act.eval]
              · simp [Act.eval]
              · rw [hlm.out]; show (k + 1) * 8 ≤ _; have := hla.out; have := Hby.out; unfold reach at this; omega
              · rw [hlm.out]; show k + 1 ≤ _; omega
              · have := hb3.size; simp; omega
              intro v2 w6 hown6 hg6 hat6
              have hb6 : Below wc.heap.size wc w6 := (hb3.alloc hb3.size _).grown hg6 (by have := hb3.size; simp; omega) (fun b e => (hown.block_ge b e).1)
              clear hg6 hat6 hown
              go_wp2
              go_roundw
              case rel => exact ⟨hb6, k + 1, by omega, by rw [hdec.out], by rw [hnx.out]; exact hown6⟩
              case measure => first | (simp [intOf]; done) | (simp [intOf]; omega)
            · have hke : k = Ra.length := by omega
              have hneg : ¬ (0 : Int) ≤ (Ra.length : Int) - 1 - k := by omega
              have htk : Hid (Ra.reverse.take k = Ra.reverse) := Lib.hid (List.take_of_length_le (by rw [List.length_reverse]; omega))
              rw [htk.out] at hown
              clear hke
              obtain ⟨A9, c9, rfl, hA9⟩ := hown.rep (S' := fun _ => True) (fun b _ h => h.elim) (fun b h _ => trivial) (by rw [List.length_reverse]; show Ra.length * 8 ≤ reach; have := hla.out; have := Hby.out; omega) (by rw [List.length_reverse]; exact hRal)
              go_wp2
              go_ret2
              rw [HRa.out, HRb.out]
              first | exact ⟨Br3, A9, c9, _, _, rfl, hA9, (gb1.below hb3).mono (fun _ _ _ => trivial)⟩ | exact ⟨Br3, A9, c9, _, ⟨_, rfl⟩, hA9, (gb1.below hb3).mono (fun _ _ _ => trivial)⟩

end Go.Proofs.YtppbjmhllmaakaaGreatDoor
