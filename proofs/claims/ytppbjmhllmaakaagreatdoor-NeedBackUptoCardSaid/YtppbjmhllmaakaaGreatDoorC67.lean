/- Contract: version.Print. -/
import Derived.Test.YtppbjmhllmaakaaGreatDoorC66
set_option linter.unusedVariables false
namespace Go.Proofs.YtppbjmhllmaakaaGreatDoor
open Go.RowKit

theorem app_txt (a b : ByteArray) : a ++ b = txt (a.data.toList ++ b.data.toList) := by
  rw [← txt_data (a ++ b)]
  exact congrArg txt (by simp)
theorem app_cons (a : ByteArray) (c : UInt8) (b : ByteArray) : a ++ ((⟨#[c]⟩ : ByteArray) ++ b) = txt (a.data.toList ++ (c :: b.data.toList)) := by
  rw [app_txt, app_txt, txt_toList]; rfl
theorem ret_si {a b : ByteArray} {x y : Int} (h : a = b) (h' : x = y) : Ending.returned (.tuple #[.string a, .int .i64 x]) = .returned (.tuple #[.string b, .int .i64 y]) := by rw [h, h']
/-- What is told of a version. -/
def verPr (v : Ver) : ByteArray := if verOk v then txt (verTold v) else ⟨#[]⟩
def numTxts (l : List Int) : List ByteArray := l.map fun n => txt (Lib.itoa n)
theorem numTxts_data (l : List Int) : (numTxts l).map (·.data.toList) = l.map Lib.itoa := by
  unfold numTxts
  rw [List.map_map]
  exact List.map_congr_left fun n _ => txt_toList _

set_option maxHeartbeats 0 in
set_option maxRecDepth 100000 in
theorem verPrint_any (v : Ver) (va : List Value) (S : Nat → Prop) (w : World) (h : Cd.rep w S v va) (hN : LaidN w) :
    Calls Tryz.prog 120 #[.agg va.toArray] w fun e w' => e = .returned (.tuple #[.string (verPr v), .int .i64 (okE (verOk v) 170)]) ∧ Below w.heap.size w w' := by
  obtain ⟨A, ca, rfl, hA, hT⟩ := h
  have hlen := hA.len
  have hB0 : Below w.heap.size w (w.alloc (.cells #[.slice A v.parts.length ca, .string v.tail] 33)) := (Below.refl _ _).alloc (Nat.le_refl _) _
  have hck := Lib.hid (fun W (hb : Below w.heap.size w W) => checkV_any v [.slice A v.parts.length ca, .string v.tail] S W ⟨A, ca, rfl, hA.below hb, hT⟩)
  cases hok : verOk v
  · have fin : Hid (verPr v = ⟨#[]⟩) := Lib.hid (by unfold verPr; rw [hok]; rfl)
    have Hok := Lib.hid hok
    clear hok
    go_enter Tryz.func120, Tryz.ntmps120
    go_wp2_with fail
    refine (hck.out _ hB0).mono ?_
    rintro e w1 ⟨rfl, hw1⟩
    rw [Hok.out]
    go_wp2
    go_ret2
    exact ⟨by rw [fin.out]; rfl, Below.trans0 hB0 hw1 hB0.size⟩
  · have hp4 : v.parts.length ≤ 4 := by
      unfold verOk at hok
      simp only [Bool.and_eq_true, decide_eq_true_eq] at hok
      exact hok.1.1.2
    have hall : Hid (v.parts.all (fun n => decide (0 ≤ n) && decide (n ≤ 999999)) = true) := Lib.hid (by
      unfold verOk at hok
      simp only [Bool.and_eq_true] at hok
      exact hok.1.2)
    have hT8 : v.tail.size ≤ 8 := by
      unfold verOk tailOk at hok
      simp only [Bool.and_eq_true, decide_eq_true_eq] at hok
      exact hok.2.2
    have fin : Hid (verPr v = txt (verTold v)) := Lib.hid (by unfold verPr; rw [hok]; rfl)
    have Hok := Lib.hid hok
    clear hok
    go_enter Tryz.func120, Tryz.ntmps120
    go_wp2_with fail
    have r0 : (w.alloc (.cells #[.slice A v.parts.length ca, .string v.tail] 33)).cell? ⟨w.heap.size, 0, none⟩ = some (.slice A v.parts.length ca) := laid_new
    have r1 : (w.alloc (.cells #[.slice A v.parts.length ca, .string v.tail] 33)).cell? ⟨w.heap.size, 1, none⟩ = some (.string v.tail) := laid_new
    refine (hck.out _ hB0).mono ?_
    rintro e w1 ⟨rfl, hw1⟩
    rw [Hok.out]
    have zz : w.heap.size < (w.alloc (.cells #[.slice A v.parts.length ca, .string v.tail] 33)).heap.size := by simp
    replace r0 := (World.cell?_of_block (hw1.block _ zz)).trans r0
    replace r1 := (World.cell?_of_block (hw1.block _ zz)).trans r1
    have B1 := Below.trans0 hB0 hw1 hB0.size
    have zw1 : w.heap.size < w1.heap.size := World.block_lt_of_cell? _ _ r0
    clear hck hw1 zz hB0
    go_wp2
    go_loopw [5, 7, 17] (fun o n i wr => Below w1.heap.size w1 wr ∧ ∃ k : Nat, k ≤ v.parts.length ∧ i = .int .i64 k ∧ Own wr w1.heap.size 9 (fun _ => False) o (numTxts (v.parts.take k))) (fun _ _ i _ => v.parts.length - (intOf i).toNat)
    case atStart => exact ⟨Below.refl _ _, 0, Nat.zero_le _, rfl, Own.nil _ _ _ _⟩
    case round =>
      obtain ⟨hb, k, hk, rfl, hown⟩ := hrel
      have Br := Below.trans0 B1 hb B1.size
      have hlm : Hid ((numTxts (v.parts.take k)).length = k) := Lib.hid (by unfold numTxts; rw [List.length_map, List.length_take]; omega)
      by_cases hlt : k < v.parts.length
      · obtain ⟨bb, oo, rfl, hbb, hs64, hcc⟩ := (hA.below Br).getI k hlt
        have hnx : Hid (numTxts (v.parts.take (k + 1)) = numTxts (v.parts.take k) ++ [txt (Lib.itoa v.parts[k])]) := Lib.hid (by
          unfold numTxts
          rw [← List.take_append_getElem hlt, List.map_append]; rfl)
        have hil := itoa_len hs64
        have hir : (txt (Lib.itoa v.parts[k])).size ≤ reach := by rw [txt_size]; unfold reach; omega
        generalize v.parts[k] = z at *
        go_wp2_with fail
        refine (itoa_any z _ hs64 (hN.below Br)).mono ?_
        rintro e w2 ⟨rfl, hw2⟩
        generalize txt (Lib.itoa z) = tz at *
        go_wp2_with (at_builtin; refine Hold.out ?_)
        refine ⟨?_⟩
        refine wpList_own_app rfl _ _ 34 rfl w1.heap.size 9 elStr (fun _ => False) u5 (numTxts (v.parts.take k)) ?_ ((hown.below hw2).below ((Below.refl _ _).alloc (Nat.le_refl _) _)) ⟨w2.heap.size, 0, none⟩ 1 [tz] ?_ (Src.one 9 (show Cd.rep w2 (fun b => False ∧ Value.ownBlock u5 ≠ some b) tz [.string tz] from ⟨rfl, hir⟩)) ?_ ?_ ?_ ?_
        · simp [Act.eval]
        · simp [Act.eval]
        · rw [hlm.out]; show (k + 1) * 16 ≤ _; omega
        · rw [hlm.out]; show k + 1 ≤ _; omega
        · have := hw2.size; have := hb.size; simp; omega
        intro v2 w6 hown6 hg6 hat6
        have hb6 : Below w1.heap.size w1 w6 := ((Below.trans0 hb hw2 hb.size).alloc (by have := hw2.size; have := hb.size; omega) _).grown hg6 (by have := hw2.size; have := hb.size; simp; omega) (fun b e => (hown.block_ge b e).1)
        clear hg6 hat6 hown
        go_wp2
        go_roundw
        case rel => exact ⟨hb6, k + 1, by omega, by go_num, by rw [hnx.out]; exact hown6⟩
        case measure => simp [intOf]; omega
      · have hke : k = v.parts.length := by omega
        subst hke
        rw [List.take_of_length_le (Nat.le_refl _)] at hown
        have hjl : (Lib.join (v.parts.map Lib.itoa) [46]).length ≤ 200 := by
          have h1 := join_len [46] (v.parts.map Lib.itoa) 30 (fun x hx => by
            obtain ⟨n, hn, rfl⟩ := List.mem_map.1 hx
            obtain ⟨i, hi, rfl⟩ := List.getElem_of_mem hn
            obtain ⟨_, _, _, _, hs, _⟩ := hA.getI i hi
            exact itoa_len hs)
          rw [List.length_map] at h1
          simp only [List.length_cons, List.length_nil] at h1
          omega
        have hjn := Lib.hid (join_any (numTxts v.parts) ⟨#[46]⟩ u5 w1.heap.size wr hown (by unfold numTxts; rw [List.length_map]; omega) (by rw [numTxts_data]; show (Lib.join (v.parts.map Lib.itoa) [46]).length ≤ _; omega))
        have hjd : Hid (txt (Lib.join ((numTxts v.parts).map (·.data.toList)) (ByteArray.mk #[46]).data.toList) = txt (Lib.join (v.parts.map Lib.itoa) [46])) := Lib.hid (by rw [numTxts_data])
        have hJs : (txt (Lib.join (v.parts.map Lib.itoa) [46])).size ≤ 200 := by rw [txt_size]; exact hjl
        have hJ : Hid (txt (verTold v) = txt ((txt (Lib.join (v.parts.map Lib.itoa) [46])).data.toList ++ (if v.tail.data.toList.isEmpty then [] else 45 :: v.tail.data.toList))) := Lib.hid (by rw [txt_toList]; rfl)
        replace r0 := (World.cell?_of_block (hb.block _ zw1)).trans r0
        replace r1 := (World.cell?_of_block (hb.block _ zw1)).trans r1
        have zwr : w.heap.size < wr.heap.size := World.block_lt_of_cell? _ _ r0
        go_wp2_with fail
        refine hjn.out.mono ?_
        rintro e w3 ⟨rfl, hw3⟩
        rw [hjd.out]
        generalize txt (Lib.join (v.parts.map Lib.itoa) [46]) = J at *
        replace r0 := (World.cell?_of_block (hw3.block _ zwr)).trans r0
        replace r1 := (World.cell?_of_block (hw3.block _ zwr)).trans r1
        cases he : (v.tail.toList == ([] : List UInt8))
        · go_wp2
          go_ret2
          exact ⟨ret_si (by rw [fin.out, hJ.out, ← toList_empty, he]; exact app_cons J 45 v.tail) rfl, Below.trans0 Br hw3 Br.size⟩
        · go_wp2
          go_ret2
          exact ⟨ret_si (by rw [fin.out, hJ.out, ← toList_empty, he]; simp [txt]) rfl, Below.trans0 Br hw3 Br.size⟩

end Go.Proofs.YtppbjmhllmaakaaGreatDoor
