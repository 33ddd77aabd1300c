/- Contract: version.Parse. -/
import Derived.Test.YtppbjmhllmaakaaGreatDoorC62
import Derived.Test.YtppbjmhllmaakaaGreatDoorC13
import Derived.Test.YtppbjmhllmaakaaGreatDoorX14
set_option linter.unusedVariables false
namespace Go.Proofs.YtppbjmhllmaakaaGreatDoor
open Go.RowKit

/-- What version.Parse answers. -/
def VerRet (r : Option Ver) (w : World) (e : Ending) (w' : World) : Prop :=
  Below w.heap.size w w' ∧ match r with
  | some v => ∃ A c, e = .returned (.tuple #[.agg #[.slice A v.parts.length c, .string v.tail], .int .i64 0]) ∧ Arr w' (fun b => w.heap.size ≤ b) A v.parts ∧ v.tail.size ≤ reach
  | none => e = .returned (.tuple #[.agg #[.slice none 0 0, .string ⟨#[]⟩], .int .i64 170])

theorem cut_fst_len (s sep : List UInt8) : (Lib.cut s sep).1.length ≤ s.length := by
  unfold Lib.cut; split
  · simp; omega
  · exact Nat.le_refl _
theorem cut_snd_len (s sep : List UInt8) : (Lib.cut s sep).2.1.length ≤ s.length := by
  unfold Lib.cut; split
  · simp
  · simp

theorem toList_empty (T : ByteArray) : (T.toList == ([] : List UInt8)) = T.data.toList.isEmpty := by
  rw [ByteArray.toList_eq]
  cases T.data.toList <;> rfl

/-- The state of the loop: the result's block is as it was; the version's block holds the row. -/
structure VAt (w : World) (b2 b7 : Nat) (tail : ByteArray) (v : Value) : Prop where
  r0 : w.cell? ⟨b2, 0, none⟩ = some (.slice none 0 0)
  r1 : w.cell? ⟨b2, 1, none⟩ = some (.string ⟨#[]⟩)
  z0 : w.frozen? ⟨b2, 0, none⟩ = false
  z1 : w.frozen? ⟨b2, 1, none⟩ = false
  v0 : w.cell? ⟨b7, 0, none⟩ = some v
  v1 : w.cell? ⟨b7, 1, none⟩ = some (.string tail)
  y0 : w.frozen? ⟨b7, 0, none⟩ = false

theorem VAt.below {w w' : World} {b2 b7 B : Nat} {T : ByteArray} {v : Value} (h : VAt w b2 b7 T v) (hb : Below B w w') (h2 : b2 < B) (h7 : b7 < B) : VAt w' b2 b7 T v where
  r0 := (World.cell?_of_block (hb.block _ h2)).trans h.r0
  r1 := (World.cell?_of_block (hb.block _ h2)).trans h.r1
  z0 := (hb.frozen (p := ⟨b2, 0, none⟩) h2).trans h.z0
  z1 := (hb.frozen (p := ⟨b2, 1, none⟩) h2).trans h.z1
  v0 := (World.cell?_of_block (hb.block _ h7)).trans h.v0
  v1 := (World.cell?_of_block (hb.block _ h7)).trans h.v1
  y0 := (hb.frozen (p := ⟨b7, 0, none⟩) h7).trans h.y0

set_option maxHeartbeats 0 in
set_option maxRecDepth 100000 in
theorem verParse_any (s : ByteArray) (w : World) (hs : s.size < 4294967281) (hN : LaidN w) :
    Calls Tryz.prog 151 #[.string s] w (VerRet (verParse s) w) := by
  have h1 := cut_fst_len s.data.toList [45]
  have h2 := cut_snd_len s.data.toList [45]
  have hsl : s.data.toList.length = s.size := Array.length_toList
  have hvp : Hid (verParse s = match mapO partOf (pieces (txt (Lib.cut s.data.toList [45]).1) ⟨#[46]⟩) with
    | none => none
    | some l => if (Lib.cut s.data.toList [45]).2.2 && (Lib.cut s.data.toList [45]).2.1.isEmpty then none else if verOk ⟨l, txt (Lib.cut s.data.toList [45]).2.1⟩ then some ⟨l, txt (Lib.cut s.data.toList [45]).2.1⟩ else none) := Lib.hid rfl
  have hcut := Lib.hid (fun W hW => cut_any s ⟨#[45]⟩ W hs hW)
  have hemp : Hid ((Lib.cut s.data.toList [45]).2.1.isEmpty = (txt (Lib.cut s.data.toList [45]).2.1).data.toList.isEmpty) := Lib.hid (by rw [txt_toList])
  have hfs : (txt (Lib.cut s.data.toList [45]).1).size ≤ s.size := by rw [txt_size]; omega
  have hts : (txt (Lib.cut s.data.toList [45]).2.1).size ≤ s.size := by rw [txt_size]; omega
  change Hid (∀ W, LaidN W → Calls Tryz.prog 192 #[.string s, .string ⟨#[45]⟩] W fun e w' => e = .returned (.tuple #[.string (txt (Lib.cut s.data.toList [45]).1), .string (txt (Lib.cut s.data.toList [45]).2.1), .bool (Lib.cut s.data.toList [45]).2.2]) ∧ Below W.heap.size W w') at hcut
  generalize (Lib.cut s.data.toList [45]).2.1.isEmpty = emp at *
  generalize txt (Lib.cut s.data.toList [45]).1 = F at *
  generalize txt (Lib.cut s.data.toList [45]).2.1 = T at *
  generalize (Lib.cut s.data.toList [45]).2.2 = isb at *
  generalize verParse s = R at *
  have hsp := Lib.hid (fun W hW => split_any F ⟨#[46]⟩ W (by omega) (by decide) hW)
  have hpl := pieces_le F ⟨#[46]⟩ (by decide)
  have hps : ∀ p ∈ pieces F ⟨#[46]⟩, p.size ≤ s.size := fun p hp => Nat.le_trans (pieces_size hp) hfs
  generalize pieces F ⟨#[46]⟩ = P at *
  clear h1 h2 hsl
  go_enter Tryz.func151, Tryz.ntmps151
  go_wp2_with fail
  have B0 : Below w.heap.size w (w.alloc (.cells #[.slice none 0 0, .string ⟨#[]⟩] 33)) := (Below.refl _ _).alloc (Nat.le_refl _) _
  have r0 : (w.alloc (.cells #[.slice none 0 0, .string ⟨#[]⟩] 33)).cell? ⟨w.heap.size, 0, none⟩ = some (.slice none 0 0) := by simp
  have r1 : (w.alloc (.cells #[.slice none 0 0, .string ⟨#[]⟩] 33)).cell? ⟨w.heap.size, 1, none⟩ = some (.string ⟨#[]⟩) := by simp
  have z0 : (w.alloc (.cells #[.slice none 0 0, .string ⟨#[]⟩] 33)).frozen? ⟨w.heap.size, 0, none⟩ = false := by simp
  have z1 : (w.alloc (.cells #[.slice none 0 0, .string ⟨#[]⟩] 33)).frozen? ⟨w.heap.size, 1, none⟩ = false := by simp
  refine (hcut.out _ (hN.below B0)).mono ?_
  rintro e w1 ⟨rfl, hw1⟩
  have B1 : Below w.heap.size w w1 := Below.trans0 B0 hw1 B0.size
  have zw1 : w.heap.size < w1.heap.size := by have := hw1.size; simp at this; omega
  obtain ⟨q1, q2⟩ := bcell hw1
  replace r0 := (q1 _ _ (by simp)).trans r0
  replace r1 := (q1 _ _ (by simp)).trans r1
  replace z0 := (q2 _ _ (by simp)).trans z0
  replace z1 := (q2 _ _ (by simp)).trans z1
  clear q1 q2 hw1 B0
  go_wp2_with fail
  have hv0 : VAt (w1.alloc (.cells #[.slice none 0 0, .string T] 33)) w.heap.size w1.heap.size T (.slice none 0 0) := {
    r0 := (laid_old zw1).trans r0
    r1 := (laid_old zw1).trans r1
    z0 := ((Below.refl _ w1).alloc (Nat.le_refl _) _).frozen (p := ⟨w.heap.size, 0, none⟩) zw1 |>.trans z0
    z1 := ((Below.refl _ w1).alloc (Nat.le_refl _) _).frozen (p := ⟨w.heap.size, 1, none⟩) zw1 |>.trans z1
    v0 := laid_new
    v1 := laid_new
    y0 := frozen_box _ _ rfl }
  have B2 : Below w.heap.size w (w1.alloc (.cells #[.slice none 0 0, .string T] 33)) := B1.alloc B1.size _
  have zw2 : w1.heap.size < (w1.alloc (.cells #[.slice none 0 0, .string T] 33)).heap.size := by simp
  clear r0 r1 z0 z1 B1
  refine (hsp.out _ (hN.below B2)).mono ?_
  generalize w1.alloc (.cells #[.slice none 0 0, .string T] 33) = w2 at *
  rintro e w3 ⟨hw3, c3, rfl, hP⟩
  have hv3 : VAt w3 w.heap.size w1.heap.size T (.slice none 0 0) := hv0.below hw3 (by omega) zw2
  have B3 : Below w.heap.size w w3 := Below.trans0 B2 hw3 B2.size
  have zw3 : w1.heap.size < w3.heap.size := Nat.lt_of_lt_of_le zw2 hw3.size
  have hPn : ∀ b, b = w2.heap.size → b ≠ w1.heap.size := fun b h => by omega
  clear hv0 hsp hcut B2
  have hPlen := hP.len
  go_wp2
  go_loopw [9, 10, 11, 23] (fun p n er i wr => w3.grownBy wr (some w1.heap.size) ∧ ∃ k : Nat, k ≤ P.length ∧ i = .int .i64 k ∧ ∃ v' out, Hid (mapO partOf (P.take k) = some out) ∧ out.length = k ∧ VAt wr w.heap.size w1.heap.size T v' ∧ Own wr w3.heap.size 3 (fun _ => False) v' out) (fun _ _ _ i _ => P.length - (intOf i).toNat)
  case atStart => exact ⟨one_refl _ _, 0, Nat.zero_le _, rfl, _, [], Lib.hid (by simp [mapO]), rfl, hv3, Own.nil _ _ _ _⟩
  case round =>
    obtain ⟨hg, k, hk, rfl, v', out, hout, hol, hva, hown⟩ := hrel
    have hBr : Below w.heap.size w wr := one_to_below B3 hg B3.size (by omega)
    have hPr := hP.one hg hPn
    by_cases hlt : k < P.length
    · obtain ⟨b, o, e, hb, hsz, hcc⟩ := hPr.getS k hlt
      cases e
      rw [Nat.zero_add] at hcc
      have hqs := hps _ (List.getElem_mem hlt)
      obtain ⟨Aa, na, cca, rfl, hna⟩ := hown.form2
      have hnone : Hid (partOf P[k] = none → R = none) := Lib.hid (fun e => by rw [hvp.out, mapO_fail hlt e])
      have hsome : Hid (∀ z, partOf P[k] = some z → mapO partOf (P.take (k + 1)) = some (out ++ [z])) := Lib.hid (fun z e => mapO_take_succ hlt hout.out e)
      have hpo : Hid (partOf P[k] = match Lib.atoiAll P[k].data.toList with | .ok v => if Lib.itoa v = P[k].data.toList then some v else none | _ => none) := Lib.hid rfl
      have hzr : w1.heap.size < wr.heap.size := Nat.lt_of_lt_of_le zw3 hg.size
      have hz2 : w.heap.size < wr.heap.size := by omega
      generalize P[k] = q at *
      go_wp2_with fail
      refine (atoi_any q _ (by omega) (hN.below hBr)).mono ?_
      rintro e w5 ⟨hw5, hret⟩
      have hB5 : Below w.heap.size w w5 := Below.trans0 hBr hw5 hBr.size
      have hva5 := hva.below hw5 hz2 hzr
      rcases hret with ⟨z, hz, rfl⟩ | ⟨hno, z, t, q', rfl⟩
      · have hz64 := atoiAll_in64 hz
        have hpo2 : Hid (partOf q = if Lib.itoa z = q.data.toList then some z else none) := Lib.hid (by rw [hpo.out, hz])
        have heq : Hid ((txt (Lib.itoa z)).toList = q.toList ↔ Lib.itoa z = q.data.toList) := Lib.hid (by
          constructor
          · intro h
            have := seq_of (a := txt (Lib.itoa z)) (b := q) (by simpa using h)
            rw [← this, txt_toList]
          · intro h; rw [h, txt_data])
        clear hpo hz
        go_wp2_with fail
        refine (itoa_any z _ hz64 (hN.below hB5)).mono ?_
        rintro e w6 ⟨rfl, hw6⟩
        have hB6 : Below w.heap.size w w6 := Below.trans0 hB5 hw6 hB5.size
        have hva6 := hva5.below hw6 (Nat.lt_of_lt_of_le hz2 hw5.size) (Nat.lt_of_lt_of_le hzr hw5.size)
        have hown6 := (hown.below hw5).below hw6
        have hg6 := one_below (one_below hg hw5 hg.size) hw6 (Nat.le_trans hg.size hw5.size)
        clear hva hva5
        obtain ⟨r0, r1, z0, z1, v0, v1, y0⟩ := hva6
        cases he : ((txt (Lib.itoa z)).toList == q.toList)
        · have fin := Lib.hid (hnone.out (by rw [hpo2.out, if_neg (fun h => by rw [heq.out.2 h] at he; simp at he)]))
          go_wp2
          refine bodyPost_ret (v := .tuple #[.agg #[.slice none 0 0, .string ⟨#[]⟩], .int .i64 170]) (by simp [results, Tryz.results151, go_sem, r0, r1]) rfl ⟨?_, ?_⟩
          · exact (hB6.setCell (Nat.le_refl _) _).setCell (Nat.le_refl _) _
          · rw [fin.out]
        · have hfin := Lib.hid (hsome.out z (by rw [hpo2.out, if_pos (heq.out.1 (by simpa using he))]))
          go_wp2_with (at_builtin; refine Hold.out ?_)
          refine ⟨?_⟩
          refine wpList_own_app rfl _ _ 23 rfl w3.heap.size 3 elInt (fun _ => False) (.slice Aa na cca) out ?_ (hown6.below ((Below.refl _ _).alloc (Nat.le_refl _) _)) ⟨w6.heap.size, 0, none⟩ 1 [z] ?_ (Src.one 3 (show Cd.rep w6 (fun b => False ∧ Value.ownBlock (.slice Aa na cca) ≠ some b) z [.int .i64 z] from ⟨rfl, hz64⟩)) ?_ ?_ ?_ ?_
          · simp [Act.eval]
          · simp [Act.eval]
          · rw [hol]; show (k + 1) * 8 ≤ _; omega
          · rw [hol]; simp; omega
          · have := hw6.size; have := hw5.size; have := hg.size; simp; omega
          intro v2 w7 hown7 hg7 hat7
          have z61 : w1.heap.size < w6.heap.size := by have := hw6.size; have := hw5.size; omega
          have z60 : w.heap.size < w6.heap.size := by omega
          have hne1 : (Value.slice Aa na cca).ownBlock ≠ some w1.heap.size := fun e => by have := hown.block_ge _ e; omega
          have hne0 : (Value.slice Aa na cca).ownBlock ≠ some w.heap.size := fun e => by have := hown.block_ge _ e; omega
          have hba : Below w6.heap.size w6 (w6.alloc (.cells #[.int .i64 z] 3)) := (Below.refl _ _).alloc (Nat.le_refl _) _
          have r0' := grown_cell hg7 ((laid_old z60).trans r0) hne0
          have r1' := grown_cell hg7 ((laid_old z60).trans r1) hne0
          have v0' := grown_cell hg7 ((laid_old z61).trans v0) hne1
          have v1' := grown_cell hg7 ((laid_old z61).trans v1) hne1
          have z0' := grown_frozen hg7 (by simp; omega) ((hba.frozen (p := ⟨w.heap.size, 0, none⟩) z60).trans z0) hne0
          have z1' := grown_frozen hg7 (by simp; omega) ((hba.frozen (p := ⟨w.heap.size, 1, none⟩) z60).trans z1) hne0
          have y0' := grown_frozen hg7 (by simp; omega) ((hba.frozen (p := ⟨w1.heap.size, 0, none⟩) z61).trans y0) hne1
          have hg8 := one_row (one_below hg6 hba (by have := hw6.size; have := hw5.size; have := hg.size; omega)) hg7 (fun b e => .inr (hown.block_ge b e).1)
          obtain ⟨A6, n6, c6, rfl, hn6⟩ := hown7.form2
          clear hg7 hat7 hown hown6 r0 r1 z0 z1 v0 v1 y0 hba hg6
          go_wp2
          go_roundw
          case rel =>
            refine ⟨one_set hg8 0 _, k + 1, by omega, by go_num, _, out ++ [z], hfin, by simp; omega, ?_, hown7.set _ _ (by simp; omega) (fun b h => h.elim)⟩
            exact { r0 := by simp [go_sem, r0'], r1 := by simp [go_sem, r1'], z0 := by simp [go_sem, z0'], z1 := by simp [go_sem, z1'], v0 := by simp [go_sem, v0'], v1 := by simp [go_sem, v1'], y0 := by simp [go_sem, y0'] }
          case measure => simp [intOf]; omega
      · have fin := Lib.hid (hnone.out (by
          rw [hpo.out]
          rcases h : Lib.atoiAll q.data.toList with z | _ | _
          · exact absurd h (hno z)
          · rfl
          · rfl))
        obtain ⟨r0, r1, z0, z1, v0, v1, y0⟩ := hva5
        go_wp2
        refine bodyPost_ret (v := .tuple #[.agg #[.slice none 0 0, .string ⟨#[]⟩], .int .i64 170]) (by simp [results, Tryz.results151, go_sem, r0, r1]) rfl ⟨?_, ?_⟩
        · exact (hB5.setCell (Nat.le_refl _) _).setCell (Nat.le_refl _) _
        · rw [fin.out]
    · have hke : k = P.length := by omega
      subst hke
      rw [List.take_of_length_le (Nat.le_refl _)] at hout
      obtain ⟨A9, c9, rfl, hA9⟩ := hown.rep (S' := fun b => w3.heap.size ≤ b) (fun b _ h => h.elim) (fun b h _ => h) (by rw [hol]; show P.length * 8 ≤ reach; unfold reach; omega) (by rw [hol]; exact hPlen)
      obtain ⟨r0, r1, z0, z1, v0, v1, y0⟩ := hva
      have hRs : Hid (R = if isb && emp then none else if verOk ⟨out, T⟩ then some ⟨out, T⟩ else none) := Lib.hid (by rw [hvp.out, hout.out])
      have hvr := Lib.hid (fun W (h : Below wr.heap.size wr W) => checkV_any ⟨out, T⟩ [.slice A9 P.length c9, .string T] _ W ⟨A9, c9, by show _ = [Value.slice A9 out.length c9, .string T]; rw [hol], hA9.below h, by show T.size ≤ reach; unfold reach; omega⟩)
      clear hvp
      cases isb
      · cases hok : verOk ⟨out, T⟩
        · have fin : Hid (R = none) := Lib.hid (by rw [hRs.out, hok]; rfl)
          have Hok := Lib.hid hok
          clear hok hRs
          go_wp2_with fail
          refine (hvr.out _ (Below.refl _ _)).mono ?_
          rintro e w9 ⟨rfl, hw9⟩
          rw [Hok.out]
          obtain ⟨q1, q2⟩ := bcell hw9
          have hz2 : w.heap.size < wr.heap.size := World.block_lt_of_cell? wr _ r0
          replace r0 := (q1 _ _ hz2).trans r0
          replace r1 := (q1 _ _ hz2).trans r1
          replace z0 := (q2 _ _ hz2).trans z0
          replace z1 := (q2 _ _ hz2).trans z1
          clear q1 q2
          go_wp2
          refine bodyPost_ret (v := .tuple #[.agg #[.slice none 0 0, .string ⟨#[]⟩], .int .i64 170]) (by simp [results, Tryz.results151, go_sem, r0, r1]) rfl ⟨?_, ?_⟩
          · exact ((Below.trans0 hBr hw9 hBr.size).setCell (Nat.le_refl _) _).setCell (Nat.le_refl _) _
          · rw [fin.out]
        · have fin : Hid (R = some ⟨out, T⟩) := Lib.hid (by rw [hRs.out, hok]; rfl)
          have Hok := Lib.hid hok
          clear hok hRs
          go_wp2_with fail
          refine (hvr.out _ (Below.refl _ _)).mono ?_
          rintro e w9 ⟨rfl, hw9⟩
          rw [Hok.out]
          obtain ⟨q1, q2⟩ := bcell hw9
          have hz2 : w.heap.size < wr.heap.size := World.block_lt_of_cell? wr _ r0
          have hz1 : w1.heap.size < wr.heap.size := World.block_lt_of_cell? wr _ v0
          replace r0 := (q1 _ _ hz2).trans r0
          replace r1 := (q1 _ _ hz2).trans r1
          replace z0 := (q2 _ _ hz2).trans z0
          replace z1 := (q2 _ _ hz2).trans z1
          replace v0 := (q1 _ _ hz1).trans v0
          replace v1 := (q1 _ _ hz1).trans v1
          clear q1 q2
          go_wp2
          refine bodyPost_ret (v := .tuple #[.agg #[.slice A9 P.length c9, .string T], .int .i64 0]) (by simp [results, Tryz.results151, go_sem, r0, r1]) rfl ⟨?_, ?_⟩
          · exact ((Below.trans0 hBr hw9 hBr.size).setCell (Nat.le_refl _) _).setCell (Nat.le_refl _) _
          · rw [fin.out]
            refine ⟨A9, c9, by show _ = Ending.returned (.tuple #[.agg #[.slice A9 out.length c9, .string T], .int .i64 0]); rw [hol], ?_, by show T.size ≤ reach; unfold reach; omega⟩
            exact (((hA9.below hw9).set _ _ (S' := fun b => w3.heap.size ≤ b) (fun b h _ => ⟨h, by simp only; omega⟩)).set _ _ (S' := fun b => w3.heap.size ≤ b) (fun b h _ => ⟨h, by simp only; omega⟩)).mono (fun b _ h => by omega)
      · cases he : (T.toList == ([] : List UInt8))
        · have hem : emp = false := by rw [hemp.out, ← toList_empty, he]
          cases hok : verOk ⟨out, T⟩
          · have fin : Hid (R = none) := Lib.hid (by rw [hRs.out, hem, hok]; rfl)
            have Hok := Lib.hid hok
            clear hok hRs
            go_wp2_with fail
            refine (hvr.out _ (Below.refl _ _)).mono ?_
            rintro e w9 ⟨rfl, hw9⟩
            rw [Hok.out]
            obtain ⟨q1, q2⟩ := bcell hw9
            have hz2 : w.heap.size < wr.heap.size := World.block_lt_of_cell? wr _ r0
            replace r0 := (q1 _ _ hz2).trans r0
            replace r1 := (q1 _ _ hz2).trans r1
            replace z0 := (q2 _ _ hz2).trans z0
            replace z1 := (q2 _ _ hz2).trans z1
            clear q1 q2
            go_wp2
            refine bodyPost_ret (v := .tuple #[.agg #[.slice none 0 0, .string ⟨#[]⟩], .int .i64 170]) (by simp [results, Tryz.results151, go_sem, r0, r1]) rfl ⟨?_, ?_⟩
            · exact ((Below.trans0 hBr hw9 hBr.size).setCell (Nat.le_refl _) _).setCell (Nat.le_refl _) _
            · rw [fin.out]
          · have fin : Hid (R = some ⟨out, T⟩) := Lib.hid (by rw [hRs.out, hem, hok]; rfl)
            have Hok := Lib.hid hok
            clear hok hRs
            go_wp2_with fail
            refine (hvr.out _ (Below.refl _ _)).mono ?_
            rintro e w9 ⟨rfl, hw9⟩
            rw [Hok.out]
            obtain ⟨q1, q2⟩ := bcell hw9
            have hz2 : w.heap.size < wr.heap.size := World.block_lt_of_cell? wr _ r0
            have hz1 : w1.heap.size < wr.heap.size := World.block_lt_of_cell? wr _ v0
            replace r0 := (q1 _ _ hz2).trans r0
            replace r1 := (q1 _ _ hz2).trans r1
            replace z0 := (q2 _ _ hz2).trans z0
            replace z1 := (q2 _ _ hz2).trans z1
            replace v0 := (q1 _ _ hz1).trans v0
            replace v1 := (q1 _ _ hz1).trans v1
            clear q1 q2
            go_wp2
            refine bodyPost_ret (v := .tuple #[.agg #[.slice A9 P.length c9, .string T], .int .i64 0]) (by simp [results, Tryz.results151, go_sem, r0, r1]) rfl ⟨?_, ?_⟩
            · exact ((Below.trans0 hBr hw9 hBr.size).setCell (Nat.le_refl _) _).setCell (Nat.le_refl _) _
            · rw [fin.out]
              refine ⟨A9, c9, by show _ = Ending.returned (.tuple #[.agg #[.slice A9 out.length c9, .string T], .int .i64 0]); rw [hol], ?_, by show T.size ≤ reach; unfold reach; omega⟩
              exact (((hA9.below hw9).set _ _ (S' := fun b => w3.heap.size ≤ b) (fun b h _ => ⟨h, by simp only; omega⟩)).set _ _ (S' := fun b => w3.heap.size ≤ b) (fun b h _ => ⟨h, by simp only; omega⟩)).mono (fun b _ h => by omega)
        · have fin : Hid (R = none) := Lib.hid (by rw [hRs.out, hemp.out, ← toList_empty, he]; rfl)
          go_wp2
          refine bodyPost_ret (v := .tuple #[.agg #[.slice none 0 0, .string ⟨#[]⟩], .int .i64 170]) (by simp [results, Tryz.results151, go_sem, r0, r1]) rfl ⟨?_, ?_⟩
          · exact (hBr.setCell (Nat.le_refl _) _).setCell (Nat.le_refl _) _
          · rw [fin.out]

end Go.Proofs.YtppbjmhllmaakaaGreatDoor
