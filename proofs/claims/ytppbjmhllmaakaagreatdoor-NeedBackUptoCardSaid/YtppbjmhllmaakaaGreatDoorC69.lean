/- Contract: need.Print. -/
import Derived.Test.YtppbjmhllmaakaaGreatDoorC68
set_option linter.unusedVariables false
namespace Go.Proofs.YtppbjmhllmaakaaGreatDoor
open Go.RowKit

theorem clauseOk_parts {c : Clause} (h : clauseOk c = true) : c.any.length ≤ 8 ∧ ∀ n ∈ c.any, needOk n = true := by
  unfold clauseOk at h
  simp only [Bool.and_eq_true, decide_eq_true_eq] at h
  exact ⟨h.1.2, fun n hn => List.all_eq_true.1 h.2 n hn⟩
theorem clauseJoin_len {c : Clause} (h : clauseOk c = true) : (Lib.join (c.any.map needTold) [124]).length ≤ 8900 := by
  obtain ⟨h1, h2⟩ := clauseOk_parts h
  have ha := join_len [124] (c.any.map needTold) 1000 (fun x hx => by
    obtain ⟨n, hn, rfl⟩ := List.mem_map.1 hx
    exact needTold_len (needOk_name (h2 n hn)))
  rw [List.length_map] at ha
  simp only [List.length_cons, List.length_nil] at ha
  omega
theorem clauseTold_len {c : Clause} (h : clauseOk c = true) : (clauseTold c).length ≤ 9000 := by
  have := clauseJoin_len h
  unfold clauseTold
  split
  · simp only [List.length_cons]; omega
  · omega

set_option maxHeartbeats 0 in
set_option maxRecDepth 100000 in
theorem print1_any (c : Clause) (va : List Value) (S : Nat → Prop) (w : World) (h : Cd.rep w S c va) (hok : clauseOk c = true) (hN : LaidN w) :
    Calls Tryz.prog 75 #[.agg va.toArray] w fun e w' => e = .returned (.string (txt (clauseTold c))) ∧ Below w.heap.size w w' := by
  obtain ⟨A, ca, rfl, hA⟩ := h
  obtain ⟨h8, hno⟩ := clauseOk_parts hok
  have hjl := clauseJoin_len hok
  clear hok
  have r0 : (w.alloc (.cells #[.bool c.neg, .slice A c.any.length ca] 48)).cell? ⟨w.heap.size, 0, none⟩ = some (.bool c.neg) := laid_new
  have hB0 : Below w.heap.size w (w.alloc (.cells #[.bool c.neg, .slice A c.any.length ca] 48)) := (Below.refl _ _).alloc (Nat.le_refl _) _
  have hj : Hid (Calls Tryz.prog 76 #[.slice A c.any.length ca, .string ⟨#[124]⟩, .func (.func 77) #[] #[]] (w.alloc (.cells #[.bool c.neg, .slice A c.any.length ca] 48)) fun e w' => e = .returned (.string (txt (Lib.join (c.any.map needTold) [124]))) ∧ Below (w.alloc (.cells #[.bool c.neg, .slice A c.any.length ca] 48)).heap.size (w.alloc (.cells #[.bool c.neg, .slice A c.any.length ca] 48)) w') := Lib.hid (joinNeed_any c.any ⟨#[124]⟩ A ca S _ (hA.below hB0) (by omega) hno (by decide) (hN.below hB0))
  have hJs : (txt (Lib.join (c.any.map needTold) [124])).size ≤ 8900 := by rw [txt_size]; exact hjl
  have hfin : Hid (txt (clauseTold c) = if c.neg then (⟨#[33]⟩ : ByteArray) ++ txt (Lib.join (c.any.map needTold) [124]) else txt (Lib.join (c.any.map needTold) [124])) := Lib.hid (by
    unfold clauseTold
    split
    · rw [app_txt, txt_toList]; rfl
    · rfl)
  have zz : w.heap.size < (w.alloc (.cells #[.bool c.neg, .slice A c.any.length ca] 48)).heap.size := by simp
  go_enter Tryz.func75, Tryz.ntmps75
  go_wp2_with fail
  refine hj.out.mono ?_
  generalize w.alloc (.cells #[.bool c.neg, .slice A c.any.length ca] 48) = W0 at *
  rintro e w1 ⟨rfl, hw1⟩
  replace r0 := (World.cell?_of_block (hw1.block _ zz)).trans r0
  have B1 := Below.trans0 hB0 hw1 hB0.size
  clear hj hno hjl
  cases hn : c.neg
  · rw [hn] at r0
    have fin : Hid (txt (clauseTold c) = txt (Lib.join (c.any.map needTold) [124])) := Lib.hid (by rw [hfin.out, hn]; rfl)
    clear hn hfin
    go_wp2
    go_ret
    exact ⟨by rw [fin.out]; rfl, B1⟩
  · rw [hn] at r0
    have fin : Hid (txt (clauseTold c) = (⟨#[33]⟩ : ByteArray) ++ txt (Lib.join (c.any.map needTold) [124])) := Lib.hid (by rw [hfin.out, hn]; rfl)
    clear hn hfin
    go_wp2
    go_ret
    exact ⟨by rw [fin.out]; rfl, B1⟩

set_option maxHeartbeats 0 in
set_option maxRecDepth 100000 in
theorem joinClause_any (l : List Clause) (sep : ByteArray) (A : Option Addr) (ca : Nat) (S : Nat → Prop) (w : World) (h : Arr w S A l) (hl : l.length ≤ 1000) (hok : ∀ n ∈ l, clauseOk n = true) (hsep : sep.size ≤ 1000) (hN : LaidN w) :
    Calls Tryz.prog 74 #[.slice A l.length ca, .string sep, .func (.func 75) #[] #[]] w fun e w' => e = .returned (.string (txt (Lib.join (l.map clauseTold) sep.data.toList))) ∧ Below w.heap.size w w' := by
  have eg := entersPrint1
  have hlen := h.len
  go_enter Tryz.func74, Tryz.ntmps74
  go_wp2
  go_loopw [7, 9, 12] (fun o x i wr => Below w.heap.size w wr ∧ ∃ k : Nat, k ≤ l.length ∧ i = .int .i64 k ∧ Own wr w.heap.size 9 (fun _ => False) o (clauseTxts (l.take k))) (fun _ _ i _ => l.length - (intOf i).toNat)
  case atStart => exact ⟨Below.refl _ _, 0, Nat.zero_le _, rfl, Own.nil _ _ _ _⟩
  case round =>
    obtain ⟨hb, k, hk, rfl, hown⟩ := hrel
    have hlm : Hid ((clauseTxts (l.take k)).length = k) := Lib.hid (by unfold clauseTxts; rw [List.length_map, List.length_take]; omega)
    by_cases hlt : k < l.length
    · obtain ⟨bb, oo, B1, c1, rfl, hbb, hc0, hc1, hrep, -⟩ := (h.below hb).getClause k hlt
      have hnx : Hid (clauseTxts (l.take (k + 1)) = clauseTxts (l.take k) ++ [txt (clauseTold l[k])]) := Lib.hid (by
        unfold clauseTxts
        rw [← List.take_append_getElem hlt, List.map_append]; rfl)
      have hnm := hok _ (List.getElem_mem hlt)
      have htl := clauseTold_len hnm
      have hir : (txt (clauseTold l[k])).size ≤ reach := by rw [txt_size]; unfold reach; omega
      have hba : Below wr.heap.size wr (wr.alloc (.cells #[.bool l[k].neg, .slice B1 l[k].any.length c1] 48)) := (Below.refl _ _).alloc (Nat.le_refl _) _
      have BA : Below w.heap.size w (wr.alloc (.cells #[.bool l[k].neg, .slice B1 l[k].any.length c1] 48)) := hb.alloc hb.size _
      have hcon := Lib.hid (print1_any l[k] [.bool l[k].neg, .slice B1 l[k].any.length c1] S _ (hrep.below hba) hnm (hN.below BA))
      go_wp2_with fail
      refine hcon.out.mono ?_
      rintro e w2 ⟨rfl, hw2⟩
      generalize wr.alloc (.cells #[.bool l[k].neg, .slice B1 l[k].any.length c1] 48) = W0 at *
      clear hcon
      generalize txt (clauseTold l[k]) = tz at *
      have hw02 : Below wr.heap.size wr w2 := Below.trans0 hba hw2 hba.size
      go_wp2_with (at_builtin; refine Hold.out ?_)
      refine ⟨?_⟩
      refine wpList_own_app rfl _ _ 34 rfl w.heap.size 9 elStr (fun _ => False) u7 (clauseTxts (l.take k)) ?_ ((hown.below hw02).below ((Below.refl _ _).alloc (Nat.le_refl _) _)) ⟨w2.heap.size, 0, none⟩ 1 [tz] ?_ (Src.one 9 (show Cd.rep w2 (fun b => False ∧ Value.ownBlock u7 ≠ some b) tz [.string tz] from ⟨rfl, hir⟩)) ?_ ?_ ?_ ?_
      · simp [Act.eval]
      · simp [Act.eval]
      · rw [hlm.out]; show (k + 1) * 16 ≤ _; omega
      · rw [hlm.out]; show k + 1 ≤ _; omega
      · have := hw02.size; have := hb.size; simp; omega
      intro v2 w6 hown6 hg6 hat6
      have hb6 : Below w.heap.size w w6 := ((Below.trans0 hb hw02 hb.size).alloc (by have := hw02.size; have := hb.size; omega) _).grown hg6 (by have := hw02.size; have := hb.size; simp; omega) (fun b e => (hown.block_ge b e).1)
      clear hg6 hat6 hown
      go_wp2
      go_roundw
      case rel => exact ⟨hb6, k + 1, by omega, by go_num, by rw [hnx.out]; exact hown6⟩
      case measure => simp [intOf]; omega
    · have hke : k = l.length := by omega
      subst hke
      rw [List.take_of_length_le (Nat.le_refl _)] at hown
      have hjl : (Lib.join (l.map clauseTold) sep.data.toList).length ≤ 140737488355328 := by
        have h1 := join_len sep.data.toList (l.map clauseTold) 9000 (fun x hx => by
          obtain ⟨n, hn, rfl⟩ := List.mem_map.1 hx
          exact clauseTold_len (hok n hn))
        have e : sep.data.toList.length = sep.size := Array.length_toList
        rw [List.length_map, e] at h1
        have h2 : l.length * (9000 + sep.size) ≤ 1000 * 10000 := Nat.mul_le_mul hl (by omega)
        omega
      have hjn := Lib.hid (join_any (clauseTxts l) sep u7 w.heap.size wr hown (by unfold clauseTxts; rw [List.length_map]; omega) (by rw [clauseTxts_data]; exact hjl))
      have fin : Hid (txt (Lib.join ((clauseTxts l).map (·.data.toList)) sep.data.toList) = txt (Lib.join (l.map clauseTold) sep.data.toList)) := Lib.hid (by rw [clauseTxts_data])
      go_wp2_with fail
      refine hjn.out.mono ?_
      rintro e w3 ⟨rfl, hw3⟩
      obtain ⟨J, hJ⟩ : ∃ J, Hid (txt (Lib.join (l.map clauseTold) sep.data.toList) = J) := ⟨_, Lib.hid rfl⟩
      rw [fin.out, hJ.out]
      go_wp2
      go_ret
      exact ⟨by rw [hJ.out]; rfl, Below.trans0 hb hw3 hb.size⟩

set_option maxHeartbeats 0 in
set_option maxRecDepth 100000 in
theorem print_any (l : List Clause) (A : Option Addr) (ca : Nat) (S : Nat → Prop) (w : World) (h : Arr w S A l) (hN : LaidN w) :
    Calls Tryz.prog 31 #[.slice A l.length ca] w fun e w' => e = .returned (.tuple #[.string (txt (clausesTold l)), .int .i64 (okE (clausesOk l) 180)]) ∧ Below w.heap.size w w' := by
  cases hok : clausesOk l
  · have fin : Hid (txt (clausesTold l) = ⟨#[]⟩) := Lib.hid (by unfold clausesTold; rw [hok]; rfl)
    have Hok := Lib.hid hok
    clear hok
    go_enter Tryz.func31, Tryz.ntmps31
    go_wp2_with fail
    refine (checkC_any l A ca S _ h hN.laid).mono ?_
    rintro e w1 ⟨rfl, hw1⟩
    rw [Hok.out]
    go_wp2
    go_ret2
    exact ⟨ret_si fin.out.symm rfl, hw1⟩
  · have fin : Hid (txt (clausesTold l) = txt (Lib.join (l.map clauseTold) [44, 32])) := Lib.hid (by unfold clausesTold; rw [hok]; rfl)
    have hl32 : l.length ≤ 32 ∧ ∀ c ∈ l, clauseOk c = true := by
      unfold clausesOk at hok
      simp only [Bool.and_eq_true, decide_eq_true_eq] at hok
      exact ⟨hok.1, fun c hc => List.all_eq_true.1 hok.2 c hc⟩
    have Hok := Lib.hid hok
    clear hok
    have hj := Lib.hid (fun W (hb : Below w.heap.size w W) => joinClause_any l ⟨#[44, 32]⟩ A ca S W (h.below hb) (by omega) hl32.2 (by decide) (hN.below hb))
    clear hl32
    go_enter Tryz.func31, Tryz.ntmps31
    go_wp2_with fail
    refine (checkC_any l A ca S _ h hN.laid).mono ?_
    rintro e w1 ⟨rfl, hw1⟩
    rw [Hok.out]
    go_wp2_with fail
    refine (hj.out _ hw1).mono ?_
    rintro e w2 ⟨rfl, hw2⟩
    go_wp2
    go_ret2
    exact ⟨ret_si fin.out.symm rfl, Below.trans0 hw1 hw2 hw1.size⟩

end Go.Proofs.YtppbjmhllmaakaaGreatDoor
