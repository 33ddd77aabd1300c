/- Contracts: need.told, need.joined, need.Print. -/
import Derived.Test.YtppbjmhllmaakaaGreatDoorC67
set_option linter.unusedVariables false
namespace Go.Proofs.YtppbjmhllmaakaaGreatDoor
open Go.RowKit

theorem wordS_size (op : Int) : (wordS op).size ≤ 2 := by
  unfold wordS
  repeat' split
  all_goals decide
theorem verTold_len {v : Ver} (h : verOk v = true) : (verTold v).length ≤ 300 := by
  unfold verOk tailOk at h
  simp only [Bool.and_eq_true, decide_eq_true_eq] at h
  obtain ⟨⟨⟨h1, h2⟩, h3⟩, h4, h5⟩ := h
  unfold verTold
  rw [List.length_append]
  have ha := join_len [46] (v.parts.map Lib.itoa) 30 (fun x hx => by
    obtain ⟨n, hn, rfl⟩ := List.mem_map.1 hx
    have := List.all_eq_true.1 h3 n hn
    simp only [Bool.and_eq_true, decide_eq_true_eq] at this
    exact itoa_len ⟨by omega, by omega⟩)
  rw [List.length_map] at ha
  simp only [List.length_cons, List.length_nil] at ha
  have e : v.tail.data.toList.length = v.tail.size := Array.length_toList
  split
  · simp; omega
  · simp only [List.length_cons]; omega
theorem verPr_size (v : Ver) : (verPr v).size ≤ 300 := by
  unfold verPr
  split
  · rename_i h
    rw [txt_size]
    exact verTold_len h
  · decide
theorem needTold_len {n : Need} (h : n.name.size ≤ 32) : (needTold n).length ≤ 1000 := by
  unfold needTold
  have e : n.name.data.toList.length = n.name.size := Array.length_toList
  have e2 : (wordS n.op).data.toList.length = (wordS n.op).size := Array.length_toList
  have e3 := wordS_size n.op
  split
  · rw [List.length_append, List.length_append]
    split
    · rename_i hv
      have := verTold_len hv
      omega
    · simp; omega
  · omega
theorem nameOk_size {s : ByteArray} (h : nameOk s = true) : s.size ≤ 32 := by
  have e : s.data.toList.length = s.size := Array.length_toList
  unfold nameOk at h
  split at h
  · cases h
  · rename_i c r hc
    simp only [Bool.and_eq_true, decide_eq_true_eq] at h
    rw [hc] at e
    simp at e
    omega
theorem needOk_name {n : Need} (h : needOk n = true) : n.name.size ≤ 32 := by
  unfold needOk at h
  simp only [Bool.and_eq_true] at h
  exact nameOk_size h.1

set_option maxHeartbeats 0 in
set_option maxRecDepth 100000 in
theorem told_any (n : Need) (va : List Value) (S : Nat → Prop) (w : World) (h : Cd.rep w S n va) (s1 : n.name.size ≤ 32) (hN : LaidN w) :
    Calls Tryz.prog 77 #[.agg va.toArray] w fun e w' => e = .returned (.string (txt (needTold n))) ∧ Below w.heap.size w w' := by
  obtain ⟨A, ca, rfl, hn, ho, hA, hT⟩ := h
  have hw0 : (w.alloc (.cells #[.string n.name, .int .i64 n.op, .slice A n.ver.parts.length ca, .string n.ver.tail] 51)).cell? ⟨w.heap.size, 0, none⟩ = some (.string n.name) := laid_new
  have hw2 : (w.alloc (.cells #[.string n.name, .int .i64 n.op, .slice A n.ver.parts.length ca, .string n.ver.tail] 51)).cell? ⟨w.heap.size, 2, none⟩ = some (.slice A n.ver.parts.length ca) := laid_new
  have hw3 : (w.alloc (.cells #[.string n.name, .int .i64 n.op, .slice A n.ver.parts.length ca, .string n.ver.tail] 51)).cell? ⟨w.heap.size, 3, none⟩ = some (.string n.ver.tail) := laid_new
  have hB0 : Below w.heap.size w (w.alloc (.cells #[.string n.name, .int .i64 n.op, .slice A n.ver.parts.length ca, .string n.ver.tail] 51)) := (Below.refl _ _).alloc (Nat.le_refl _) _
  have zz : w.heap.size < (w.alloc (.cells #[.string n.name, .int .i64 n.op, .slice A n.ver.parts.length ca, .string n.ver.tail] 51)).heap.size := by simp
  have hvp := Lib.hid (fun W (hb : Below w.heap.size w W) => verPrint_any n.ver [.slice A n.ver.parts.length ca, .string n.ver.tail] S W ⟨A, ca, rfl, hA.below hb, hT⟩ (hN.below hb))
  go_enter Tryz.func77, Tryz.ntmps77
  go_wp2_with fail
  refine (word_any n.op _ (hN.below hB0).laid).mono ?_
  generalize w.alloc (.cells #[.string n.name, .int .i64 n.op, .slice A n.ver.parts.length ca, .string n.ver.tail] 51) = W0 at *
  rintro e w1 ⟨rfl, hw1⟩
  have B1 := Below.trans0 hB0 hw1 hB0.size
  replace hw0 := (World.cell?_of_block (hw1.block _ zz)).trans hw0
  replace hw2 := (World.cell?_of_block (hw1.block _ zz)).trans hw2
  replace hw3 := (World.cell?_of_block (hw1.block _ zz)).trans hw3
  replace zz := World.block_lt_of_cell? _ _ hw0
  by_cases hop : 1 ≤ n.op ∧ n.op ≤ 6
  · have e1 : Hid (wordOk n.op = true) := Lib.hid (by unfold wordOk; simp [hop.1, hop.2])
    have e2 : Hid (wordP n.op = wordS n.op) := Lib.hid (by unfold wordP; rw [if_pos hop])
    have fin : Hid (txt (needTold n) = n.name ++ wordS n.op ++ verPr n.ver) := Lib.hid (by
      unfold needTold verPr
      rw [if_pos hop, app_txt, app_txt, txt_toList]
      split
      · rw [txt_toList]
      · rfl)
    rw [e1.out, e2.out]
    have s2 := wordS_size n.op
    have s3 := verPr_size n.ver
    clear hop
    go_wp2_with fail
    refine (hvp.out _ B1).mono ?_
    rintro e w2 ⟨rfl, hb2⟩
    replace hw0 := (World.cell?_of_block (hb2.block _ zz)).trans hw0
    clear hvp
    go_wp2
    go_ret
    exact ⟨by rw [fin.out]; rfl, Below.trans0 B1 hb2 B1.size⟩
  · have e1 : Hid (wordOk n.op = false) := Lib.hid (by unfold wordOk; simp; omega)
    have fin : Hid (txt (needTold n) = n.name) := Lib.hid (by unfold needTold; rw [if_neg hop, txt_data])
    rw [e1.out]
    clear hvp hop
    go_wp2
    go_ret
    exact ⟨by rw [fin.out]; rfl, B1⟩

theorem entersTold : ∀ args w, (callFunc 77 args).run Tryz.prog w = .ok (.enter 77 args) w := enters_of Tryz.func77 (by kernel_rfl) rfl
theorem entersPrint1 : ∀ args w, (callFunc 75 args).run Tryz.prog w = .ok (.enter 75 args) w := enters_of Tryz.func75 (by kernel_rfl) rfl

def needTxts (l : List Need) : List ByteArray := l.map fun n => txt (needTold n)
theorem needTxts_data (l : List Need) : (needTxts l).map (·.data.toList) = l.map needTold := by
  unfold needTxts
  rw [List.map_map]
  exact List.map_congr_left fun n _ => txt_toList _
def clauseTxts (l : List Clause) : List ByteArray := l.map fun n => txt (clauseTold n)
theorem clauseTxts_data (l : List Clause) : (clauseTxts l).map (·.data.toList) = l.map clauseTold := by
  unfold clauseTxts
  rw [List.map_map]
  exact List.map_congr_left fun n _ => txt_toList _

set_option maxHeartbeats 0 in
set_option maxRecDepth 100000 in
theorem joinNeed_any (l : List Need) (sep : ByteArray) (A : Option Addr) (ca : Nat) (S : Nat → Prop) (w : World) (h : Arr w S A l) (hl : l.length ≤ 1000) (hok : ∀ n ∈ l, needOk n = true) (hsep : sep.size ≤ 1000) (hN : LaidN w) :
    Calls Tryz.prog 76 #[.slice A l.length ca, .string sep, .func (.func 77) #[] #[]] w fun e w' => e = .returned (.string (txt (Lib.join (l.map needTold) sep.data.toList))) ∧ Below w.heap.size w w' := by
  have eg := entersTold
  have hlen := h.len
  go_enter Tryz.func76, Tryz.ntmps76
  go_wp2
  go_loopw [7, 9, 12] (fun o x i wr => Below w.heap.size w wr ∧ ∃ k : Nat, k ≤ l.length ∧ i = .int .i64 k ∧ Own wr w.heap.size 9 (fun _ => False) o (needTxts (l.take k))) (fun _ _ i _ => l.length - (intOf i).toNat)
  case atStart => exact ⟨Below.refl _ _, 0, Nat.zero_le _, rfl, Own.nil _ _ _ _⟩
  case round =>
    obtain ⟨hb, k, hk, rfl, hown⟩ := hrel
    have hlm : Hid ((needTxts (l.take k)).length = k) := Lib.hid (by unfold needTxts; rw [List.length_map, List.length_take]; omega)
    by_cases hlt : k < l.length
    · obtain ⟨bb, oo, B1, c1, rfl, hbb, hc0, hc1, hc2, hc3, hrep⟩ := (h.below hb).getNeed k hlt
      have hnx : Hid (needTxts (l.take (k + 1)) = needTxts (l.take k) ++ [txt (needTold l[k])]) := Lib.hid (by
        unfold needTxts
        rw [← List.take_append_getElem hlt, List.map_append]; rfl)
      have hnm := needOk_name (hok _ (List.getElem_mem hlt))
      have htl := needTold_len hnm
      have hir : (txt (needTold l[k])).size ≤ reach := by rw [txt_size]; unfold reach; omega
      have hba : Below wr.heap.size wr (wr.alloc (.cells #[.string l[k].name, .int .i64 l[k].op, .slice B1 l[k].ver.parts.length c1, .string l[k].ver.tail] 51)) := (Below.refl _ _).alloc (Nat.le_refl _) _
      have BA : Below w.heap.size w (wr.alloc (.cells #[.string l[k].name, .int .i64 l[k].op, .slice B1 l[k].ver.parts.length c1, .string l[k].ver.tail] 51)) := hb.alloc hb.size _
      have hcon := Lib.hid (told_any l[k] [.string l[k].name, .int .i64 l[k].op, .slice B1 l[k].ver.parts.length c1, .string l[k].ver.tail] S _ (hrep.below hba) hnm (hN.below BA))
      go_wp2_with fail
      refine hcon.out.mono ?_
      rintro e w2 ⟨rfl, hw2⟩
      generalize wr.alloc (.cells #[.string l[k].name, .int .i64 l[k].op, .slice B1 l[k].ver.parts.length c1, .string l[k].ver.tail] 51) = W0 at *
      clear hcon
      generalize txt (needTold l[k]) = tz at *
      have hw02 : Below wr.heap.size wr w2 := Below.trans0 hba hw2 hba.size
      go_wp2_with (at_builtin; refine Hold.out ?_)
      refine ⟨?_⟩
      refine wpList_own_app rfl _ _ 34 rfl w.heap.size 9 elStr (fun _ => False) u7 (needTxts (l.take k)) ?_ ((hown.below hw02).below ((Below.refl _ _).alloc (Nat.le_refl _) _)) ⟨w2.heap.size, 0, none⟩ 1 [tz] ?_ (Src.one 9 (show Cd.rep w2 (fun b => False ∧ Value.ownBlock u7 ≠ some b) tz [.string tz] from ⟨rfl, hir⟩)) ?_ ?_ ?_ ?_
      · simp [Act.eval]
      · simp [Act.eval]
      · rw [hlm.out]; show (k + 1) * 16 ≤ _; omega
      · rw [hlm.out]; show k + 1 ≤ _; omega
      · have := hw02.size; have := hb.size; simp; omega
      intro v2 w6 hown6 hg6 hat6
      have hb6 : Below w.heap.size w w6 := ((Below.trans0 hb hw02 hb.size).alloc (by have := hw02.size; have := hb.size; omega) _).grown hg6 (by have := hw02.size; have := hb.size; simp; omega) (fun b e => (hown.block_ge b e).1)
      clear hg6 hat6 hown
      go_wp2
      go_roundw
      case rel => exact ⟨hb6, k + 1, by omega, by go_num, by rw [hnx.out]; exact hown6⟩
      case measure => simp [intOf]; omega
    · have hke : k = l.length := by omega
      subst hke
      rw [List.take_of_length_le (Nat.le_refl _)] at hown
      have hjl : (Lib.join (l.map needTold) sep.data.toList).length ≤ 140737488355328 := by
        have h1 := join_len sep.data.toList (l.map needTold) 1000 (fun x hx => by
          obtain ⟨n, hn, rfl⟩ := List.mem_map.1 hx
          exact needTold_len (needOk_name (hok n hn)))
        have e : sep.data.toList.length = sep.size := Array.length_toList
        rw [List.length_map, e] at h1
        have h2 : l.length * (1000 + sep.size) ≤ 1000 * 2000 := Nat.mul_le_mul hl (by omega)
        omega
      have hjn := Lib.hid (join_any (needTxts l) sep u7 w.heap.size wr hown (by unfold needTxts; rw [List.length_map]; omega) (by rw [needTxts_data]; exact hjl))
      have fin : Hid (txt (Lib.join ((needTxts l).map (·.data.toList)) sep.data.toList) = txt (Lib.join (l.map needTold) sep.data.toList)) := Lib.hid (by rw [needTxts_data])
      go_wp2_with fail
      refine hjn.out.mono ?_
      rintro e w3 ⟨rfl, hw3⟩
      obtain ⟨J, hJ⟩ : ∃ J, Hid (txt (Lib.join (l.map needTold) sep.data.toList) = J) := ⟨_, Lib.hid rfl⟩
      rw [fin.out, hJ.out]
      go_wp2
      go_ret
      exact ⟨by rw [hJ.out]; rfl, Below.trans0 hb hw3 hb.size⟩

end Go.Proofs.YtppbjmhllmaakaaGreatDoor
