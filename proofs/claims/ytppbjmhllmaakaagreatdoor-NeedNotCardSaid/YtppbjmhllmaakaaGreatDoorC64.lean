/- Contract: need.need. -/
import Derived.Test.YtppbjmhllmaakaaGreatDoorC63
import Derived.Test.YtppbjmhllmaakaaGreatDoorC77
import Derived.Test.YtppbjmhllmaakaaGreatDoorX23
import Derived.Lib.IndexBytes
import Derived.BigRegion
set_option linter.unusedVariables false
namespace Go.Proofs.YtppbjmhllmaakaaGreatDoor
open Go.RowKit

theorem cutPrefix_any (s p : ByteArray) (w : World) :
    Calls Tryz.prog 122 #[.string s, .string p] w fun e w' => e = .returned (.tuple #[.string (txt (Lib.trimPrefix s.data.toList p.data.toList)), .bool (Lib.hasPrefix s.data.toList p.data.toList)]) ∧ Below w.heap.size w w' := by
  refine (Tryz.strings_CutPrefix s p w).mono ?_
  rintro e w' ⟨rfl, rfl⟩
  exact ⟨rfl, Below.refl _ _⟩
theorem ops_any (k : Nat) (hk : k < 6) : ∃ (pb : ByteArray) (op : Int), (∀ w, (Instr.index 160 (.agg #[.string ⟨#[60, 61]⟩, .int .i64 3, .string ⟨#[62, 61]⟩, .int .i64 5, .string ⟨#[33, 61]⟩, .int .i64 6, .string ⟨#[61]⟩, .int .i64 1, .string ⟨#[60]⟩, .int .i64 2, .string ⟨#[62]⟩, .int .i64 4]) (.int .i64 (k : Int))).run Tryz.prog w = .ok (.agg #[.string pb, .int .i64 op]) w) ∧ opTab[k]? = some (pb.data.toList, op) ∧ In64 op := by
  match k, hk with
  | 0, _ => exact ⟨_, _, ops_at0, rfl, ⟨by decide, by decide⟩⟩
  | 1, _ => exact ⟨_, _, ops_at1, rfl, ⟨by decide, by decide⟩⟩
  | 2, _ => exact ⟨_, _, ops_at2, rfl, ⟨by decide, by decide⟩⟩
  | 3, _ => exact ⟨_, _, ops_at3, rfl, ⟨by decide, by decide⟩⟩
  | 4, _ => exact ⟨_, _, ops_at4, rfl, ⟨by decide, by decide⟩⟩
  | 5, _ => exact ⟨_, _, ops_at5, rfl, ⟨by decide, by decide⟩⟩

/-- What a reader of needs answers. -/
def NeedRet (r : Option Need) (w : World) (e : Ending) (w' : World) : Prop :=
  Below w.heap.size w w' ∧ match r with
  | some n => ∃ A c, e = .returned (.tuple #[.agg #[.string n.name, .int .i64 n.op, .slice A n.ver.parts.length c, .string n.ver.tail], .bool true]) ∧ Arr w' (fun b => w.heap.size ≤ b) A n.ver.parts ∧ n.name.size ≤ reach ∧ In64 n.op ∧ n.ver.tail.size ≤ reach
  | none => ∃ a z A n c t, e = .returned (.tuple #[.agg #[.string a, .int .i64 z, .slice A n c, .string t], .bool false])

theorem extract_take (s : ByteArray) (k : Nat) : s.extract 0 k = txt (s.data.toList.take k) := by
  rw [← txt_data (s.extract 0 k)]
  congr 1
  simp
/-- The result's block. -/
structure NAt (w : World) (b2 : Nat) : Prop where
  r0 : w.cell? ⟨b2, 0, none⟩ = some (.string ⟨#[]⟩)
  r1 : w.cell? ⟨b2, 1, none⟩ = some (.int .i64 0)
  r2 : w.cell? ⟨b2, 2, none⟩ = some (.slice none 0 0)
  r3 : w.cell? ⟨b2, 3, none⟩ = some (.string ⟨#[]⟩)
  z0 : w.frozen? ⟨b2, 0, none⟩ = false
  z1 : w.frozen? ⟨b2, 1, none⟩ = false
  z2 : w.frozen? ⟨b2, 2, none⟩ = false
  z3 : w.frozen? ⟨b2, 3, none⟩ = false
theorem NAt.made (w : World) (e : TypeId) : NAt (w.alloc (.cells #[.string ⟨#[]⟩, .int .i64 0, .slice none 0 0, .string ⟨#[]⟩] e)) w.heap.size :=
  ⟨laid_new, laid_new, laid_new, laid_new, frozen_box _ _ rfl, frozen_box _ _ rfl, frozen_box _ _ rfl, frozen_box _ _ rfl⟩
theorem NAt.lt {w : World} {b : Nat} (h : NAt w b) : b < w.heap.size := World.block_lt_of_cell? w _ h.r0
theorem NAt.below {w w' : World} {b2 B : Nat} (h : NAt w b2) (hb : Below B w w') (h2 : b2 < B) : NAt w' b2 where
  r0 := (World.cell?_of_block (hb.block _ h2)).trans h.r0
  r1 := (World.cell?_of_block (hb.block _ h2)).trans h.r1
  r2 := (World.cell?_of_block (hb.block _ h2)).trans h.r2
  r3 := (World.cell?_of_block (hb.block _ h2)).trans h.r3
  z0 := (hb.frozen (p := ⟨b2, 0, none⟩) h2).trans h.z0
  z1 := (hb.frozen (p := ⟨b2, 1, none⟩) h2).trans h.z1
  z2 := (hb.frozen (p := ⟨b2, 2, none⟩) h2).trans h.z2
  z3 := (hb.frozen (p := ⟨b2, 3, none⟩) h2).trans h.z3

set_option maxHeartbeats 0 in
set_option maxRecDepth 100000 in
theorem needParse_any (s : ByteArray) (w : World) (hs : s.size < 4294967281) (hN : LaidN w) :
    Calls Tryz.prog 124 #[.string s] w (NeedRet (needParse s) w) := by
  have hsr : s.size ≤ reach := by unfold reach; omega
  have hK1 : -1 ≤ opFrom s := Lib.indexAny_ge _ _
  have hK2 : opFrom s ≤ s.size := Int.le_trans (indexAny_le _ _) (by rw [Array.length_toList]; exact Int.le_refl _)
  have hR : Hid (needParse s = if opFrom s < 0 then (if nameOk s then some ⟨s, 0, ver0⟩ else none) else match opAt (s.data.toList.drop (opFrom s).toNat) with
    | none => none
    | some (op, n) => match verParse (txt (s.data.toList.drop ((opFrom s).toNat + n))) with
      | none => none
      | some v => if nameOk (txt (s.data.toList.take (opFrom s).toNat)) then some ⟨txt (s.data.toList.take (opFrom s).toNat), op, v⟩ else none) := Lib.hid rfl
  have hix := Lib.hid (fun W => indexAny4_any s W hs)
  generalize needParse s = R at *
  generalize opFrom s = K at *
  by_cases hk0 : K < 0
  · cases hn : nameOk s
    · have fin : Hid (R = none) := Lib.hid (by rw [hR.out, if_pos hk0, hn]; rfl)
      have Hn := Lib.hid hn
      clear hn hR
      go_enter Tryz.func124, Tryz.ntmps124
      go_wp2_with fail
      have hna := NAt.made w 51
      have B0 : Below w.heap.size w (w.alloc (.cells #[.string ⟨#[]⟩, .int .i64 0, .slice none 0 0, .string ⟨#[]⟩] 51)) := (Below.refl _ _).alloc (Nat.le_refl _) _
      generalize w.alloc (.cells #[.string ⟨#[]⟩, .int .i64 0, .slice none 0 0, .string ⟨#[]⟩] 51) = W0 at *
      refine (hix.out _).mono ?_
      rintro e w1 ⟨rfl, hw1⟩
      have B1 := Below.trans0 B0 hw1 B0.size
      replace hna := hna.below hw1 hna.lt
      go_wp2_with fail
      refine (name_any s _ hsr (hN.below B1).laid).mono ?_
      rintro e w2 ⟨rfl, hw2⟩
      rw [Hn.out]
      have B2 := Below.trans0 B1 hw2 B1.size
      obtain ⟨r0, r1, r2, r3, z0, z1, z2, z3⟩ := hna.below hw2 hna.lt
      go_wp2
      refine bodyPost_ret (v := .tuple #[.agg #[.string s, .int .i64 0, .slice none 0 0, .string ⟨#[]⟩], .bool false]) (by simp [results, Tryz.results124, go_sem, r0, r1, r2, r3]) rfl ⟨?_, ?_⟩
      · exact (((B2.setCell (Nat.le_refl _) _).setCell (Nat.le_refl _) _).setCell (Nat.le_refl _) _).setCell (Nat.le_refl _) _
      · rw [fin.out]
        exact ⟨_, _, _, _, _, _, rfl⟩
    · have fin : Hid (R = some ⟨s, 0, ver0⟩) := Lib.hid (by rw [hR.out, if_pos hk0, hn]; rfl)
      have Hn := Lib.hid hn
      clear hn hR
      go_enter Tryz.func124, Tryz.ntmps124
      go_wp2_with fail
      have hna := NAt.made w 51
      have B0 : Below w.heap.size w (w.alloc (.cells #[.string ⟨#[]⟩, .int .i64 0, .slice none 0 0, .string ⟨#[]⟩] 51)) := (Below.refl _ _).alloc (Nat.le_refl _) _
      generalize w.alloc (.cells #[.string ⟨#[]⟩, .int .i64 0, .slice none 0 0, .string ⟨#[]⟩] 51) = W0 at *
      refine (hix.out _).mono ?_
      rintro e w1 ⟨rfl, hw1⟩
      have B1 := Below.trans0 B0 hw1 B0.size
      replace hna := hna.below hw1 hna.lt
      go_wp2_with fail
      refine (name_any s _ hsr (hN.below B1).laid).mono ?_
      rintro e w2 ⟨rfl, hw2⟩
      rw [Hn.out]
      have B2 := Below.trans0 B1 hw2 B1.size
      obtain ⟨r0, r1, r2, r3, z0, z1, z2, z3⟩ := hna.below hw2 hna.lt
      go_wp2
      refine bodyPost_ret (v := .tuple #[.agg #[.string s, .int .i64 0, .slice none 0 0, .string ⟨#[]⟩], .bool true]) (by simp [results, Tryz.results124, go_sem, r0, r1, r2, r3]) rfl ⟨?_, ?_⟩
      · exact (((B2.setCell (Nat.le_refl _) _).setCell (Nat.le_refl _) _).setCell (Nat.le_refl _) _).setCell (Nat.le_refl _) _
      · rw [fin.out]
        exact ⟨none, 0, rfl, Arr.nil _ _ _, hsr, (⟨by decide, by decide⟩ : In64 0), Nat.zero_le _⟩
  · obtain ⟨k0, rfl⟩ : ∃ k0 : Nat, K = (k0 : Int) := ⟨K.toNat, by omega⟩
    have hk0' : k0 ≤ s.size := by omega
    have hk1 : (0 : Int) ≤ k0 := by omega
    have hk2 : (k0 : Int) ≤ s.size := by omega
    have hR2 : Hid (R = match opAt (s.data.toList.drop k0) with
      | none => none
      | some (op, n) => match verParse (txt (s.data.toList.drop (k0 + n))) with
        | none => none
        | some v => if nameOk (txt (s.data.toList.take k0)) then some ⟨txt (s.data.toList.take k0), op, v⟩ else none) := Lib.hid (by rw [hR.out, if_neg hk0]; rfl)
    have hops := hN.laid.ops
    clear hR hK1 hK2 hk0
    have o0 := hops 0 _ rfl
    have o1 := hops 1 _ rfl
    have o2 := hops 2 _ rfl
    have o3 := hops 3 _ rfl
    have o4 := hops 4 _ rfl
    have o5 := hops 5 _ rfl
    have o6 := hops 6 _ rfl
    have o7 := hops 7 _ rfl
    have o8 := hops 8 _ rfl
    have o9 := hops 9 _ rfl
    have o10 := hops 10 _ rfl
    have o11 := hops 11 _ rfl
    clear hops
    go_enter Tryz.func124, Tryz.ntmps124
    go_wp2_with fail
    have hna := NAt.made w 51
    have B0 : Below w.heap.size w (w.alloc (.cells #[.string ⟨#[]⟩, .int .i64 0, .slice none 0 0, .string ⟨#[]⟩] 51)) := (Below.refl _ _).alloc (Nat.le_refl _) _
    generalize w.alloc (.cells #[.string ⟨#[]⟩, .int .i64 0, .slice none 0 0, .string ⟨#[]⟩] 51) = W0 at *
    refine (hix.out _).mono ?_
    rintro e w1 ⟨rfl, hw1⟩
    have B1 := Below.trans0 B0 hw1 B0.size
    replace hna := hna.below hw1 hna.lt
    replace o0 := box_below B1 o0
    replace o1 := box_below B1 o1
    replace o2 := box_below B1 o2
    replace o3 := box_below B1 o3
    replace o4 := box_below B1 o4
    replace o5 := box_below B1 o5
    replace o6 := box_below B1 o6
    replace o7 := box_below B1 o7
    replace o8 := box_below B1 o8
    replace o9 := box_below B1 o9
    replace o10 := box_below B1 o10
    replace o11 := box_below B1 o11
    go_wp2
    clear o0 o1 o2 o3 o4 o5 o6 o7 o8 o9 o10 o11
    go_loopw [6, 7, 8, 9, 10, 20] (fun x rest ok v er i wr => Below w1.heap.size w1 wr ∧ ∃ k : Nat, k ≤ 6 ∧ i = .int .i64 k ∧ Hid (opNo (s.data.toList.drop k0) k)) (fun _ _ _ _ _ i _ => 6 - (intOf i).toNat)
    case atStart => exact ⟨Below.refl _ _, 0, by omega, rfl, Lib.hid (fun j hj => by omega)⟩
    case round =>
      obtain ⟨hb, k, hk, rfl, hno⟩ := hrel
      have hnr := hna.below hb hna.lt
      have Br := Below.trans0 B1 hb B1.size
      have hzw : w.heap.size < wr.heap.size := hnr.lt
      by_cases hlt : k < 6
      · obtain ⟨pb, op, hidx, htab, hop⟩ := ops_any k hlt
        obtain ⟨Lk, hLk⟩ : ∃ Lk, Lk = s.data.toList.drop k0 := ⟨_, rfl⟩
        have hex : List.take (s.size - k0) (List.drop k0 s.data.toList) = Lk := by
          rw [hLk, List.take_of_length_le]
          rw [List.length_drop, Array.length_toList]; exact Nat.le_refl _
        have hstep := Lib.hid (fun h => opNo_succ hno.out htab h)
        have hyes := Lib.hid (fun h => opAt_yes hno.out htab h)
        have HLk := Lib.hid hLk
        clear hLk
        have hba : Below wr.heap.size wr (wr.alloc (.cells #[.string pb, .int .i64 op] 159)) := (Below.refl _ _).alloc (Nat.le_refl _) _
        have hBa : Below w.heap.size w (wr.alloc (.cells #[.string pb, .int .i64 op] 159)) := Br.alloc Br.size _
        have hBa1 : Below w1.heap.size w1 (wr.alloc (.cells #[.string pb, .int .i64 op] 159)) := hb.alloc hb.size _
        cases hp : Lib.hasPrefix Lk pb.data.toList
        · have hno' := Lib.hid (hstep.out (by rw [← HLk.out]; exact hp))
          clear hstep hyes
          go_wp2
          refine region_quiet (by kernel_rfl) (by kernel_rfl) ?_
          repeat (go_big_quiet_step ((go_at_call 122; exact call_quiet (cutPrefix_any _ pb _))))
          refine wpQuiet_nil ?_
          intro W1 hw1
          replace hw1 := below_of_ext hw1
          go_wp2
          go_roundw
          case rel => exact ⟨Below.trans0 hBa1 hw1 hBa1.size, k + 1, by omega, by go_num, hno'⟩
          case measure => simp [intOf]; omega
        · have hop' := Lib.hid (hyes.out (by rw [← HLk.out]; exact hp))
          have hX : Hid (txt (Lib.trimPrefix Lk pb.data.toList) = txt (s.data.toList.drop (k0 + pb.data.toList.length))) := Lib.hid (by
            unfold Lib.trimPrefix
            rw [if_pos hp, HLk.out, List.drop_drop])
          have hR3 : Hid (R = match verParse (txt (Lib.trimPrefix Lk pb.data.toList)) with
            | none => none
            | some v => if nameOk (txt (s.data.toList.take k0)) then some ⟨txt (s.data.toList.take k0), op, v⟩ else none) := Lib.hid (by rw [hR2.out, hop'.out, hX.out])
          have hXs : (txt (Lib.trimPrefix Lk pb.data.toList)).size ≤ s.size := by rw [hX.out, txt_size, List.length_drop, Array.length_toList]; exact Nat.sub_le _ _
          have hvr := Lib.hid (fun W hW => verParse_any (txt (Lib.trimPrefix Lk pb.data.toList)) W (by omega) hW)
          clear hstep hyes hR2 hop' hX
          generalize hXe : txt (Lib.trimPrefix Lk pb.data.toList) = X at *
          have hzb : wr.heap.size < (wr.alloc (.cells #[.string pb, .int .i64 op] 159)).heap.size := by simp
          have x1 : (wr.alloc (.cells #[.string pb, .int .i64 op] 159)).cell? ⟨wr.heap.size, 1, none⟩ = some (.int .i64 op) := laid_new
          go_wp2
          refine region_quiet (by kernel_rfl) (by kernel_rfl) ?_
          repeat (go_big_quiet_step ((go_at_call 122; exact call_quiet (cutPrefix_any _ pb _))))
          refine wpQuiet_nil ?_
          intro W1 hw1
          replace hw1 := below_of_ext hw1
          replace x1 := (World.cell?_of_block (hw1.block _ hzb)).trans x1
          have hn1 := (hnr.below hba hzw).below hw1 (Nat.lt_trans hzw hzb)
          have hzb1 : wr.heap.size < W1.heap.size := Nat.lt_of_lt_of_le hzb hw1.size
          have BW := Below.trans0 hBa hw1 hBa.size
          go_wp2_with fail
          refine (hvr.out _ (hN.below BW)).mono ?_
          intro e w5 hret
          obtain ⟨hw5, hr⟩ := hret
          replace x1 := (World.cell?_of_block (hw5.block _ hzb1)).trans x1
          have hn5 := hn1.below hw5 hn1.lt
          have BW5 := Below.trans0 BW hw5 BW.size
          cases hv : verParse X with
          | none =>
            rw [hv] at hr
            simp only at hr
            subst hr
            have fin : Hid (R = none) := Lib.hid (by rw [hR3.out, hv])
            clear hR3 hv hvr
            have hB6 : Below w5.heap.size w5 (w5.alloc (.cells #[.slice none 0 0, .string ⟨#[]⟩] 33)) := (Below.refl _ _).alloc (Nat.le_refl _) _
            have y0 : (w5.alloc (.cells #[.slice none 0 0, .string ⟨#[]⟩] 33)).cell? ⟨w5.heap.size, 0, none⟩ = some (.slice none 0 0) := laid_new
            have y1 : (w5.alloc (.cells #[.slice none 0 0, .string ⟨#[]⟩] 33)).cell? ⟨w5.heap.size, 1, none⟩ = some (.string ⟨#[]⟩) := laid_new
            replace x1 := (laid_old (o := .cells #[.slice none 0 0, .string ⟨#[]⟩] 33) (World.block_lt_of_cell? _ _ x1)).trans x1
            obtain ⟨r0, r1, r2, r3, z0, z1, z2, z3⟩ := hn5.below hB6 hn5.lt
            have BW6 : Below w.heap.size w (w5.alloc (.cells #[.slice none 0 0, .string ⟨#[]⟩] 33)) := BW5.alloc BW5.size _
            clear hnr hn1 hn5 hna hb Br hBa hBa1 BW hba hw1 hw5 hp hex hidx htab HLk
            go_wp2
            generalize w5.alloc (.cells #[.slice none 0 0, .string ⟨#[]⟩] 33) = W6 at *
            go_region
            all_goals
              go_wp2
              refine bodyPost_ret (v := .tuple #[.agg #[.string (s.extract 0 k0), .int .i64 op, .slice none 0 0, .string ⟨#[]⟩], .bool false]) (by simp [results, Tryz.results124, go_sem, r0, r1, r2, r3]) rfl ⟨?_, ?_⟩
              · exact ((((BW6.setCell (Nat.le_refl _) _).setCell (Nat.le_refl _) _).setCell (Nat.le_refl _) _).setCell (Nat.le_refl _) _).drew
              · rw [fin.out]
                exact ⟨_, _, _, _, _, _, rfl⟩
          | some v =>
            rw [hv] at hr
            obtain ⟨A, c, rfl, hA, hT⟩ := hr
            have hex0 : Hid (s.extract 0 k0 = txt (s.data.toList.take k0)) := Lib.hid (extract_take s k0)
            have hns : (s.extract 0 k0).size ≤ reach := Nat.le_trans (extract_size_le _ _ _) hsr
            have hB6 : Below w5.heap.size w5 (w5.alloc (.cells #[.slice A v.parts.length c, .string v.tail] 33)) := (Below.refl _ _).alloc (Nat.le_refl _) _
            have y0 : (w5.alloc (.cells #[.slice A v.parts.length c, .string v.tail] 33)).cell? ⟨w5.heap.size, 0, none⟩ = some (.slice A v.parts.length c) := laid_new
            have y1 : (w5.alloc (.cells #[.slice A v.parts.length c, .string v.tail] 33)).cell? ⟨w5.heap.size, 1, none⟩ = some (.string v.tail) := laid_new
            have hA6 := hA.below hB6
            have hx5 : wr.heap.size < w5.heap.size := World.block_lt_of_cell? _ _ x1
            replace x1 := (laid_old (o := .cells #[.slice A v.parts.length c, .string v.tail] 33) hx5).trans x1
            obtain ⟨r0, r1, r2, r3, z0, z1, z2, z3⟩ := hn5.below hB6 hn5.lt
            have BW6 : Below w.heap.size w (w5.alloc (.cells #[.slice A v.parts.length c, .string v.tail] 33)) := BW5.alloc BW5.size _
            have b1 : wr.heap.size < (w5.alloc (.cells #[.slice A v.parts.length c, .string v.tail] 33)).heap.size := World.block_lt_of_cell? _ _ x1
            have b2 : w5.heap.size < (w5.alloc (.cells #[.slice A v.parts.length c, .string v.tail] 33)).heap.size := World.block_lt_of_cell? _ _ y0
            have b3 : w.heap.size < (w5.alloc (.cells #[.slice A v.parts.length c, .string v.tail] 33)).heap.size := World.block_lt_of_cell? _ _ r0
            have n1 : ¬ w.heap.size = wr.heap.size := by omega
            have n2 : ¬ w.heap.size = w5.heap.size := by omega
            have hI : ∀ w1, Below (w5.alloc (.cells #[.slice A v.parts.length c, .string v.tail] 33)).drew.heap.size (w5.alloc (.cells #[.slice A v.parts.length c, .string v.tail] 33)).drew w1 → Below (w5.alloc (.cells #[.slice A v.parts.length c, .string v.tail] 33)).heap.size (w5.alloc (.cells #[.slice A v.parts.length c, .string v.tail] 33)) w1 := fun w1 h => ((Below.refl _ _).drew).trans h
            clear hnr hn1 hn5 hna hb Br hBa hBa1 hba hw1 hw5 hp hex hidx htab HLk
            cases hnm : nameOk (txt (s.data.toList.take k0))
            · have fin : Hid (R = none) := Lib.hid (by rw [hR3.out, hv]; simp only; rw [hnm]; rfl)
              have Hn : Hid (nameOk (s.extract 0 k0) = false) := Lib.hid (by rw [hex0.out, hnm])
              clear hR3 hv hvr hnm
              go_wp2
              generalize w5.alloc (.cells #[.slice A v.parts.length c, .string v.tail] 33) = W6 at *
              go_region_held3 (fun W => W.cell? ⟨wr.heap.size, 1, none⟩ = some (.int .i64 op) ∧ W.cell? ⟨w5.heap.size, 0, none⟩ = some (.slice A v.parts.length c) ∧ W.cell? ⟨w5.heap.size, 1, none⟩ = some (.string v.tail)) (first | go_keep | (refine ⟨?_, ?_, ?_⟩ <;> simp [go_sem, n1, n2, x1, y0, y1])) (first | (go_at_call 38; refine (name_any (s.extract 0 k0) _ hns (hN.below BW6.drew).laid).mono ?_; rintro e w8 ⟨rfl, hw8⟩; rw [Hn.out]; replace hw8 := hI w8 hw8; obtain ⟨q1, q2⟩ := bcell hw8; replace x1 := (q1 _ _ b1).trans x1; replace y0 := (q1 _ _ b2).trans y0; replace y1 := (q1 _ _ b2).trans y1; replace r0 := (q1 _ _ b3).trans r0; replace r1 := (q1 _ _ b3).trans r1; replace r2 := (q1 _ _ b3).trans r2; replace r3 := (q1 _ _ b3).trans r3; replace z0 := (q2 _ _ b3).trans z0; replace z1 := (q2 _ _ b3).trans z1; replace z2 := (q2 _ _ b3).trans z2; replace z3 := (q2 _ _ b3).trans z3; clear q1 q2; have BW8 := Below.trans0 BW6 hw8 BW6.size))
              all_goals
                go_wp2
                refine bodyPost_ret (v := .tuple #[.agg #[.string (s.extract 0 k0), .int .i64 op, .slice A v.parts.length c, .string v.tail], .bool false]) (by simp [results, Tryz.results124, go_sem, r0, r1, r2, r3]) rfl ⟨?_, ?_⟩
                · exact (((BW8.setCell (Nat.le_refl _) _).setCell (Nat.le_refl _) _).setCell (Nat.le_refl _) _).setCell (Nat.le_refl _) _
                · rw [fin.out]
                  exact ⟨_, _, _, _, _, _, rfl⟩
            · have fin : Hid (R = some ⟨txt (s.data.toList.take k0), op, v⟩) := Lib.hid (by rw [hR3.out, hv]; simp only; rw [hnm]; rfl)
              have Hn : Hid (nameOk (s.extract 0 k0) = true) := Lib.hid (by rw [hex0.out, hnm])
              clear hR3 hv hvr hnm
              go_wp2
              generalize w5.alloc (.cells #[.slice A v.parts.length c, .string v.tail] 33) = W6 at *
              go_region_held3 (fun W => W.cell? ⟨wr.heap.size, 1, none⟩ = some (.int .i64 op) ∧ W.cell? ⟨w5.heap.size, 0, none⟩ = some (.slice A v.parts.length c) ∧ W.cell? ⟨w5.heap.size, 1, none⟩ = some (.string v.tail)) (first | go_keep | (refine ⟨?_, ?_, ?_⟩ <;> simp [go_sem, n1, n2, x1, y0, y1])) (first | (go_at_call 38; refine (name_any (s.extract 0 k0) _ hns (hN.below BW6.drew).laid).mono ?_; rintro e w8 ⟨rfl, hw8⟩; rw [Hn.out]; replace hw8 := hI w8 hw8; obtain ⟨q1, q2⟩ := bcell hw8; replace x1 := (q1 _ _ b1).trans x1; replace y0 := (q1 _ _ b2).trans y0; replace y1 := (q1 _ _ b2).trans y1; replace r0 := (q1 _ _ b3).trans r0; replace r1 := (q1 _ _ b3).trans r1; replace r2 := (q1 _ _ b3).trans r2; replace r3 := (q1 _ _ b3).trans r3; replace z0 := (q2 _ _ b3).trans z0; replace z1 := (q2 _ _ b3).trans z1; replace z2 := (q2 _ _ b3).trans z2; replace z3 := (q2 _ _ b3).trans z3; clear q1 q2; have BW8 := Below.trans0 BW6 hw8 BW6.size))
              all_goals
                go_wp2
                refine bodyPost_ret (v := .tuple #[.agg #[.string (s.extract 0 k0), .int .i64 op, .slice A v.parts.length c, .string v.tail], .bool true]) (by simp [results, Tryz.results124, go_sem, r0, r1, r2, r3]) rfl ⟨?_, ?_⟩
                · exact (((BW8.setCell (Nat.le_refl _) _).setCell (Nat.le_refl _) _).setCell (Nat.le_refl _) _).setCell (Nat.le_refl _) _
                · rw [fin.out]
                  rw [hex0.out]
                  have hA8 := hA6.below hw8
                  exact ⟨A, c, rfl, ((((hA8.set _ _ (S' := fun b => W1.heap.size ≤ b) (fun b h _ => ⟨h, by simp only; omega⟩)).set _ _ (S' := fun b => W1.heap.size ≤ b) (fun b h _ => ⟨h, by simp only; omega⟩)).set _ _ (S' := fun b => W1.heap.size ≤ b) (fun b h _ => ⟨h, by simp only; omega⟩)).set _ _ (S' := fun b => W1.heap.size ≤ b) (fun b h _ => ⟨h, by simp only; omega⟩)).mono (fun b _ h => by have := BW.size; omega), by rw [← hex0.out]; exact hns, hop, hT⟩
      · have hk6 : k = 6 := by omega
        subst hk6
        have fin : Hid (R = none) := Lib.hid (by rw [hR2.out, opAt_no hno.out])
        clear hR2
        obtain ⟨r0, r1, r2, r3, z0, z1, z2, z3⟩ := hnr
        go_wp2
        refine bodyPost_ret (v := .tuple #[.agg #[.string ⟨#[]⟩, .int .i64 0, .slice none 0 0, .string ⟨#[]⟩], .bool false]) (by simp [results, Tryz.results124, go_sem, r0, r1, r2, r3]) rfl ⟨?_, ?_⟩
        · exact (((Br.setCell (Nat.le_refl _) _).setCell (Nat.le_refl _) _).setCell (Nat.le_refl _) _).setCell (Nat.le_refl _) _
        · rw [fin.out]
          exact ⟨_, _, _, _, _, _, rfl⟩

end Go.Proofs.YtppbjmhllmaakaaGreatDoor
