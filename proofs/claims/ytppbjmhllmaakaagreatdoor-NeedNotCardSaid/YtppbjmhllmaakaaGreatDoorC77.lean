/- Contract: strings.IndexAny of any text, at the ops' letters. -/
import Derived.Test.YtppbjmhllmaakaaGreatDoorC76
import Derived.Test.YtppbjmhllmaakaaGreatDoorX24
import Derived.Deep.WholeRow
set_option linter.unusedVariables false
namespace Go.Proofs.YtppbjmhllmaakaaGreatDoor
open Go.RowKit

theorem runeAscii_any (c : UInt8) (w : World) (hc : c.toNat < 128) :
    Calls Tryz.prog 188 #[.string ⟨#[61, 60, 62, 33]⟩, .int .i32 (c.toNat : Int)] w fun e w' => e = .returned (.int .i64 (Lib.indexByte [61, 60, 62, 33] c)) ∧ Below w.heap.size w w' := by
  refine (Tryz.strings_IndexRune_ascii ⟨#[61, 60, 62, 33]⟩ c.toNat w (by omega) (by omega)).mono ?_
  rintro e w' ⟨rfl, rfl⟩
  have e : ((c.toNat : Int).toNat.toUInt8) = c := by simp
  rw [e]
  exact ⟨rfl, Below.refl _ _⟩
theorem opc_index (c : UInt8) : (0 ≤ Lib.indexByte [61, 60, 62, 33] c) ↔ opc c = true := by
  simp only [Lib.indexByte, opc]
  by_cases h1 : c = 61
  · subst h1; decide
  · by_cases h2 : c = 60
    · subst h2; decide
    · by_cases h3 : c = 62
      · subst h3; decide
      · by_cases h4 : c = 33
        · subst h4; decide
        · simp [h1, h2, h3, h4, Ne.symm h1, Ne.symm h2, Ne.symm h3, Ne.symm h4]

set_option maxHeartbeats 0 in
set_option maxRecDepth 100000 in
theorem indexAnyShort_any (s : ByteArray) (w : World) (h8 : s.size ≤ 8) :
    Calls Tryz.prog 150 #[.string s, .string ⟨#[61, 60, 62, 33]⟩] w fun e w' => e = .returned (.int .i64 (opFrom s)) ∧ Below w.heap.size w w' := by
  have h8' : ¬ (8 : Int) < s.size := by omega
  obtain ⟨R, hR⟩ : ∃ R, Hid (opFrom s = R) := ⟨_, Lib.hid rfl⟩
  rw [hR.out]
  go_enter Tryz.func150, Tryz.ntmps150
  go_wp2
  have hit : (w.iter s 0).heap[w.heap.size]? = some (.stringIter s 0) := iter_at w s
  have hB : Below w.heap.size w (w.iter s 0) := iter_below w s 0
  generalize w.iter s 0 = w1 at *
  go_loopw [9, 10] (fun i c wr => Below w.heap.size w wr ∧ ∃ k : Nat, k ≤ s.size ∧ wr.heap[w.heap.size]? = some (.stringIter s k) ∧ Hid (∀ j (hj : j < s.size), j < k → opc (s[j]'hj) = false)) (fun _ _ wr => s.size - wr.iterPos w.heap.size)
  case atStart => exact ⟨hB, 0, Nat.zero_le _, hit, Lib.hid (fun j _ h => absurd h (Nat.not_lt_zero _))⟩
  case round =>
    obtain ⟨hb, k, hk, hi, hno⟩ := hrel
    have Hip := Lib.hid (iterPos_of hi)
    by_cases hlt : k < s.size
    · have hn := next_at (P := Tryz.prog) wr w.heap.size s k hi hlt
      by_cases ha : (s[k].toNat : Int) < 128
      · rw [rune_ascii hlt ha] at hn
        have hix := opc_index s[k]
        have hcon := Lib.hid (fun W => runeAscii_any s[k] W (by omega))
        cases hop : opc s[k]
        · have hneg : ¬ (0 : Int) ≤ Lib.indexByte [61, 60, 62, 33] s[k] := by rw [hix, hop]; simp
          have hno2 : Hid (∀ j (hj : j < s.size), j < k + 1 → opc (s[j]'hj) = false) := Lib.hid (fun j hj h => by
            by_cases e : j = k
            · subst e; exact hop
            · exact hno.out j hj (by omega))
          clear hix hop
          generalize Lib.indexByte [61, 60, 62, 33] s[k] = ix at *
          go_wp2_with fail
          refine (hcon.out _).mono ?_
          rintro e w2 ⟨rfl, hw2⟩
          have hB0 : Below w.heap.size w (wr.setIter w.heap.size s (k + 1)) := hb.setIter (Nat.le_refl _) _ _
          have hB2 : Below w.heap.size w w2 := Below.trans0 hB0 hw2 hB0.size
          have hi2 : w2.heap[w.heap.size]? = some (.stringIter s (k + 1)) := below_at hw2 (setIter_at _ _ _ _ (iter_lt hi))
          clear hw2 hB0 hn
          go_wp2
          go_roundw
          case rel => exact ⟨hB2, k + 1, by omega, hi2, hno2⟩
          case measure => rw [iterPos_of hi2, Hip.out]; omega
        · have hpos : (0 : Int) ≤ Lib.indexByte [61, 60, 62, 33] s[k] := hix.2 hop
          have fin : Hid (R = k) := Lib.hid (by rw [← hR.out]; exact opFrom_at hlt hno.out hop)
          clear hix hop
          generalize Lib.indexByte [61, 60, 62, 33] s[k] = ix at *
          go_wp2_with fail
          refine (hcon.out _).mono ?_
          rintro e w2 ⟨rfl, hw2⟩
          have hB0 : Below w.heap.size w (wr.setIter w.heap.size s (k + 1)) := hb.setIter (Nat.le_refl _) _ _
          have hB2 : Below w.heap.size w w2 := Below.trans0 hB0 hw2 hB0.size
          clear hw2 hB0 hn
          go_wp2
          go_ret
          exact ⟨by rw [fin.out]; rfl, hB2⟩
      · have hspan := Lib.hid (decode_span s k hlt (by omega))
        obtain ⟨c, wd, hd⟩ : ∃ c wd : Nat, Utf8.decode s k = (c, wd) := ⟨_, _, rfl⟩
        have hc1 : 128 ≤ c := by have := rune_high hlt ha; rw [hd] at this; exact this
        have hc2 : c ≤ 2147483647 := by have := decode_le s k; rw [hd] at this; exact this
        have hw1 : 1 ≤ wd := by have := (decode_high s k hlt (by omega)).2; rw [hd] at this; exact this
        have hspan2 : Hid (∀ j, k ≤ j → j < k + wd → ∃ hj : j < s.size, 128 ≤ (s[j]'hj).toNat) := Lib.hid (by have := hspan.out; rw [hd] at this; exact this)
        have hks : k + wd ≤ s.size := by
          obtain ⟨hj, _⟩ := hspan2.out (k + wd - 1) (by omega) (by omega)
          omega
        have hno2 : Hid (∀ j (hj : j < s.size), j < k + wd → opc (s[j]'hj) = false) := Lib.hid (fun j hj h => by
          by_cases e : j < k
          · exact hno.out j hj e
          · obtain ⟨_, h2⟩ := hspan2.out j (by omega) h
            exact opc_high h2)
        rw [hd] at hn
        clear hspan hspan2 hd
        have hcon := Lib.hid (fun W => indexRune_high (c : Int) W (by omega) (by omega))
        go_wp2_with fail
        refine (hcon.out _).mono ?_
        rintro e w2 ⟨rfl, hw2⟩
        have hB0 : Below w.heap.size w (wr.setIter w.heap.size s (k + wd)) := hb.setIter (Nat.le_refl _) _ _
        have hB2 : Below w.heap.size w w2 := Below.trans0 hB0 hw2 hB0.size
        have hi2 : w2.heap[w.heap.size]? = some (.stringIter s (k + wd)) := below_at hw2 (setIter_at _ _ _ _ (iter_lt hi))
        clear hw2 hB0 hn
        go_wp2
        go_roundw
        case rel => exact ⟨hB2, k + wd, by omega, hi2, hno2⟩
        case measure => rw [iterPos_of hi2, Hip.out]; omega
    · have hn := next_end (P := Tryz.prog) wr w.heap.size s k hi hlt
      have fin : Hid (R = -1) := Lib.hid (by rw [← hR.out]; exact opFrom_none (fun j hj => hno.out j hj (by omega)))
      go_wp2
      go_ret
      exact ⟨by rw [fin.out]; rfl, hb⟩

theorem indexAnyLong_any (s : ByteArray) (w : World) (h8 : 8 < s.size) (hs : s.size < 4294967281) :
    Calls Tryz.prog 150 #[.string s, .string ⟨#[61, 60, 62, 33]⟩] w fun e w' => e = .returned (.int .i64 (opFrom s)) ∧ Below w.heap.size w w' := by
  have hz := zero_of_info (P := Tryz.prog) (t := 188) (show (Tryz.prog.info? 188).map (fun i => (i.zero, i.size)) = some (some (.agg (Array.replicate 256 (.bool false))), 256) by kernel_rfl)
  refine (Tryz.strings_IndexAny_long hz.1 s ⟨#[61, 60, 62, 33]⟩ w (by decide) h8 hs (by decide) (fun j b hj => by
    have : ∀ x ∈ (ByteArray.mk #[61, 60, 62, 33]).data.toList, x.toNat < 128 := by decide
    exact this b (List.mem_of_getElem? hj))).mono ?_
  rintro e w' ⟨rfl, rfl⟩
  exact ⟨rfl, ((Below.refl _ _).alloc (Nat.le_refl _) _).alloc (by simp) _⟩
theorem indexAny4_any (s : ByteArray) (w : World) (hs : s.size < 4294967281) :
    Calls Tryz.prog 150 #[.string s, .string ⟨#[61, 60, 62, 33]⟩] w fun e w' => e = .returned (.int .i64 (opFrom s)) ∧ Below w.heap.size w w' := by
  by_cases h8 : 8 < s.size
  · exact indexAnyLong_any s w h8 hs
  · exact indexAnyShort_any s w (by omega)

end Go.Proofs.YtppbjmhllmaakaaGreatDoor
