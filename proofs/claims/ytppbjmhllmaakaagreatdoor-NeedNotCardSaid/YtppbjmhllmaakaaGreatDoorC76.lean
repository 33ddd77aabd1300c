/- Contract: strings.IndexRune of a rune that isn't ASCII, in the ops' letters. -/
import Derived.Test.YtppbjmhllmaakaaGreatDoorC62
import Derived.Laws.Runes
import Derived.WalkMore
set_option linter.unusedVariables false
namespace Go.Proofs.YtppbjmhllmaakaaGreatDoor
open Go.RowKit

def opChars : ByteArray := ⟨#[61, 60, 62, 33]⟩
theorem opChars_low (k : Nat) (h : k < opChars.size) : (opChars[k].toNat : Int) < 128 := by
  have h4 : ∀ k : Fin 4, ((opChars.data[k.1]'k.2).toNat : Int) < 128 := by decide
  exact h4 ⟨k, h⟩

theorem indexByte_none {l : List UInt8} {c : UInt8} (h : ∀ x ∈ l, x ≠ c) : Lib.indexByte l c = -1 := by
  induction l with
  | nil => rfl
  | cons b r ih =>
    have h1 := h b (by simp)
    have h2 := ih (fun x hx => h x (by simp [hx]))
    unfold Lib.indexByte
    simp [h1, h2]
theorem indexByte_high (s : ByteArray) (c : UInt8) (w : World) (hs : ∀ x ∈ s.data.toList, x.toNat < 128) (hc : 128 ≤ c.toNat) :
    Calls Tryz.prog 92 #[.string s, .int .u8 (c.toNat : Int)] w fun e w' => e = .returned (.int .i64 (-1)) ∧ Below w.heap.size w w' := by
  refine (Tryz.strings_IndexByte s c.toNat w).mono ?_
  rintro e w' ⟨rfl, rfl⟩
  refine ⟨?_, Below.refl _ _⟩
  rw [indexByte_none (fun x hx e => by
    have h1 := hs x hx
    have h2 : ((c.toNat : Int).toNat.toUInt8) = c := by simp
    rw [h2] at e
    rw [e] at h1
    omega)]

set_option maxHeartbeats 0 in
set_option maxRecDepth 100000 in
theorem indexRune_high (r : Int) (w : World) (h1 : 128 ≤ r) (h2 : r ≤ 2147483647) :
    Calls Tryz.prog 188 #[.string ⟨#[61, 60, 62, 33]⟩, .int .i32 r] w fun e w' => e = .returned (.int .i64 (-1)) ∧ Below w.heap.size w w' := by
  have a1 : (0 : Int) ≤ r := by omega
  have a2 : ¬ r < 128 := by omega
  by_cases he : r = 65533
  · subst he
    go_enter Tryz.func188, Tryz.ntmps188
    go_wp2
    change Code.wp _ _ _ _ (w.iter opChars 0)
    have hit : (w.iter opChars 0).heap[w.heap.size]? = some (.stringIter opChars 0) := iter_at w opChars
    have hB : Below w.heap.size w (w.iter opChars 0) := iter_below w opChars 0
    generalize w.iter opChars 0 = w1 at *
    go_loopw [5, 6] (fun i c wr => Below w.heap.size w wr ∧ ∃ k : Nat, k ≤ opChars.size ∧ wr.heap[w.heap.size]? = some (.stringIter opChars k)) (fun _ _ wr => opChars.size - wr.iterPos w.heap.size)
    case atStart => exact ⟨hB, 0, Nat.zero_le _, hit⟩
    case round =>
      obtain ⟨hb, k, hk, hi⟩ := hrel
      have Hip := Lib.hid (iterPos_of hi)
      by_cases hlt : k < opChars.size
      · have hn := next_at (P := Tryz.prog) wr w.heap.size opChars k hi hlt
        have hlow := opChars_low k hlt
        rw [rune_ascii hlt hlow] at hn
        have hne : ¬ ((opChars[k].toNat : Nat) : Int) = 65533 := by omega
        have hne2 : (((opChars[k].toNat : Nat) : Int) == 65533) = false := by simp; omega
        generalize opChars[k].toNat = cc at *
        go_wp2
        go_roundw
        case rel => exact ⟨hb.setIter (Nat.le_refl _) _ _, k + 1, by omega, setIter_at _ _ _ _ (iter_lt hi)⟩
        case measure => rw [iterPos_of (setIter_at _ _ _ _ (iter_lt hi)), Hip.out]; omega
      · have hn := next_end (P := Tryz.prog) wr w.heap.size opChars k hi hlt
        go_wp2
        go_ret
        exact ⟨rfl, hb⟩
  · have a3 : (r == 65533) = false := by simpa using he
    by_cases c0 : r < 55296
    · have hv : Utf8.valid r = true := by rw [validRune_eq]; exact decide_eq_true (Or.inl ⟨a1, c0⟩)
      obtain ⟨z2, z4, z1⟩ := encode_facts r hv h1
      obtain ⟨E, hE⟩ : ∃ E, Utf8.encode r = E := ⟨_, rfl⟩
      rw [hE] at z2 z4 z1
      have hsz : E.size = 2 ∨ E.size = 3 ∨ E.size = 4 := by omega
      clear hv z2 z4
      go_enter Tryz.func188, Tryz.ntmps188
      go_wp2
      rcases hsz with hs | hs | hs
      all_goals
        go_step3
        go_wp2
      · have hl : 128 ≤ (E[1]'(by omega)).toNat := by have := z1 (by omega); simpa [hs] using this
        have g2 : ((((⟨#[61, 60, 62, 33]⟩ : ByteArray)[1]'(by decide)).toNat : Int) != ((E[1]'(by omega)).toNat : Int)) = true := by
          have e : ((⟨#[61, 60, 62, 33]⟩ : ByteArray)[1]'(by decide)).toNat = 60 := rfl
          rw [e]
          simp
          omega
        have hib := Lib.hid (fun W => indexByte_high ((⟨#[61, 60, 62, 33]⟩ : ByteArray).extract 2 4) (E[1]'(by omega)) W (by decide) hl)
        refine wp_loop_rounds 1 ?_
        rw [rounds_succ]
        go_wp2
        go_step3
        go_wp2
        refine region_quiet (by kernel_rfl) (by kernel_rfl) ?_
        repeat (go_big_quiet_step (fail))
        refine wpQuiet_nil ?_
        intro W1 hw1
        replace hw1 := below_of_ext hw1
        go_wp2
        refine region_quiet (by kernel_rfl) (by kernel_rfl) ?_
        repeat (go_big_quiet_step ((go_at_call 92; exact call_quiet (hib.out _))))
        refine wpQuiet_nil ?_
        intro W2 hw2
        replace hw2 := below_of_ext hw2
        go_wp2
        try rw [Exit.noGoto_ret]
        try go_wp2
        try rw [Exit.noGoto_ret]
        try go_wp2
        try rw [Exit.noGoto_ret]
        go_ret
        exact ⟨rfl, Below.trans0 hw1 hw2 hw1.size⟩
      · have hl : 128 ≤ (E[2]'(by omega)).toNat := by have := z1 (by omega); simpa [hs] using this
        have g2 : ((((⟨#[61, 60, 62, 33]⟩ : ByteArray)[2]'(by decide)).toNat : Int) != ((E[2]'(by omega)).toNat : Int)) = true := by
          have e : ((⟨#[61, 60, 62, 33]⟩ : ByteArray)[2]'(by decide)).toNat = 62 := rfl
          rw [e]
          simp
          omega
        have hib := Lib.hid (fun W => indexByte_high ((⟨#[61, 60, 62, 33]⟩ : ByteArray).extract 3 4) (E[2]'(by omega)) W (by decide) hl)
        refine wp_loop_rounds 1 ?_
        rw [rounds_succ]
        go_wp2
        go_step3
        go_wp2
        refine region_quiet (by kernel_rfl) (by kernel_rfl) ?_
        repeat (go_big_quiet_step (fail))
        refine wpQuiet_nil ?_
        intro W1 hw1
        replace hw1 := below_of_ext hw1
        go_wp2
        refine region_quiet (by kernel_rfl) (by kernel_rfl) ?_
        repeat (go_big_quiet_step ((go_at_call 92; exact call_quiet (hib.out _))))
        refine wpQuiet_nil ?_
        intro W2 hw2
        replace hw2 := below_of_ext hw2
        go_wp2
        try rw [Exit.noGoto_ret]
        try go_wp2
        try rw [Exit.noGoto_ret]
        try go_wp2
        try rw [Exit.noGoto_ret]
        go_ret
        exact ⟨rfl, Below.trans0 hw1 hw2 hw1.size⟩
      · have hl : 128 ≤ (E[3]'(by omega)).toNat := by have := z1 (by omega); simpa [hs] using this
        have g2 : ((((⟨#[61, 60, 62, 33]⟩ : ByteArray)[3]'(by decide)).toNat : Int) != ((E[3]'(by omega)).toNat : Int)) = true := by
          have e : ((⟨#[61, 60, 62, 33]⟩ : ByteArray)[3]'(by decide)).toNat = 33 := rfl
          rw [e]
          simp
          omega
        have hib := Lib.hid (fun W => indexByte_high ((⟨#[61, 60, 62, 33]⟩ : ByteArray).extract 4 4) (E[3]'(by omega)) W (by decide) hl)
        refine wp_loop_rounds 1 ?_
        rw [rounds_succ]
        go_wp2
        go_step3
        go_wp2
        refine region_quiet (by kernel_rfl) (by kernel_rfl) ?_
        repeat (go_big_quiet_step (fail))
        refine wpQuiet_nil ?_
        intro W1 hw1
        replace hw1 := below_of_ext hw1
        go_wp2
        refine region_quiet (by kernel_rfl) (by kernel_rfl) ?_
        repeat (go_big_quiet_step ((go_at_call 92; exact call_quiet (hib.out _))))
        refine wpQuiet_nil ?_
        intro W2 hw2
        replace hw2 := below_of_ext hw2
        go_wp2
        try rw [Exit.noGoto_ret]
        try go_wp2
        try rw [Exit.noGoto_ret]
        try go_wp2
        try rw [Exit.noGoto_ret]
        go_ret
        exact ⟨rfl, Below.trans0 hw1 hw2 hw1.size⟩
    · by_cases c1 : r ≤ 57343
      · have c2 : ¬ 57343 < r := by omega
        go_enter Tryz.func188, Tryz.ntmps188
        go_wp2
        go_ret
        exact ⟨rfl, Below.refl _ _⟩
      · have c2 : 57343 < r := by omega
        by_cases c3 : r ≤ 1114111
        · have hv : Utf8.valid r = true := by rw [validRune_eq]; exact decide_eq_true (Or.inr ⟨c2, c3⟩)
          obtain ⟨z2, z4, z1⟩ := encode_facts r hv h1
          obtain ⟨E, hE⟩ : ∃ E, Utf8.encode r = E := ⟨_, rfl⟩
          rw [hE] at z2 z4 z1
          have hsz : E.size = 2 ∨ E.size = 3 ∨ E.size = 4 := by omega
          clear hv z2 z4
          go_enter Tryz.func188, Tryz.ntmps188
          go_wp2
          rcases hsz with hs | hs | hs
          all_goals
            go_step3
            go_wp2
          · have hl : 128 ≤ (E[1]'(by omega)).toNat := by have := z1 (by omega); simpa [hs] using this
            have g2 : ((((⟨#[61, 60, 62, 33]⟩ : ByteArray)[1]'(by decide)).toNat : Int) != ((E[1]'(by omega)).toNat : Int)) = true := by
              have e : ((⟨#[61, 60, 62, 33]⟩ : ByteArray)[1]'(by decide)).toNat = 60 := rfl
              rw [e]
              simp
              omega
            have hib := Lib.hid (fun W => indexByte_high ((⟨#[61, 60, 62, 33]⟩ : ByteArray).extract 2 4) (E[1]'(by omega)) W (by decide) hl)
            refine wp_loop_rounds 1 ?_
            rw [rounds_succ]
            go_wp2
            go_step3
            go_wp2
            refine region_quiet (by kernel_rfl) (by kernel_rfl) ?_
            repeat (go_big_quiet_step (fail))
            refine wpQuiet_nil ?_
            intro W1 hw1
            replace hw1 := below_of_ext hw1
            go_wp2
            refine region_quiet (by kernel_rfl) (by kernel_rfl) ?_
            repeat (go_big_quiet_step ((go_at_call 92; exact call_quiet (hib.out _))))
            refine wpQuiet_nil ?_
            intro W2 hw2
            replace hw2 := below_of_ext hw2
            go_wp2
            try rw [Exit.noGoto_ret]
            try go_wp2
            try rw [Exit.noGoto_ret]
            try go_wp2
            try rw [Exit.noGoto_ret]
            go_ret
            exact ⟨rfl, Below.trans0 hw1 hw2 hw1.size⟩
          · have hl : 128 ≤ (E[2]'(by omega)).toNat := by have := z1 (by omega); simpa [hs] using this
            have g2 : ((((⟨#[61, 60, 62, 33]⟩ : ByteArray)[2]'(by decide)).toNat : Int) != ((E[2]'(by omega)).toNat : Int)) = true := by
              have e : ((⟨#[61, 60, 62, 33]⟩ : ByteArray)[2]'(by decide)).toNat = 62 := rfl
              rw [e]
              simp
              omega
            have hib := Lib.hid (fun W => indexByte_high ((⟨#[61, 60, 62, 33]⟩ : ByteArray).extract 3 4) (E[2]'(by omega)) W (by decide) hl)
            refine wp_loop_rounds 1 ?_
            rw [rounds_succ]
            go_wp2
            go_step3
            go_wp2
            refine region_quiet (by kernel_rfl) (by kernel_rfl) ?_
            repeat (go_big_quiet_step (fail))
            refine wpQuiet_nil ?_
            intro W1 hw1
            replace hw1 := below_of_ext hw1
            go_wp2
            refine region_quiet (by kernel_rfl) (by kernel_rfl) ?_
            repeat (go_big_quiet_step ((go_at_call 92; exact call_quiet (hib.out _))))
            refine wpQuiet_nil ?_
            intro W2 hw2
            replace hw2 := below_of_ext hw2
            go_wp2
            try rw [Exit.noGoto_ret]
            try go_wp2
            try rw [Exit.noGoto_ret]
            try go_wp2
            try rw [Exit.noGoto_ret]
            go_ret
            exact ⟨rfl, Below.trans0 hw1 hw2 hw1.size⟩
          · have hl : 128 ≤ (E[3]'(by omega)).toNat := by have := z1 (by omega); simpa [hs] using this
            have g2 : ((((⟨#[61, 60, 62, 33]⟩ : ByteArray)[3]'(by decide)).toNat : Int) != ((E[3]'(by omega)).toNat : Int)) = true := by
              have e : ((⟨#[61, 60, 62, 33]⟩ : ByteArray)[3]'(by decide)).toNat = 33 := rfl
              rw [e]
              simp
              omega
            have hib := Lib.hid (fun W => indexByte_high ((⟨#[61, 60, 62, 33]⟩ : ByteArray).extract 4 4) (E[3]'(by omega)) W (by decide) hl)
            refine wp_loop_rounds 1 ?_
            rw [rounds_succ]
            go_wp2
            go_step3
            go_wp2
            refine region_quiet (by kernel_rfl) (by kernel_rfl) ?_
            repeat (go_big_quiet_step (fail))
            refine wpQuiet_nil ?_
            intro W1 hw1
            replace hw1 := below_of_ext hw1
            go_wp2
            refine region_quiet (by kernel_rfl) (by kernel_rfl) ?_
            repeat (go_big_quiet_step ((go_at_call 92; exact call_quiet (hib.out _))))
            refine wpQuiet_nil ?_
            intro W2 hw2
            replace hw2 := below_of_ext hw2
            go_wp2
            try rw [Exit.noGoto_ret]
            try go_wp2
            try rw [Exit.noGoto_ret]
            try go_wp2
            try rw [Exit.noGoto_ret]
            go_ret
            exact ⟨rfl, Below.trans0 hw1 hw2 hw1.size⟩
        · go_enter Tryz.func188, Tryz.ntmps188
          go_wp2
          go_ret
          exact ⟨rfl, Below.refl _ _⟩

end Go.Proofs.YtppbjmhllmaakaaGreatDoor
