/- A text's pieces: how many, how long. -/
import Derived.Test.YtppbjmhllmaakaaGreatDoorX17
import Derived.Lib.SplitLaws
set_option linter.unusedVariables false
namespace Go.Proofs.YtppbjmhllmaakaaGreatDoor

theorem pieces_len (s sep : ByteArray) (h1 : 1 ≤ sep.size) : (pieces s sep).length = Lib.countB s sep + 1 := Lib.splitB_all sep h1 0 _ s rfl
theorem pieces_le (s sep : ByteArray) (h1 : 1 ≤ sep.size) : (pieces s sep).length ≤ s.size + 1 := by
  rw [pieces_len s sep h1]
  have := Lib.countB_le sep h1 s.size s (Nat.le_refl _)
  omega
theorem extract_size_le (s : ByteArray) (a b : Nat) : (s.extract a b).size ≤ s.size := by
  rw [ByteArray.size_extract]; omega
theorem splitB_size (sep : ByteArray) : ∀ (k : Nat) (s p : ByteArray), p ∈ Lib.splitB sep 0 k s → p.size ≤ s.size
  | 0, s, p, h => by
    rw [Lib.splitB_zero] at h
    rw [List.mem_singleton.1 h]
    exact Nat.le_refl _
  | k + 1, s, p, h => by
    unfold Lib.splitB at h
    split at h
    · rw [List.mem_singleton.1 h]; exact Nat.le_refl _
    · rcases List.mem_cons.1 h with h | h
      · subst h; exact extract_size_le _ _ _
      · exact Nat.le_trans (splitB_size sep k _ p h) (extract_size_le _ _ _)
theorem pieces_size {s sep p : ByteArray} (h : p ∈ pieces s sep) : p.size ≤ s.size := splitB_size sep _ s p h
theorem txt_data (s : ByteArray) : txt s.data.toList = s := by unfold txt; simp
theorem txt_toList (l : List UInt8) : (txt l).data.toList = l := by simp [txt]
theorem txt_size (l : List UInt8) : (txt l).size = l.length := by simp [txt, ByteArray.size]

end Go.Proofs.YtppbjmhllmaakaaGreatDoor
