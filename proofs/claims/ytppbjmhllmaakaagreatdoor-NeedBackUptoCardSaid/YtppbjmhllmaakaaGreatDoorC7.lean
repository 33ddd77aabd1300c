/- Contracts: a package's name, in the program. -/
import Derived.Test.YtppbjmhllmaakaaGreatDoorC6
import Derived.Test.YtppbjmhllmaakaaGreatDoorX2
import Derived.Test.YtppbjmhllmaakaaGreatDoorSh
import Derived.Lib.TrimU
set_option linter.unusedVariables false
namespace Go.Proofs.YtppbjmhllmaakaaGreatDoor
open Go.RowKit

/-- 'in' behind k runes of an ASCII set: is c among them? -/
def inSet (c : Int) (set : ByteArray) (k : Nat) : Bool := (set.data.toList.take k).any fun d => decide ((d.toNat : Int) = c)
theorem beq_dec (a b : Int) : (a == b) = decide (b = a) := by
  by_cases h : a = b
  · subst h; simp
  · simp [h, Ne.symm h]
theorem inSet_zero (c : Int) (set : ByteArray) : inSet c set 0 = false := by simp [inSet]
theorem inSet_succ {c : Int} {set : ByteArray} {k : Nat} (h : k < set.size) : inSet c set (k + 1) = (inSet c set k || decide ((set[k].toNat : Int) = c)) := by
  unfold inSet
  have h' : k < set.data.toList.length := by simpa using h
  rw [← List.take_append_getElem h', List.any_append]
  have e : set.data.toList[k]'h' = set[k] := rfl
  rw [e]
  simp
/-- The whole set. -/
def isIn (c : Int) (set : ByteArray) : Bool := inSet c set set.size
def Ascii (set : ByteArray) : Prop := ∀ k, (h : k < set.size) → (set[k].toNat : Int) < 128
theorem isIn_lt {c : Int} {set : ByteArray} (hs : Ascii set) (h : isIn c set = true) : c < 128 := by
  unfold isIn inSet at h
  rw [List.any_eq_true] at h
  obtain ⟨d, hd, e⟩ := h
  obtain ⟨i, hi, rfl⟩ := List.getElem_of_mem (List.mem_of_mem_take hd)
  have := hs i (by simpa using hi)
  have e' := of_decide_eq_true e
  rw [← e']
  exact this

set_option maxHeartbeats 1000000 in
theorem cutLeft_any (s set : ByteArray) (w : World) (hs : s.size ≤ reach) (hset : set.size ≤ reach) (ha : Ascii set) :
    Calls Tryz.prog 91 #[.string s, .string set] w fun e w' => Below w.heap.size w w' ∧
      ((∀ k, (h : k < s.size) → isIn s[k].toNat set = true) ∧ e = .returned (.string ⟨#[]⟩) ∨
       ∃ k, ∃ h : k < s.size, isIn s[k].toNat set = false ∧ e = .returned (.string (s.extract k s.size))) := by
  unfold reach at hs hset
  go_enter Tryz.func91, Tryz.ntmps91
  go_wp2
  have hit : (w.iter s 0).heap[w.heap.size]? = some (.stringIter s 0) := iter_at w s
  have hB : Below w.heap.size w (w.iter s 0) := iter_below w s 0
  generalize w.iter s 0 = w1 at *
  go_loopw [4, 5, 6, 7, 9] (fun r x c i d wr => r = .string ⟨#[]⟩ ∧ Below w.heap.size w wr ∧ ∃ k : Nat, k ≤ s.size ∧ wr.heap[w.heap.size]? = some (.stringIter s k) ∧ ∀ j, (h : j < s.size) → j < k → isIn s[j].toNat set = true) (fun _ _ _ _ _ wr => s.size - wr.iterPos w.heap.size)
  case atStart => exact ⟨rfl, hB, 0, Nat.zero_le _, hit, fun j _ h => absurd h (Nat.not_lt_zero _)⟩
  case round =>
    obtain ⟨rfl, hb, k, hk, hi, hj⟩ := hrel
    have Hj := Lib.hid hj
    clear hj
    by_cases hlt : k < s.size
    · have hn := next_at (P := Tryz.prog) wr w.heap.size s k hi hlt
      have Hip := Lib.hid (iterPos_of hi)
      -- the rune: an ASCII byte, or one from 128 on
      obtain ⟨c, wd, hd, hc⟩ : ∃ c wd : Nat, Utf8.decode s k = (c, wd) ∧ ((s[k].toNat : Int) < 128 ∧ c = s[k].toNat ∧ wd = 1 ∨ ¬ (s[k].toNat : Int) < 128 ∧ 128 ≤ c) := by
        by_cases h8 : (s[k].toNat : Int) < 128
        · exact ⟨_, _, rune_ascii hlt h8, .inl ⟨h8, rfl, rfl⟩⟩
        · exact ⟨_, _, rfl, .inr ⟨h8, rune_high hlt h8⟩⟩
      have hin : isIn c set = isIn s[k].toNat set ∧ (isIn c set = true → wd = 1) := by
        rcases hc with ⟨h8, rfl, rfl⟩ | ⟨h8, hc⟩
        · exact ⟨rfl, fun _ => rfl⟩
        · have e1 : isIn c set = false := by
            rw [← Bool.not_eq_true]; intro h; have := isIn_lt ha h; omega
          have e2 : isIn s[k].toNat set = false := by
            rw [← Bool.not_eq_true]; intro h; have := isIn_lt ha h; omega
          exact ⟨by rw [e1, e2], fun h => by rw [e1] at h; cases h⟩
      rw [hd] at hn
      clear hd hc
      go_wp2
      have hs1 := hb.size
      have hbl : w.heap.size < wr.heap.size := iter_lt hi
      have x1 : ((wr.setIter w.heap.size s (k + wd)).iter set 0).heap[w.heap.size]? = some (.stringIter s (k + wd)) := by
        rw [(iter_below _ set 0).block _ (by simpa [setIter_size] using hbl)]; exact setIter_at _ _ _ _ hbl
      have x2 : ((wr.setIter w.heap.size s (k + wd)).iter set 0).heap[wr.heap.size]? = some (.stringIter set 0) := by
        have := iter_at (wr.setIter w.heap.size s (k + wd)) set
        rwa [setIter_size] at this
      have hB1 : Below w.heap.size w ((wr.setIter w.heap.size s (k + wd)).iter set 0) := (hb.setIter (Nat.le_refl _) _ _).alloc (by simp [setIter_size]; omega) _
      generalize (wr.setIter w.heap.size s (k + wd)).iter set 0 = w2 at *
      clear hn
      generalize hbb : wr.heap.size = bb at *
      clear hbb hi hb hs1
      go_loopw [7, 9] (fun x d w3 => Below w.heap.size w w3 ∧ w3.heap[w.heap.size]? = some (.stringIter s (k + wd)) ∧ ∃ j : Nat, j ≤ set.size ∧ x = .bool (inSet c set j) ∧ w3.heap[bb]? = some (.stringIter set j)) (fun _ _ w3 => set.size - w3.iterPos bb)
      case atStart => exact ⟨hB1, x1, 0, Nat.zero_le _, by rw [inSet_zero], x2⟩
      case round =>
        obtain ⟨hb3, hi3, j, hj, rfl, hs3⟩ := hrel
        by_cases hjt : j < set.size
        · have hn := next_at (P := Tryz.prog) wr bb set j hs3 hjt
          rw [rune_ascii hjt (ha j hjt)] at hn
          have hst := Lib.hid (inSet_succ (c := c) hjt)
          cases hv : inSet c set j
          · have Hv := Lib.hid hv
            clear hv
            go_wp2
            go_roundw
            case rel =>
              exact ⟨hb3.setIter (by omega) _ _, by rw [setIter_ne _ _ _ _ _ (by omega)]; exact hi3, j + 1, by omega, by rw [hst.out, Hv.out, Bool.false_or, beq_dec], setIter_at _ _ _ _ (iter_lt hs3)⟩
            case measure => rw [iterPos_of (setIter_at _ _ _ _ (iter_lt hs3)), iterPos_of hs3]; omega
          · have Hv := Lib.hid hv
            clear hv
            go_wp2
            go_roundw
            case rel =>
              exact ⟨hb3.setIter (by omega) _ _, by rw [setIter_ne _ _ _ _ _ (by omega)]; exact hi3, j + 1, by omega, by rw [hst.out, Hv.out]; rfl, setIter_at _ _ _ _ (iter_lt hs3)⟩
            case measure => rw [iterPos_of (setIter_at _ _ _ _ (iter_lt hs3)), iterPos_of hs3]; omega
        · have hn := next_end (P := Tryz.prog) wr bb set j hs3 hjt
          have hend : j = set.size := by omega
          subst hend
          have e : inSet c set set.size = isIn s[k].toNat set := hin.1
          cases hv : isIn s[k].toNat set
          · rw [hv] at e
            have Hv := Lib.hid hv
            clear hv hin
            go_wp2
            go_ret
            exact ⟨hb3, .inr ⟨k, hlt, Hv.out, rfl⟩⟩
          · rw [hv] at e
            have Hv := Lib.hid hv
            have hw : wd = 1 := hin.2 e
            have Hw := Lib.hid hw
            clear hv hin hw
            go_wp2
            go_roundw
            case rel => exact ⟨rfl, hb3, k + 1, by omega, by rw [hi3, Hw.out], fun i h h' => by
              by_cases hik : i = k
              · subst hik; exact Hv.out
              · exact Hj.out i h (by omega)⟩
            case measure => rw [iterPos_of hi3, Hip.out]; have := Hw.out; omega
    · have hn := next_end (P := Tryz.prog) wr w.heap.size s k hi hlt
      go_wp2
      go_ret
      exact ⟨hb, .inl ⟨fun j h => Hj.out j h (by omega), rfl⟩⟩

/-! ### The end of a text -/
theorem last_byte {s : ByteArray} (h : 0 < s.size) : s.data.toList.getD (s.data.toList.length - 1) 0 = s[s.size - 1] := by
  have e : s.data.toList.length = s.size := by simp
  rw [e]
  rw [List.getD, List.getElem?_eq_getElem (show s.size - 1 < s.data.toList.length by omega)]
  rfl
theorem data_ne {s : ByteArray} (h : 0 < s.size) : ¬ s.data.toList = [] := by
  intro e
  have : s.data.toList.length = s.size := by simp
  rw [e] at this; simp at this; omega
theorem decodeLast_ascii {s : ByteArray} (h : 0 < s.size) (ha : (s[s.size - 1].toNat : Int) < 128) : Lib.decodeLastL s.data.toList = (s[s.size - 1].toNat, 1) := by
  unfold Lib.decodeLastL
  rw [if_neg (data_ne h), last_byte h, if_pos (by omega)]
theorem lastStart_le (l : List UInt8) (h : 2 ≤ l.length) : Lib.lastStart l + 1 < l.length := by
  unfold Lib.lastStart
  simp only
  repeat' split
  all_goals omega
theorem decodeLast_high {s : ByteArray} (h : 0 < s.size) (ha : ¬ (s[s.size - 1].toNat : Int) < 128) : 128 ≤ (Lib.decodeLastL s.data.toList).1 := by
  have hlen : s.data.toList.length = s.size := by simp
  have hlast := last_byte h
  unfold Lib.decodeLastL
  rw [if_neg (data_ne h), hlast, if_neg (by omega)]
  simp only
  split
  · rename_i hc
    generalize hl : s.data.toList = l at *
    unfold Lib.decodeL at hc ⊢
    generalize hz : Lib.lastStart l = z at *
    by_cases hz2 : z < l.length
    · have hsz : 0 < (⟨(l.drop z).toArray⟩ : ByteArray).size := by
        show 0 < (l.drop z).toArray.size
        simp; omega
      by_cases h8 : ((⟨(l.drop z).toArray⟩ : ByteArray)[0]).toNat < 128
      · rw [decode_ascii _ 0 hsz h8] at hc
        simp only at hc
        by_cases h2 : 2 ≤ l.length
        · have := lastStart_le l h2; omega
        · exfalso
          have hz0 : z = 0 := by omega
          subst hz0
          have e : (⟨(l.drop 0).toArray⟩ : ByteArray)[0] = l[0]'(by omega) := by
            show (l.drop 0).toArray[0]'_ = _
            simp
          have e2 : l.getD (l.length - 1) 0 = l[0]'(by omega) := by
            rw [show l.length - 1 = 0 from by omega, List.getD, List.getElem?_eq_getElem (by omega)]; rfl
          rw [e, ← e2, hlast] at h8
          omega
      · exact (decode_high _ 0 hsz (by omega)).1
    · exfalso
      by_cases h2 : 2 ≤ l.length
      · have := lastStart_le l h2; omega
      · have hz1 : z = 0 := by
          rw [← hz]; unfold Lib.lastStart; simp only; rw [if_pos (by omega)]
        omega
  · simp [Utf8.runeError]

/-- t is a beginning of s. -/
def Pre (t s : ByteArray) : Prop := ∀ j, (h : j < t.size) → ∃ h' : j < s.size, t[j] = s[j]'h'
theorem Pre.refl (s : ByteArray) : Pre s s := fun j h => ⟨h, rfl⟩
theorem Pre.cut {t s : ByteArray} (h : Pre t s) (k : Nat) : Pre (t.extract 0 k) s := fun j hj => by
  have hj' : j < t.size := by simp at hj; omega
  obtain ⟨h', e⟩ := h j hj'
  exact ⟨h', by rw [ByteArray.getElem_extract, ← e]; simp⟩
theorem cutRight_nil (set : ByteArray) (w : World) : Calls Tryz.prog 90 #[.string ⟨#[]⟩, .string set] w fun e w' => e = .returned (.string ⟨#[]⟩) ∧ Below w.heap.size w w' := by
  go_enter Tryz.func90, Tryz.ntmps90
  go_wp2
  refine wp_loop_rounds 1 ?_
  rw [rounds_succ]
  go_wp2
  go_ret
  exact ⟨rfl, by (repeat (first | exact Below.refl _ _ | assumption | (refine Below.setCell ?_ (by first | omega | (simp; done) | (simp; omega) | exact Below.size (by assumption)) _) | (refine Below.alloc ?_ (by first | omega | (simp; done) | (simp; omega) | exact Below.size (by assumption)) _) | refine Below.drew ?_ | refine Below.trans0 ?_ (by assumption)))⟩

set_option maxHeartbeats 1000000 in
theorem cutRight_any (s set : ByteArray) (w : World) (hs : s.size ≤ reach) (hset : set.size ≤ reach) (ha : Ascii set) (hL : Laid w) (h0 : 0 < s.size) (h1 : isIn s[0].toNat set = false) :
    Calls Tryz.prog 90 #[.string s, .string set] w fun e w' => Below w.heap.size w w' ∧ ∃ t : ByteArray, 0 < t.size ∧ e = .returned (.string t) := by
  unfold reach at hs hset
  go_enter Tryz.func90, Tryz.ntmps90
  go_wp2
  go_loopw [0, 4] (fun t r wr => r = .string ⟨#[]⟩ ∧ Below w.heap.size w wr ∧ ∃ x : ByteArray, 0 < x.size ∧ x.size ≤ 140737488351232 ∧ Pre x s ∧ t = .string x) (fun t _ _ => match t with | .string t => t.size | _ => 0)
  case atStart => exact ⟨rfl, Below.refl _ _, s, h0, hs, Pre.refl s, rfl⟩
  case round =>
    obtain ⟨rfl, hb, t, hk0, hk, hpre, rfl⟩ := hrel
    have ht0 : t[0] = s[0] := (hpre 0 hk0).2
    obtain ⟨c, wd, hd, hc⟩ : ∃ c wd : Nat, Lib.decodeLastL t.data.toList = (c, wd) ∧ ((t[t.size - 1].toNat : Int) < 128 ∧ c = t[t.size - 1].toNat ∧ wd = 1 ∨ ¬ (t[t.size - 1].toNat : Int) < 128 ∧ 128 ≤ c) := by
      by_cases h8 : (t[t.size - 1].toNat : Int) < 128
      · exact ⟨_, _, decodeLast_ascii (by omega) h8, .inl ⟨h8, rfl, rfl⟩⟩
      · exact ⟨_, _, rfl, .inr ⟨h8, decodeLast_high (by omega) h8⟩⟩
    have hin : isIn c set = true → wd = 1 ∧ 1 < t.size := by
      intro hi
      rcases hc with ⟨h8, rfl, rfl⟩ | ⟨h8, hc⟩
      · refine ⟨rfl, ?_⟩
        rcases Nat.lt_or_ge 1 t.size with h | h
        · exact h
        · exfalso
          have hk1 : t.size = 1 := by omega
          have e : t[t.size - 1]'(by omega) = t[0]'(by omega) := by congr 1; omega
          rw [e, ht0, h1] at hi
          cases hi
      · have := isIn_lt ha hi; omega
    have Hd := Lib.hid hd
    clear hd hc
    have Ht0 := Lib.hid ht0
    clear ht0
    go_wp2_with (go_at_call 127; refine (Tryz.utf8_DecodeLastRuneInString t _ (by omega) (hL.below hb).tabs).mono ?_; rintro e w1 ⟨rfl, hw1⟩; rw [Hd.out])
    have x2 : (w1.iter set 0).heap[w1.heap.size]? = some (.stringIter set 0) := iter_at w1 set
    have hB1 : Below w.heap.size w (w1.iter set 0) := (hb.trans (hw1.mono hb.size)).alloc (Nat.le_trans hb.size hw1.size) _
    generalize w1.iter set 0 = w2 at *
    have hbw : w.heap.size ≤ w1.heap.size := Nat.le_trans hb.size hw1.size
    generalize w1.heap.size = bb at *
    clear hw1 hb
    go_loopw [7] (fun x w3 => Below w.heap.size w w3 ∧ ∃ j : Nat, j ≤ set.size ∧ x = .bool (inSet c set j) ∧ w3.heap[bb]? = some (.stringIter set j)) (fun _ w3 => set.size - w3.iterPos bb)
    case atStart => exact ⟨hB1, 0, Nat.zero_le _, by rw [inSet_zero], x2⟩
    case round =>
      obtain ⟨hb3, j, hj, rfl, hs3⟩ := hrel
      by_cases hjt : j < set.size
      · have hn := next_at (P := Tryz.prog) wr bb set j hs3 hjt
        rw [rune_ascii hjt (ha j hjt)] at hn
        have hst := Lib.hid (inSet_succ (c := c) hjt)
        cases hv : inSet c set j
        · have Hv := Lib.hid hv
          clear hv
          go_wp2
          go_roundw
          case rel =>
            exact ⟨hb3.setIter (by omega) _ _, j + 1, by omega, by rw [hst.out, Hv.out, Bool.false_or, beq_dec], setIter_at _ _ _ _ (iter_lt hs3)⟩
          case measure => rw [iterPos_of (setIter_at _ _ _ _ (iter_lt hs3)), iterPos_of hs3]; omega
        · have Hv := Lib.hid hv
          clear hv
          go_wp2
          go_roundw
          case rel =>
            exact ⟨hb3.setIter (by omega) _ _, j + 1, by omega, by rw [hst.out, Hv.out]; rfl, setIter_at _ _ _ _ (iter_lt hs3)⟩
          case measure => rw [iterPos_of (setIter_at _ _ _ _ (iter_lt hs3)), iterPos_of hs3]; omega
      · have hn := next_end (P := Tryz.prog) wr bb set j hs3 hjt
        have hend : j = set.size := by omega
        subst hend
        cases hv : isIn c set
        · have e : inSet c set set.size = false := hv
          clear hv hin
          go_wp2
          go_ret
          exact ⟨hb3, t, hk0, rfl⟩
        · have e : inSet c set set.size = true := hv
          have hw := Lib.hid (hin hv).1
          have hw2 : (1 : Int) < t.size := by have := (hin hv).2; omega
          have hwd : (wd : Int) = 1 := by rw [hw.out]; rfl
          have Hwd := Lib.hid hwd
          have hw3 : (wd : Int) ≤ t.size := by omega
          have hw4 : (0 : Int) ≤ wd := by omega
          clear hv hin hwd
          go_wp2
          go_roundw
          case rel =>
            have := hw.out
            exact ⟨rfl, hb3, _, by simp; omega, by simp; omega, hpre.cut _, rfl⟩
          case measure =>
            have := hw.out
            simp; omega

def nameSet : ByteArray := ⟨#[97, 98, 99, 100, 101, 102, 103, 104, 105, 106, 107, 108, 109, 110, 111, 112, 113, 114, 115, 116, 117, 118, 119, 120, 121, 122, 48, 49, 50, 51, 52, 53, 54, 55, 56, 57, 43, 45]⟩
def letters : ByteArray := ⟨#[97, 98, 99, 100, 101, 102, 103, 104, 105, 106, 107, 108, 109, 110, 111, 112, 113, 114, 115, 116, 117, 118, 119, 120, 121, 122, 48, 49, 50, 51, 52, 53, 54, 55, 56, 57]⟩
theorem nameSet_ascii : Ascii nameSet := by
  intro k h
  have hk : k < 38 := h
  have : ∀ k : Fin 38, (nameSet[k.1]'k.2).toNat < 128 := by decide
  have := this ⟨k, hk⟩
  simp only at this
  omega
theorem isIn_name (c : UInt8) : isIn c.toNat nameSet = nextc c := by
  have : ∀ n : Fin 256, isIn (UInt8.ofNat n.1).toNat nameSet = nextc (UInt8.ofNat n.1) := by decide +kernel
  have h := this ⟨c.toNat, c.toNat_lt⟩
  simpa using h
theorem letters_at (c : UInt8) : ((0 : Int) ≤ Lib.indexByte letters.data.toList c) = (lowc c = true) := by
  have : ∀ n : Fin 256, decide ((0 : Int) ≤ Lib.indexByte letters.data.toList (UInt8.ofNat n.1)) = lowc (UInt8.ofNat n.1) := by decide +kernel
  have h := this ⟨c.toNat, c.toNat_lt⟩
  have e : UInt8.ofNat c.toNat = c := by simp
  simp only [e] at h
  rw [← h]; simp

set_option maxHeartbeats 1000000 in
theorem name_any (s : ByteArray) (w : World) (hs : s.size ≤ reach) (hL : Laid w) :
    Calls Tryz.prog 38 #[.string s] w fun e w' => e = .returned (.bool (nameOk s)) ∧ Below w.heap.size w w' := by
  have hset : nameSet.size ≤ reach := by rw [show nameSet.size = 38 from rfl]; unfold reach; omega
  by_cases h0 : 0 < s.size
  case neg =>
    have e : s.toList = [] := by
      rw [ByteArray.toList_eq]; apply List.eq_nil_of_length_eq_zero; have : s.data.toList.length = s.size := by simp
      omega
    have fin := Lib.hid (nameOk_nil (s := s) (by rwa [ByteArray.toList_eq] at e))
    have e' : (!s.toList.isEmpty) = false := by simp [e]
    go_enter Tryz.func38, Tryz.ntmps38
    go_wp2
    go_ret
    exact ⟨ret_bool fin.out.symm, Below.refl _ _⟩
  have hne : ¬ s.toList = [] := by rw [ByteArray.toList_eq]; exact data_ne h0
  have hne' : (!s.toList.isEmpty) = true := by simp [hne]
  by_cases h32 : s.size ≤ 32
  case neg =>
    have fin : nameOk s = false := by
      cases hd : s.data.toList with
      | nil => exact nameOk_nil hd
      | cons c r =>
        rw [nameOk_cons hd]
        have : s.data.toList.length = s.size := by simp
        rw [hd] at this
        simp at this
        rw [decide_eq_false (p := r.length < 32) (by omega)]; simp
    have Fin := Lib.hid fin
    clear fin
    go_enter Tryz.func38, Tryz.ntmps38
    go_wp2
    go_ret
    exact ⟨ret_bool Fin.out.symm, Below.refl _ _⟩
  go_enter Tryz.func38, Tryz.ntmps38
  go_wp2_with fail
  refine (cutLeft_any s _ _ hs hset nameSet_ascii).mono ?_
  rintro e w1 ⟨hw1, ⟨hall, rfl⟩ | ⟨k, hk, hno, rfl⟩⟩
  · have Hall := Lib.hid hall
    clear hall
    go_wp2_with fail
    refine (cutRight_nil _ _).mono ?_
    rintro e w2 ⟨rfl, hw2⟩
    have hb2 := hw1.trans (hw2.mono hw1.size)
    have fin : nameOk s = lowc s[0] := by
      cases hd : s.data.toList with
      | nil => exact absurd hd (data_ne h0)
      | cons c r =>
        have hat := at_data s 0 h0
        have hc0 : c = s[0] := by
          rw [← hat]
          have e : s.data.toList[0]'(by rw [hd]; simp) = (c :: r)[0]'(by simp) := by congr 1
          exact e.symm
        have hlen : s.data.toList.length = s.size := by simp
        rw [hd] at hlen
        have hr : r.all nextc = true := by
          rw [List.all_eq_true]
          intro x hx
          obtain ⟨i, hi, rfl⟩ := List.getElem_of_mem hx
          have := Hall.out (i + 1) (by simp at hlen; omega)
          rw [isIn_name] at this
          have e : s[i + 1]'(by simp at hlen; omega) = r[i] := by
            rw [← at_data s (i + 1) (by simp at hlen; omega)]
            have e : s.data.toList[i + 1]'(by rw [hd]; simpa using hi) = (c :: r)[i + 1]'(by simpa using hi) := by congr 1
            exact e
          rw [← e]; exact this
        rw [nameOk_cons hd, hr, hc0, decide_eq_true (p := r.length < 32) (by simp at hlen; omega)]
        simp
    have hix := letters_at s[0]
    have Fin := Lib.hid fin
    have Hix := Lib.hid hix
    clear fin hix
    go_wp2_with fail
    refine (Tryz.strings_IndexByte _ _ _).mono ?_
    rintro e w3 ⟨rfl, rfl⟩
    have hcc : ((s[0].toNat : Int)).toNat.toUInt8 = s[0] := by simp
    rw [hcc]
    go_wp2
    go_ret
    refine ⟨ret_bool ?_, hb2⟩
    rw [Fin.out]
    have key : decide ((0 : Int) ≤ Lib.indexByte letters.data.toList s[0]) = lowc s[0] := by
      have h := Hix.out
      by_cases g : lowc s[0] = true
      · rw [g, decide_eq_true (h.symm ▸ g)]
      · rw [decide_eq_false (fun e => g (h ▸ e))]; simpa using g
    exact key
  · have hx : 0 < (s.extract k s.size).size := by simp; omega
    have hx1 : (s.extract k s.size).size ≤ reach := by simp; omega
    have hx0 : isIn ((s.extract k s.size)[0]).toNat nameSet = false := by
      rw [ByteArray.getElem_extract]; exact hno
    have fin : nameOk s = false := by
      refine NameTo.no hk (.inl ?_)
      rw [← isIn_name]; exact hno
    have Fin := Lib.hid fin
    clear fin hno
    go_wp2_with fail
    refine (cutRight_any _ _ _ hx1 hset nameSet_ascii (hL.below hw1) hx hx0).mono ?_
    rintro e w2 ⟨hw2, t, ht, rfl⟩
    have e' : t.toList.isEmpty = false := by
      have := data_ne ht
      rw [ByteArray.toList_eq]
      cases h : t.data.toList with
      | nil => exact absurd h this
      | cons => rfl
    go_wp2
    go_ret
    exact ⟨ret_bool Fin.out.symm, hw1.trans (hw2.mono hw1.size)⟩

end Go.Proofs.YtppbjmhllmaakaaGreatDoor
