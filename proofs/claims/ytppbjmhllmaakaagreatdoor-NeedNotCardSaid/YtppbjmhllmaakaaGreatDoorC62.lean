/- Contracts: strings.Split, strconv.Atoi, strconv.Itoa in this session's words. -/
import Derived.Test.YtppbjmhllmaakaaGreatDoorC10
import Derived.Test.YtppbjmhllmaakaaGreatDoorX20
import Derived.Test.YtppbjmhllmaakaaGreatDoorX21
import Derived.Test.YtppbjmhllmaakaaGreatDoorX22
set_option linter.unusedVariables false
namespace Go.Proofs.YtppbjmhllmaakaaGreatDoor
open Go.RowKit Go.Sort

theorem split_any (s sep : ByteArray) (w : World) (hs : s.size < 4294967281) (h1 : 1 ≤ sep.size) (hN : LaidN w) :
    Calls Tryz.prog 121 #[.string s, .string sep] w fun e w' => Below w.heap.size w w' ∧ ∃ c, e = .returned (.slice (some ⟨w.heap.size, 0, none⟩) (pieces s sep).length c) ∧ Arr w' (fun b => b = w.heap.size) (some ⟨w.heap.size, 0, none⟩) (pieces s sep) := by
  obtain ⟨m, hm⟩ := hN.max
  have hlen := pieces_len s sep h1
  have hle := pieces_le s sep h1
  refine (Tryz.strings_Split s sep m w hs hm h1).mono ?_
  rintro e w' ⟨rfl, rfl⟩
  refine ⟨(Below.refl _ _).alloc (Nat.le_refl _) _, _, by rw [hlen], ?_⟩
  refine ⟨by change _ * 16 ≤ reach; unfold reach; omega, by omega, fun _ => ⟨w.heap.size, 0, rfl, rfl, fun i x hi => ?_⟩⟩
  have hx : x.size ≤ reach := by
    have := pieces_size (List.mem_of_getElem? hi)
    unfold reach
    omega
  refine ⟨[.string x], ⟨rfl, hx⟩, fun j v hj => ?_⟩
  match j, hj with
  | 0, hj =>
    cases hj
    rw [show (⟨w.heap.size, 0 + i * Cd.n ByteArray + 0, none⟩ : Addr) = ⟨w.heap.size, i, none⟩ by simp [Cd.n]]
    have hi' : (Lib.splitB sep 0 (Lib.countB s sep) s)[i]? = some x := hi
    simp [hi']

theorem atoiAll_in64 {l : List UInt8} {z : Int} (h : Lib.atoiAll l = .ok z) : In64 z := by
  cases l with
  | nil => cases h
  | cons c r =>
    simp only [Lib.atoiAll] at h
    split at h
    · cases h
    · cases h
    · rename_i u _
      split at h
      · cases h
      · split at h
        · cases h
        · injection h with h
          subst h
          constructor <;> split <;> omega

theorem below_grow {w : World} {k : Nat} {os : Array Obj} : Below w.heap.size w (grow (w.drewN k) os) :=
  ⟨rfl, rfl, rfl, by simp [grow], fun i hi => by
    show ((w.drewN k).heap ++ os)[i]? = _
    rw [Array.getElem?_append_left (by show i < w.heap.size; omega)]
    rfl⟩
theorem bytes_below (w : World) (e : TypeId) (s : ByteArray) : Below w.heap.size w (Lib.bytesWorld w e s) := ⟨rfl, rfl, rfl, by rw [Lib.bytesWorld_size]; omega, fun i hi => Lib.bytesWorld_at_old w e s i hi⟩
theorem itoa_any (z : Int) (w : World) (hz : In64 z) (hN : LaidN w) :
    Calls Tryz.prog 147 #[.int .i64 z] w fun e w' => e = .returned (.string (txt (Lib.itoa z))) ∧ Below w.heap.size w w' := by
  refine (Tryz.strconv_Itoa z hz.1 hz.2 w hN.pow).mono ?_
  rintro e w' ⟨rfl, k, os, rfl⟩
  exact ⟨rfl, below_grow⟩
/-- What Atoi answers: a number and no error, or an error. -/
def AtoiRet (p : ByteArray) (e : Ending) : Prop :=
  (∃ z, Lib.atoiAll p.data.toList = .ok z ∧ e = .returned (.tuple #[.int .i64 z, .nilIface])) ∨ ((∀ z, Lib.atoiAll p.data.toList ≠ .ok z) ∧ ∃ z t q, e = .returned (.tuple #[.int .i64 z, .iface t q]))
theorem atoi_any (p : ByteArray) (w : World) (hp : p.size ≤ 281474976710656) (hN : LaidN w) :
    Calls Tryz.prog 193 #[.string p] w fun e w' => Below w.heap.size w w' ∧ AtoiRet p e := by
  rcases h : Lib.atoiAll p.data.toList with z | _ | _
  · refine (Tryz.strconv_Atoi_ok p (by omega) z h w).mono ?_
    rintro e w' ⟨rfl, hw⟩
    refine ⟨?_, .inl ⟨z, h, rfl⟩⟩
    rcases hw with rfl | ⟨t, rfl⟩
    · exact Below.refl _ _
    · exact bytes_below _ _ _
  · obtain ⟨tp, q, hv⟩ := hN.syn
    refine (Tryz.strconv_Atoi_syntax_var p hp (h.trans rfl) tp q w hv).mono ?_
    rintro e w' ⟨N, rfl, -, -, hb⟩
    exact ⟨hb, .inr ⟨fun z e => (by rw [h] at e; cases e), _, _, _, rfl⟩⟩
  · obtain ⟨tp, q, hv⟩ := hN.rng
    refine (Tryz.strconv_Atoi_range_var p hp h tp q w hv).mono ?_
    rintro e w' ⟨N, rfl, -, -, hb⟩
    exact ⟨hb, .inr ⟨fun z e => (by rw [h] at e; cases e), _, _, _, rfl⟩⟩
theorem below_drews {w : World} (n : Nat) : Below w.heap.size w (w.drewN n) := ⟨rfl, rfl, rfl, Nat.le_refl _, fun _ _ => rfl⟩
theorem cut_any (s sep : ByteArray) (w : World) (hs : s.size < 4294967281) (hN : LaidN w) :
    Calls Tryz.prog 192 #[.string s, .string sep] w fun e w' => e = .returned (.tuple #[.string (txt (Lib.cut s.data.toList sep.data.toList).1), .string (txt (Lib.cut s.data.toList sep.data.toList).2.1), .bool (Lib.cut s.data.toList sep.data.toList).2.2]) ∧ Below w.heap.size w w' := by
  obtain ⟨m, hm⟩ := hN.max
  refine (Tryz.strings_Cut s sep m w hs hm).mono ?_
  rintro e w' ⟨rfl, n, rfl⟩
  exact ⟨rfl, below_drews n⟩

end Go.Proofs.YtppbjmhllmaakaaGreatDoor
