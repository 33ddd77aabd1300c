/- Contracts: slices.ContainsFunc at the program's types; the program's version.Check, need.Check. -/
import Derived.Test.YtppbjmhllmaakaaGreatDoorC7
import Derived.Shelf.Strings.SlTrimAscii
import Derived.Shelf.Abstract
set_option linter.unusedVariables false
namespace Go.Proofs.YtppbjmhllmaakaaGreatDoor
open Go.RowKit

theorem any_of_none {α : Type} {p : α → Bool} {l : List α} (h : AllTo (fun x => !p x) l l.length) : l.any p = false := h.none (Nat.lt_irrefl _)

/-- A function value answers p at the members of l, in whatever world behind w. -/
def Pred {α : Type} [Cd α] (f : FuncId) (cs : Array Value) (w : World) (S : Nat → Prop) (p : α → Bool) (l : List α) : Prop :=
  ∀ x, x ∈ l → ∀ W vs, Below w.heap.size w W → Cd.rep W S x vs → Calls Tryz.prog f (#[.agg vs.toArray] ++ cs) W fun e w' => e = .returned (.bool (p x)) ∧ Below W.heap.size W w'
def PredI (f : FuncId) (cs : Array Value) (w : World) (S : Nat → Prop) (p : Int → Bool) (l : List Int) : Prop :=
  ∀ x, x ∈ l → ∀ W, Below w.heap.size w W → In64 x → Calls Tryz.prog f (#[.int .i64 x] ++ cs) W fun e w' => e = .returned (.bool (p x)) ∧ Below W.heap.size W w'
/-- What slices.IndexFunc hands back. -/
def Found {α : Type} (p : α → Bool) (l : List α) (r : Int) : Prop :=
  (r = -1 ∧ l.any p = false) ∨ ∃ k, ∃ h : k < l.length, r = k ∧ p l[k] = true ∧ AllTo (fun x => !p x) l k
theorem Found.any {α : Type} {p : α → Bool} {l : List α} {r : Int} (h : Found p l r) : decide (0 ≤ r) = l.any p := by
  rcases h with ⟨rfl, h⟩ | ⟨k, hk, rfl, h, _⟩
  · rw [h]; rfl
  · rw [any_true hk h]; simp

set_option maxHeartbeats 400000 in
theorem indexNeed_any (l : List Need) (p : Need → Bool) (g : FuncId) (cs : Array Value) (A : Option Addr) (ca : Nat) (S : Nat → Prop) (w : World) (eg : ∀ args w, (callFunc g args).run Tryz.prog w = .ok (.enter g args) w) (h : Arr w S A l) (hp : Pred g cs w S p l) :
    Calls Tryz.prog 115 #[.slice A l.length ca, .func (.func g) #[] cs] w fun e w' => Below w.heap.size w w' ∧ ∃ r, e = .returned (.int .i64 r) ∧ Found p l r := by
  have hl := h.len
  have HP := Lib.hid hp
  clear hp
  go_enter Tryz.func115, Tryz.ntmps115
  go_wp2
  go_loopw [4, 5, 8] (fun r x i wr => r = .int .i64 0 ∧ Below w.heap.size w wr ∧ ∃ k : Nat, k ≤ l.length ∧ i = .int .i64 k ∧ AllTo (fun x => !p x) l k) (fun _ _ i _ => l.length - (intOf i).toNat)
  case atStart => exact ⟨rfl, Below.refl _ _, 0, Nat.zero_le _, rfl, AllTo.zero _ _⟩
  case round =>
    obtain ⟨rfl, hb, k, hk, rfl, hj⟩ := hrel
    have Hj := Lib.hid hj
    clear hj
    by_cases hlt : k < l.length
    · obtain ⟨b, o, B, cb, rfl, hb1, h1, h2, h3, h4, hr⟩ := (h.below hb).getNeed k hlt
      cases hv : p l[k]
      all_goals
        have Hv := Lib.hid hv
        clear hv
        go_wp2_with fail
        refine (HP.out l[k] (List.getElem_mem hlt) _ [_, _, _, _] hb hr).mono ?_
        rintro e w1 ⟨rfl, hw1⟩
        rw [Hv.out]
        go_wp2
      · go_roundw
        case rel => exact ⟨rfl, hb.trans (hw1.mono hb.size), k + 1, by omega, by go_num, AllTo.succ hlt Hj.out (by rw [Hv.out]; rfl)⟩
        case measure => simp [intOf]; omega
      · go_ret
        exact ⟨hb.trans (hw1.mono hb.size), _, rfl, .inr ⟨k, hlt, rfl, Hv.out, Hj.out⟩⟩
    · go_wp2
      go_ret
      exact ⟨hb, _, rfl, .inl ⟨rfl, Hj.out.none hlt⟩⟩

theorem containsNeed_any (l : List Need) (p : Need → Bool) (g : FuncId) (cs : Array Value) (A : Option Addr) (ca : Nat) (S : Nat → Prop) (w : World) (eg : ∀ args w, (callFunc g args).run Tryz.prog w = .ok (.enter g args) w) (h : Arr w S A l) (hp : Pred g cs w S p l) :
    Calls Tryz.prog 68 #[.slice A l.length ca, .func (.func g) #[] cs] w fun e w' => e = .returned (.bool (l.any p)) ∧ Below w.heap.size w w' := by
  have HP := Lib.hid hp
  clear hp
  go_enter Tryz.func68, Tryz.ntmps68
  go_wp2_with fail
  refine (indexNeed_any l p g cs A ca S _ eg h HP.out).mono ?_
  rintro e w1 ⟨hw1, r, rfl, hr⟩
  have Hr := Lib.hid hr.any
  clear hr
  go_wp2
  go_ret
  exact ⟨ret_bool Hr.out, hw1⟩

set_option maxHeartbeats 400000 in
theorem indexClause_any (l : List Clause) (p : Clause → Bool) (g : FuncId) (cs : Array Value) (A : Option Addr) (ca : Nat) (S : Nat → Prop) (w : World) (eg : ∀ args w, (callFunc g args).run Tryz.prog w = .ok (.enter g args) w) (h : Arr w S A l) (hp : Pred g cs w S p l) :
    Calls Tryz.prog 107 #[.slice A l.length ca, .func (.func g) #[] cs] w fun e w' => Below w.heap.size w w' ∧ ∃ r, e = .returned (.int .i64 r) ∧ Found p l r := by
  have hl := h.len
  have HP := Lib.hid hp
  clear hp
  go_enter Tryz.func107, Tryz.ntmps107
  go_wp2
  go_loopw [4, 5, 8] (fun r x i wr => r = .int .i64 0 ∧ Below w.heap.size w wr ∧ ∃ k : Nat, k ≤ l.length ∧ i = .int .i64 k ∧ AllTo (fun x => !p x) l k) (fun _ _ i _ => l.length - (intOf i).toNat)
  case atStart => exact ⟨rfl, Below.refl _ _, 0, Nat.zero_le _, rfl, AllTo.zero _ _⟩
  case round =>
    obtain ⟨rfl, hb, k, hk, rfl, hj⟩ := hrel
    have Hj := Lib.hid hj
    clear hj
    by_cases hlt : k < l.length
    · obtain ⟨b, o, B, cb, rfl, hb1, h1, h2, hr, -⟩ := (h.below hb).getClause k hlt
      cases hv : p l[k]
      all_goals
        have Hv := Lib.hid hv
        clear hv
        go_wp2_with fail
        refine (HP.out l[k] (List.getElem_mem hlt) _ [_, _] hb hr).mono ?_
        rintro e w1 ⟨rfl, hw1⟩
        rw [Hv.out]
        go_wp2
      · go_roundw
        case rel => exact ⟨rfl, hb.trans (hw1.mono hb.size), k + 1, by omega, by go_num, AllTo.succ hlt Hj.out (by rw [Hv.out]; rfl)⟩
        case measure => simp [intOf]; omega
      · go_ret
        exact ⟨hb.trans (hw1.mono hb.size), _, rfl, .inr ⟨k, hlt, rfl, Hv.out, Hj.out⟩⟩
    · go_wp2
      go_ret
      exact ⟨hb, _, rfl, .inl ⟨rfl, Hj.out.none hlt⟩⟩

theorem containsClause_any (l : List Clause) (p : Clause → Bool) (g : FuncId) (cs : Array Value) (A : Option Addr) (ca : Nat) (S : Nat → Prop) (w : World) (eg : ∀ args w, (callFunc g args).run Tryz.prog w = .ok (.enter g args) w) (h : Arr w S A l) (hp : Pred g cs w S p l) :
    Calls Tryz.prog 58 #[.slice A l.length ca, .func (.func g) #[] cs] w fun e w' => e = .returned (.bool (l.any p)) ∧ Below w.heap.size w w' := by
  have HP := Lib.hid hp
  clear hp
  go_enter Tryz.func58, Tryz.ntmps58
  go_wp2_with fail
  refine (indexClause_any l p g cs A ca S _ eg h HP.out).mono ?_
  rintro e w1 ⟨hw1, r, rfl, hr⟩
  have Hr := Lib.hid hr.any
  clear hr
  go_wp2
  go_ret
  exact ⟨ret_bool Hr.out, hw1⟩

set_option maxHeartbeats 400000 in
theorem indexPkg_any (l : List Pkg) (p : Pkg → Bool) (g : FuncId) (cs : Array Value) (A : Option Addr) (ca : Nat) (S : Nat → Prop) (w : World) (eg : ∀ args w, (callFunc g args).run Tryz.prog w = .ok (.enter g args) w) (h : Arr w S A l) (hp : Pred g cs w S p l) :
    Calls Tryz.prog 114 #[.slice A l.length ca, .func (.func g) #[] cs] w fun e w' => Below w.heap.size w w' ∧ ∃ r, e = .returned (.int .i64 r) ∧ Found p l r := by
  have hl := h.len
  have HP := Lib.hid hp
  clear hp
  go_enter Tryz.func114, Tryz.ntmps114
  go_wp2
  go_loopw [4, 5, 8] (fun r x i wr => r = .int .i64 0 ∧ Below w.heap.size w wr ∧ ∃ k : Nat, k ≤ l.length ∧ i = .int .i64 k ∧ AllTo (fun x => !p x) l k) (fun _ _ i _ => l.length - (intOf i).toNat)
  case atStart => exact ⟨rfl, Below.refl _ _, 0, Nat.zero_le _, rfl, AllTo.zero _ _⟩
  case round =>
    obtain ⟨rfl, hb, k, hk, rfl, hj⟩ := hrel
    have Hj := Lib.hid hj
    clear hj
    by_cases hlt : k < l.length
    · obtain ⟨b, o, B, cb, C, cc, D, cd, rfl, hb1, h1, h2, h3, h4, h5, hr, -, -, -⟩ := (h.below hb).getPkg k hlt
      cases hv : p l[k]
      all_goals
        have Hv := Lib.hid hv
        clear hv
        go_wp2_with fail
        refine (HP.out l[k] (List.getElem_mem hlt) _ [_, _, _, _, _] hb hr).mono ?_
        rintro e w1 ⟨rfl, hw1⟩
        rw [Hv.out]
        go_wp2
      · go_roundw
        case rel => exact ⟨rfl, hb.trans (hw1.mono hb.size), k + 1, by omega, by go_num, AllTo.succ hlt Hj.out (by rw [Hv.out]; rfl)⟩
        case measure => simp [intOf]; omega
      · go_ret
        exact ⟨hb.trans (hw1.mono hb.size), _, rfl, .inr ⟨k, hlt, rfl, Hv.out, Hj.out⟩⟩
    · go_wp2
      go_ret
      exact ⟨hb, _, rfl, .inl ⟨rfl, Hj.out.none hlt⟩⟩

theorem containsPkg_any (l : List Pkg) (p : Pkg → Bool) (g : FuncId) (cs : Array Value) (A : Option Addr) (ca : Nat) (S : Nat → Prop) (w : World) (eg : ∀ args w, (callFunc g args).run Tryz.prog w = .ok (.enter g args) w) (h : Arr w S A l) (hp : Pred g cs w S p l) :
    Calls Tryz.prog 66 #[.slice A l.length ca, .func (.func g) #[] cs] w fun e w' => e = .returned (.bool (l.any p)) ∧ Below w.heap.size w w' := by
  have HP := Lib.hid hp
  clear hp
  go_enter Tryz.func66, Tryz.ntmps66
  go_wp2_with fail
  refine (indexPkg_any l p g cs A ca S _ eg h HP.out).mono ?_
  rintro e w1 ⟨hw1, r, rfl, hr⟩
  have Hr := Lib.hid hr.any
  clear hr
  go_wp2
  go_ret
  exact ⟨ret_bool Hr.out, hw1⟩

set_option maxHeartbeats 400000 in
theorem indexInt_any (l : List Int) (p : Int → Bool) (g : FuncId) (cs : Array Value) (A : Option Addr) (ca : Nat) (S : Nat → Prop) (w : World) (eg : ∀ args w, (callFunc g args).run Tryz.prog w = .ok (.enter g args) w) (h : Arr w S A l) (hp : PredI g cs w S p l) :
    Calls Tryz.prog 140 #[.slice A l.length ca, .func (.func g) #[] cs] w fun e w' => Below w.heap.size w w' ∧ ∃ r, e = .returned (.int .i64 r) ∧ Found p l r := by
  have hl := h.len
  have HP := Lib.hid hp
  clear hp
  go_enter Tryz.func140, Tryz.ntmps140
  go_wp2
  go_loopw [4, 5, 8] (fun r x i wr => r = .int .i64 0 ∧ Below w.heap.size w wr ∧ ∃ k : Nat, k ≤ l.length ∧ i = .int .i64 k ∧ AllTo (fun x => !p x) l k) (fun _ _ i _ => l.length - (intOf i).toNat)
  case atStart => exact ⟨rfl, Below.refl _ _, 0, Nat.zero_le _, rfl, AllTo.zero _ _⟩
  case round =>
    obtain ⟨rfl, hb, k, hk, rfl, hj⟩ := hrel
    have Hj := Lib.hid hj
    clear hj
    by_cases hlt : k < l.length
    · obtain ⟨b, o, rfl, hb1, hr, h1⟩ := (h.below hb).getI k hlt
      cases hv : p l[k]
      all_goals
        have Hv := Lib.hid hv
        clear hv
        go_wp2_with fail
        refine (HP.out l[k] (List.getElem_mem hlt) _ hb hr).mono ?_
        rintro e w1 ⟨rfl, hw1⟩
        rw [Hv.out]
        go_wp2
      · go_roundw
        case rel => exact ⟨rfl, hb.trans (hw1.mono hb.size), k + 1, by omega, by go_num, AllTo.succ hlt Hj.out (by rw [Hv.out]; rfl)⟩
        case measure => simp [intOf]; omega
      · go_ret
        exact ⟨hb.trans (hw1.mono hb.size), _, rfl, .inr ⟨k, hlt, rfl, Hv.out, Hj.out⟩⟩
    · go_wp2
      go_ret
      exact ⟨hb, _, rfl, .inl ⟨rfl, Hj.out.none hlt⟩⟩

theorem containsInt_any (l : List Int) (p : Int → Bool) (g : FuncId) (cs : Array Value) (A : Option Addr) (ca : Nat) (S : Nat → Prop) (w : World) (eg : ∀ args w, (callFunc g args).run Tryz.prog w = .ok (.enter g args) w) (h : Arr w S A l) (hp : PredI g cs w S p l) :
    Calls Tryz.prog 132 #[.slice A l.length ca, .func (.func g) #[] cs] w fun e w' => e = .returned (.bool (l.any p)) ∧ Below w.heap.size w w' := by
  have HP := Lib.hid hp
  clear hp
  go_enter Tryz.func132, Tryz.ntmps132
  go_wp2_with fail
  refine (indexInt_any l p g cs A ca S _ eg h HP.out).mono ?_
  rintro e w1 ⟨hw1, r, rfl, hr⟩
  have Hr := Lib.hid hr.any
  clear hr
  go_wp2
  go_ret
  exact ⟨ret_bool Hr.out, hw1⟩

end Go.Proofs.YtppbjmhllmaakaaGreatDoor
