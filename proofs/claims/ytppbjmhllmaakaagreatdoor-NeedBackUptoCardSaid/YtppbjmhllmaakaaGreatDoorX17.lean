/- Texts of versions, needs and clauses, read and told, in plain Lean. -/
import Derived.Test.YtppbjmhllmaakaaGreatDoorX1
import Derived.Lib.Split
import Derived.Lib.IndexAny
import Derived.Lib.AtoiAll
import Derived.Lib.ItoaNum
import Derived.Lib.Join
import Derived.Lib.IndexMore
import Derived.Lib.Strings
set_option linter.unusedVariables false
namespace Go.Proofs.YtppbjmhllmaakaaGreatDoor

/-- Each element read; none, if one is none. -/
def mapO {α β : Type} (f : α → Option β) : List α → Option (List β)
  | [] => some []
  | a :: r => match f a, mapO f r with
    | some b, some l => some (b :: l)
    | _, _ => none
theorem mapO_append {α β : Type} (f : α → Option β) : ∀ (l r : List α), mapO f (l ++ r) = match mapO f l, mapO f r with | some a, some b => some (a ++ b) | _, _ => none
  | [], r => by simp only [List.nil_append, mapO]; cases mapO f r <;> rfl
  | x :: l, r => by
    simp only [List.cons_append, mapO, mapO_append f l r]
    cases f x <;> cases mapO f l <;> cases mapO f r <;> rfl
theorem mapO_take_succ {α β : Type} {f : α → Option β} {l : List α} {k : Nat} (hk : k < l.length) {o : List β} {b : β} (h : mapO f (l.take k) = some o) (h1 : f l[k] = some b) : mapO f (l.take (k + 1)) = some (o ++ [b]) := by
  rw [← List.take_append_getElem hk, mapO_append, h]
  simp only [mapO, h1]
theorem mapO_fail {α β : Type} {f : α → Option β} {l : List α} {k : Nat} (hk : k < l.length) (h : f l[k] = none) : mapO f l = none := by
  have e : l = l.take k ++ l[k] :: l.drop (k + 1) := by rw [List.getElem_cons_drop, List.take_append_drop]
  rw [e, mapO_append]
  simp only [mapO, h]
  cases mapO f (l.take k) <;> rfl
theorem mapO_len {α β : Type} {f : α → Option β} : ∀ {l : List α} {o : List β}, mapO f l = some o → o.length = l.length
  | [], o, h => by simp [mapO] at h; subst h; rfl
  | a :: r, o, h => by
    simp only [mapO] at h
    split at h
    · rename_i b l2 h1 h2
      cases h
      simp [mapO_len h2]
    · cases h

/-- A text cut at each of its instances. -/
def pieces (s sep : ByteArray) : List ByteArray := Lib.splitB sep 0 (Lib.countB s sep) s
def txt (l : List UInt8) : ByteArray := ⟨l.toArray⟩
/-- A version's part. -/
def partOf (p : ByteArray) : Option Int :=
  match Lib.atoiAll p.data.toList with
  | .ok v => if Lib.itoa v = p.data.toList then some v else none
  | _ => none
def verParse (s : ByteArray) : Option Ver :=
  match mapO partOf (pieces (txt (Lib.cut s.data.toList [45]).1) ⟨#[46]⟩) with
  | none => none
  | some l =>
    if (Lib.cut s.data.toList [45]).2.2 && (Lib.cut s.data.toList [45]).2.1.isEmpty then none
    else if verOk ⟨l, txt (Lib.cut s.data.toList [45]).2.1⟩ then some ⟨l, txt (Lib.cut s.data.toList [45]).2.1⟩ else none
/-- An op's text at a text's begin: the op, and how many bytes it has. -/
def opAt (l : List UInt8) : Option (Int × Nat) :=
  if [60, 61].isPrefixOf l then some (3, 2) else if [62, 61].isPrefixOf l then some (5, 2) else if [33, 61].isPrefixOf l then some (6, 2)
  else if [61].isPrefixOf l then some (1, 1) else if [60].isPrefixOf l then some (2, 1) else if [62].isPrefixOf l then some (4, 1) else none
def ver0 : Ver := ⟨[], ⟨#[]⟩⟩
/-- How many bytes stand ahead of the op. -/
def opFrom (s : ByteArray) : Int := Lib.indexAny s.data.toList [61, 60, 62, 33]
def needParse (s : ByteArray) : Option Need :=
  if opFrom s < 0 then (if nameOk s then some ⟨s, 0, ver0⟩ else none)
  else match opAt (s.data.toList.drop (opFrom s).toNat) with
    | none => none
    | some (op, n) => match verParse (txt (s.data.toList.drop ((opFrom s).toNat + n))) with
      | none => none
      | some v => if nameOk (txt (s.data.toList.take (opFrom s).toNat)) then some ⟨txt (s.data.toList.take (opFrom s).toNat), op, v⟩ else none
def clauseParse (s : ByteArray) : Option Clause :=
  match mapO needParse (pieces (txt (Lib.trimPrefix s.data.toList [33])) ⟨#[124]⟩) with
  | none => none
  | some l => some ⟨Lib.hasPrefix s.data.toList [33], l⟩
def clausesParse (s : ByteArray) : Option (List Clause) :=
  if s.data.toList.isEmpty then some []
  else match mapO clauseParse (pieces s ⟨#[44, 32]⟩) with
    | none => none
    | some l => if clausesOk l then some l else none

def verTold (v : Ver) : List UInt8 := Lib.join (v.parts.map Lib.itoa) [46] ++ (if v.tail.data.toList.isEmpty then [] else 45 :: v.tail.data.toList)
def needTold (n : Need) : List UInt8 := if 1 ≤ n.op ∧ n.op ≤ 6 then n.name.data.toList ++ (wordS n.op).data.toList ++ (if verOk n.ver then verTold n.ver else []) else n.name.data.toList
def clauseTold (c : Clause) : List UInt8 := if c.neg then 33 :: Lib.join (c.any.map needTold) [124] else Lib.join (c.any.map needTold) [124]
def clausesTold (l : List Clause) : List UInt8 := if clausesOk l then Lib.join (l.map clauseTold) [44, 32] else []

/-! ### The chapter's example -/
/-- "a>=1.2|b, !c". -/
def exText : ByteArray := ⟨#[97, 62, 61, 49, 46, 50, 124, 98, 44, 32, 33, 99]⟩
def exClauses : List Clause := [⟨false, [⟨⟨#[97]⟩, 5, ⟨[1, 2], ⟨#[]⟩⟩⟩, ⟨⟨#[98]⟩, 0, ver0⟩]⟩, ⟨true, [⟨⟨#[99]⟩, 0, ver0⟩]⟩]
theorem itoa_digit {n : Nat} (h : n < 10) : Lib.itoa n = [UInt8.ofNat (48 + n)] := by
  unfold Lib.itoa
  rw [if_neg (by omega), Lib.decDigits, dif_pos (by omega)]
  simp
theorem ex_pieces : pieces exText ⟨#[44, 32]⟩ = [⟨#[97, 62, 61, 49, 46, 50, 124, 98]⟩, ⟨#[33, 99]⟩] := by decide +kernel

theorem ex_part1 : partOf ⟨#[49]⟩ = some 1 := by decide +kernel
theorem ex_part2 : partOf ⟨#[50]⟩ = some 2 := by decide +kernel
theorem ex_ver : verParse ⟨#[49, 46, 50]⟩ = some ⟨[1, 2], ⟨#[]⟩⟩ := by
  have e : pieces (txt (Lib.cut (ByteArray.mk #[49, 46, 50]).data.toList [45]).1) ⟨#[46]⟩ = [⟨#[49]⟩, ⟨#[50]⟩] := by decide +kernel
  unfold verParse
  rw [e]
  simp only [mapO, ex_part1, ex_part2]
  rfl
theorem ex_need1 : needParse ⟨#[97, 62, 61, 49, 46, 50]⟩ = some ⟨⟨#[97]⟩, 5, ⟨[1, 2], ⟨#[]⟩⟩⟩ := by
  have e : opFrom ⟨#[97, 62, 61, 49, 46, 50]⟩ = 1 := by decide +kernel
  unfold needParse
  rw [e]
  have e2 : opAt ((ByteArray.mk #[97, 62, 61, 49, 46, 50]).data.toList.drop (1 : Int).toNat) = some (5, 2) := by decide +kernel
  rw [e2]
  have e3 : txt ((ByteArray.mk #[97, 62, 61, 49, 46, 50]).data.toList.drop ((1 : Int).toNat + 2)) = ⟨#[49, 46, 50]⟩ := by decide +kernel
  simp only [e3, ex_ver]
  rfl
theorem ex_need2 : needParse ⟨#[98]⟩ = some ⟨⟨#[98]⟩, 0, ver0⟩ := by
  unfold needParse
  rw [show opFrom ⟨#[98]⟩ = -1 by decide +kernel]
  rfl
theorem ex_need3 : needParse ⟨#[99]⟩ = some ⟨⟨#[99]⟩, 0, ver0⟩ := by
  unfold needParse
  rw [show opFrom ⟨#[99]⟩ = -1 by decide +kernel]
  rfl
theorem ex_clause1 : clauseParse ⟨#[97, 62, 61, 49, 46, 50, 124, 98]⟩ = some ⟨false, [⟨⟨#[97]⟩, 5, ⟨[1, 2], ⟨#[]⟩⟩⟩, ⟨⟨#[98]⟩, 0, ver0⟩]⟩ := by
  have e : pieces (txt (Lib.trimPrefix (ByteArray.mk #[97, 62, 61, 49, 46, 50, 124, 98]).data.toList [33])) ⟨#[124]⟩ = [⟨#[97, 62, 61, 49, 46, 50]⟩, ⟨#[98]⟩] := by decide +kernel
  unfold clauseParse
  rw [e]
  simp only [mapO, ex_need1, ex_need2]
  rfl
theorem ex_clause2 : clauseParse ⟨#[33, 99]⟩ = some ⟨true, [⟨⟨#[99]⟩, 0, ver0⟩]⟩ := by
  have e : pieces (txt (Lib.trimPrefix (ByteArray.mk #[33, 99]).data.toList [33])) ⟨#[124]⟩ = [⟨#[99]⟩] := by decide +kernel
  unfold clauseParse
  rw [e]
  simp only [mapO, ex_need3]
  rfl
theorem ex_ok : clausesOk exClauses = true := by decide +kernel
theorem ex_parse : clausesParse exText = some exClauses := by
  unfold clausesParse
  rw [ex_pieces, if_neg (by decide)]
  simp only [mapO, ex_clause1, ex_clause2]
  exact if_pos ex_ok
theorem ex_told : txt (clausesTold exClauses) = exText := by decide +kernel

end Go.Proofs.YtppbjmhllmaakaaGreatDoor
