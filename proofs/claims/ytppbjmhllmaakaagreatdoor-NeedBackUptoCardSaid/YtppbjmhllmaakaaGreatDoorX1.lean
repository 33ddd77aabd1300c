/- The data of the layers version, need and plan as Lean structures, and how they lie in cells. -/
import Derived.Test.YtppbjmhllmaakaaGreatDoorX0
set_option linter.unusedVariables false
namespace Go.Proofs.YtppbjmhllmaakaaGreatDoor
open Go.RowKit

structure Ver where
  parts : List Int
  tail : ByteArray
structure Need where
  name : ByteArray
  op : Int
  ver : Ver
structure Clause where
  neg : Bool
  any : List Need
structure Pkg where
  name : ByteArray
  ver : Ver
  provides : List ByteArray
  clauses : List Clause

instance : Cd Ver where
  n := 2
  bytes := 40
  pos := by decide
  rep := fun w S v vs => ∃ A cap, vs = [.slice A v.parts.length cap, .string v.tail] ∧ Arr w S A v.parts ∧ v.tail.size ≤ reach
  len := by rintro _ _ _ _ ⟨_, _, rfl, _⟩; rfl
  one := by rintro _ _ _ _ ⟨_, _, rfl, _⟩; simp [Value.oneCell']
  keep := fun hk ⟨A, cap, e, h, r⟩ => ⟨A, cap, e, h.keep hk, r⟩

instance : Cd Need where
  n := 4
  bytes := 64
  pos := by decide
  rep := fun w S v vs => ∃ A cap, vs = [.string v.name, .int .i64 v.op, .slice A v.ver.parts.length cap, .string v.ver.tail] ∧ v.name.size ≤ reach ∧ In64 v.op ∧ Arr w S A v.ver.parts ∧ v.ver.tail.size ≤ reach
  len := by rintro _ _ _ _ ⟨_, _, rfl, _⟩; rfl
  one := by rintro _ _ _ _ ⟨_, _, rfl, _⟩; simp [Value.oneCell']
  keep := fun hk ⟨A, cap, e, h1, h2, h, r⟩ => ⟨A, cap, e, h1, h2, h.keep hk, r⟩

instance : Cd Clause where
  n := 2
  bytes := 32
  pos := by decide
  rep := fun w S v vs => ∃ A cap, vs = [.bool v.neg, .slice A v.any.length cap] ∧ Arr w S A v.any
  len := by rintro _ _ _ _ ⟨_, _, rfl, _⟩; rfl
  one := by rintro _ _ _ _ ⟨_, _, rfl, _⟩; simp [Value.oneCell']
  keep := fun hk ⟨A, cap, e, h⟩ => ⟨A, cap, e, h.keep hk⟩

instance : Cd Pkg where
  n := 5
  bytes := 104
  pos := by decide
  rep := fun w S v vs => ∃ A a B b C c, vs = [.string v.name, .slice A v.ver.parts.length a, .string v.ver.tail, .slice B v.provides.length b, .slice C v.clauses.length c] ∧
    v.name.size ≤ reach ∧ Arr w S A v.ver.parts ∧ v.ver.tail.size ≤ reach ∧ Arr w S B v.provides ∧ Arr w S C v.clauses
  len := by rintro _ _ _ _ ⟨_, _, _, _, _, _, rfl, _⟩; rfl
  one := by rintro _ _ _ _ ⟨_, _, _, _, _, _, rfl, _⟩; simp [Value.oneCell']
  keep := fun hk ⟨A, a, B, b, C, c, e, h1, h2, h3, h4, h5⟩ => ⟨A, a, B, b, C, c, e, h1, h2.keep hk, h3, h4.keep hk, h5.keep hk⟩

/-! ### What the document says, in Lean -/
/-- The errno: 0, if so; else e. -/
def okE (b : Bool) (e : Int) : Int := if b then 0 else e
@[go_sem] theorem okE_true (e : Int) : okE true e = 0 := rfl
@[go_sem] theorem okE_false (e : Int) : okE false e = e := rfl
def lowc (c : UInt8) : Bool := (97 ≤ c && c ≤ 122) || (48 ≤ c && c ≤ 57)
theorem lowc_iff (c : UInt8) : lowc c = true ↔ (97 ≤ (c.toNat : Int) ∧ (c.toNat : Int) ≤ 122) ∨ (48 ≤ (c.toNat : Int) ∧ (c.toNat : Int) ≤ 57) := by
  simp only [lowc, Bool.or_eq_true, Bool.and_eq_true, decide_eq_true_eq, UInt8.le_iff_toNat_le]
  simp
  omega
theorem lowc_no {c : UInt8} (h : ¬ ((97 ≤ (c.toNat : Int) ∧ (c.toNat : Int) ≤ 122) ∨ (48 ≤ (c.toNat : Int) ∧ (c.toNat : Int) ≤ 57))) : lowc c = false := by
  rw [← Bool.not_eq_true, lowc_iff]; exact h
/-- One of a name's letters, behind the first. -/
def nextc (c : UInt8) : Bool := lowc c || c == 43 || c == 45
theorem nextc_iff (c : UInt8) : nextc c = true ↔ lowc c = true ∨ (c.toNat : Int) = 43 ∨ (c.toNat : Int) = 45 := by
  have a : c = 43 ↔ (c.toNat : Int) = 43 := by
    rw [← UInt8.toNat_inj, show (43 : UInt8).toNat = 43 from rfl]; omega
  have b : c = 45 ↔ (c.toNat : Int) = 45 := by
    rw [← UInt8.toNat_inj, show (45 : UInt8).toNat = 45 from rfl]; omega
  simp only [nextc, Bool.or_eq_true, beq_iff_eq, a, b, or_assoc]
theorem nextc_no {c : UInt8} (h : ¬ (lowc c = true ∨ (c.toNat : Int) = 43 ∨ (c.toNat : Int) = 45)) : nextc c = false := by
  rw [← Bool.not_eq_true, nextc_iff]; exact h
def nameOk (s : ByteArray) : Bool :=
  match s.data.toList with
  | [] => false
  | c :: r => lowc c && r.all nextc && decide (r.length < 32)
def tailOk (s : ByteArray) : Bool := s.data.toList.all lowc && decide (s.size ≤ 8)
def verOk (v : Ver) : Bool := decide (1 ≤ v.parts.length) && decide (v.parts.length ≤ 4) && v.parts.all (fun n => decide (0 ≤ n) && decide (n ≤ 999999)) && tailOk v.tail
def needOk (n : Need) : Bool :=
  nameOk n.name && (if n.op = 0 then n.ver.parts.isEmpty && n.ver.tail.data.toList.isEmpty else decide (1 ≤ n.op) && decide (n.op ≤ 6) && verOk n.ver)
def clauseOk (c : Clause) : Bool := decide (1 ≤ c.any.length) && decide (c.any.length ≤ 8) && c.any.all needOk
def clausesOk (l : List Clause) : Bool := decide (l.length ≤ 32) && l.all clauseOk

/-- A part; 0 where there is none. -/
def pt (l : List Int) (k : Nat) : Int := l.getD k 0
theorem pt_lt {l : List Int} {k : Nat} (h : k < l.length) : pt l k = l[k] := by simp [pt, List.getD, h]
theorem pt_ge {l : List Int} {k : Nat} (h : ¬ k < l.length) : pt l k = 0 := by simp [pt, List.getD, List.getElem?_eq_none (Nat.le_of_not_lt h)]
/-- Parts from place k on, n of them: the first that differ. -/
def pcmp (a b : List Int) : Nat → Nat → Int
  | _, 0 => 0
  | k, n + 1 => if pt a k < pt b k then -1 else if pt b k < pt a k then 1 else pcmp a b (k + 1) n
/-- Texts as the walk compares them. -/
def seqb (a b : ByteArray) : Bool := a.toList == b.toList
def semp (a : ByteArray) : Bool := a.toList.isEmpty
def tcmp (a b : ByteArray) : Int :=
  if a.toList == b.toList then 0 else if a.toList.isEmpty then 1 else if b.toList.isEmpty then -1 else if Op.bytesLess a.toList b.toList then -1 else 1
def vcmp (a b : Ver) : Int :=
  let c := pcmp a.parts b.parts 0 (max a.parts.length b.parts.length)
  if c = 0 then tcmp a.tail b.tail else c
/-- An op's text; "?": none. -/
def wordS (op : Int) : ByteArray :=
  if op = 0 then ⟨#[]⟩ else if op = 1 then ⟨#[61]⟩ else if op = 2 then ⟨#[60]⟩ else if op = 3 then ⟨#[60, 61]⟩ else if op = 4 then ⟨#[62]⟩ else if op = 5 then ⟨#[62, 61]⟩ else if op = 6 then ⟨#[33, 61]⟩ else ⟨#[63]⟩
/-- Does what is asked hold? 'false' where the op is none. -/
def vholds (op : Int) (v w : Ver) : Bool :=
  let c := vcmp v w
  if op = 0 then true else if op = 1 then (c == 0) else if op = 2 then decide (c < 0) else if op = 3 then decide (c ≤ 0)
  else if op = 4 then decide (0 < c) else if op = 5 then decide (0 ≤ c) else if op = 6 then (c != 0) else false
def meets (n : Need) (p : Pkg) : Bool := (seqb p.name n.name && vholds n.op p.ver n.ver) || (decide (n.op = 0) && decide (n.name ∈ p.provides))
def met (c : Clause) (l : List Pkg) : Bool := (l.any fun p => c.any.any fun n => meets n p) != c.neg

/-- The errno beside it. -/
def vholdsE (op : Int) : Int := if 0 ≤ op ∧ op ≤ 6 then 0 else 2

/-! ### An element of a slice, kind by kind -/
section
variable {w : World} {S : Nat → Prop} {A : Option Addr}
theorem Arr.lt {α : Type} [Cd α] {l : List α} (h : Arr w S A l) (hl : 0 < l.length) : ∃ b o, A = some ⟨b, o, none⟩ ∧ b < w.heap.size ∧ S b := by
  obtain ⟨b, o, rfl, hS, hx⟩ := h.2.2 hl
  obtain ⟨vs, hr, hc⟩ := hx 0 l[0] (by simp)
  have hlen := Cd.len hr
  have hn := Cd.pos (α := α)
  exact ⟨b, o, rfl, World.block_lt_of_cell? w ⟨b, _, none⟩ (hc 0 vs[0] (by simp)), hS⟩
theorem Arr.getI {l : List Int} (h : Arr w S A l) (k : Nat) (hk : k < l.length) : ∃ b o, A = some ⟨b, o, none⟩ ∧ b < w.heap.size ∧ In64 l[k] ∧ w.cell? ⟨b, o + k, none⟩ = some (.int .i64 l[k]) := by
  obtain ⟨b, o, rfl, hb, _⟩ := h.lt (by omega)
  obtain ⟨_, _, vs, e, ⟨rfl, hs⟩, hc⟩ := h.get k hk
  cases e
  have := hc 0 _ rfl
  exact ⟨b, o, rfl, hb, hs, by simpa [Cd.n] using this⟩
theorem Arr.getS {l : List ByteArray} (h : Arr w S A l) (k : Nat) (hk : k < l.length) : ∃ b o, A = some ⟨b, o, none⟩ ∧ b < w.heap.size ∧ l[k].size ≤ reach ∧ w.cell? ⟨b, o + k, none⟩ = some (.string l[k]) := by
  obtain ⟨b, o, rfl, hb, _⟩ := h.lt (by omega)
  obtain ⟨_, _, vs, e, ⟨rfl, hs⟩, hc⟩ := h.get k hk
  cases e
  have := hc 0 _ rfl
  exact ⟨b, o, rfl, hb, hs, by simpa [Cd.n] using this⟩
theorem Arr.getNeed {l : List Need} (h : Arr w S A l) (k : Nat) (hk : k < l.length) : ∃ b o B cb, A = some ⟨b, o, none⟩ ∧ b < w.heap.size ∧
    w.cell? ⟨b, o + k * 4, none⟩ = some (.string l[k].name) ∧ w.cell? ⟨b, o + k * 4 + 1, none⟩ = some (.int .i64 l[k].op) ∧ w.cell? ⟨b, o + k * 4 + 2, none⟩ = some (.slice B l[k].ver.parts.length cb) ∧
    w.cell? ⟨b, o + k * 4 + 3, none⟩ = some (.string l[k].ver.tail) ∧ Cd.rep w S l[k] [.string l[k].name, .int .i64 l[k].op, .slice B l[k].ver.parts.length cb, .string l[k].ver.tail] := by
  obtain ⟨b, o, rfl, hb, _⟩ := h.lt (by omega)
  obtain ⟨_, _, vs, e, hr, hc⟩ := h.get k hk
  cases e
  obtain ⟨B, cb, rfl, h1, h2, h3, h4⟩ := hr
  have e0 := hc 0 _ rfl
  have e1 := hc 1 _ rfl
  have e2 := hc 2 _ rfl
  have e3 := hc 3 _ rfl
  exact ⟨b, o, B, cb, rfl, hb, by simpa [Cd.n] using e0, e1, e2, e3, B, cb, rfl, h1, h2, h3, h4⟩
theorem Arr.getClause {l : List Clause} (h : Arr w S A l) (k : Nat) (hk : k < l.length) : ∃ b o B cb, A = some ⟨b, o, none⟩ ∧ b < w.heap.size ∧
    w.cell? ⟨b, o + k * 2, none⟩ = some (.bool l[k].neg) ∧ w.cell? ⟨b, o + k * 2 + 1, none⟩ = some (.slice B l[k].any.length cb) ∧ Cd.rep w S l[k] [.bool l[k].neg, .slice B l[k].any.length cb] ∧ Arr w S B l[k].any := by
  obtain ⟨b, o, rfl, hb, _⟩ := h.lt (by omega)
  obtain ⟨_, _, vs, e, hr, hc⟩ := h.get k hk
  cases e
  obtain ⟨B, cb, rfl, h1⟩ := hr
  have e0 := hc 0 _ rfl
  have e1 := hc 1 _ rfl
  exact ⟨b, o, B, cb, rfl, hb, by simpa [Cd.n] using e0, e1, ⟨B, cb, rfl, h1⟩, h1⟩
theorem Arr.getPkg {l : List Pkg} (h : Arr w S A l) (k : Nat) (hk : k < l.length) : ∃ b o B cb C cc D cd, A = some ⟨b, o, none⟩ ∧ b < w.heap.size ∧
    w.cell? ⟨b, o + k * 5, none⟩ = some (.string l[k].name) ∧ w.cell? ⟨b, o + k * 5 + 1, none⟩ = some (.slice B l[k].ver.parts.length cb) ∧ w.cell? ⟨b, o + k * 5 + 2, none⟩ = some (.string l[k].ver.tail) ∧
    w.cell? ⟨b, o + k * 5 + 3, none⟩ = some (.slice C l[k].provides.length cc) ∧ w.cell? ⟨b, o + k * 5 + 4, none⟩ = some (.slice D l[k].clauses.length cd) ∧
    Cd.rep w S l[k] [.string l[k].name, .slice B l[k].ver.parts.length cb, .string l[k].ver.tail, .slice C l[k].provides.length cc, .slice D l[k].clauses.length cd] ∧ Arr w S B l[k].ver.parts ∧ Arr w S C l[k].provides ∧ Arr w S D l[k].clauses := by
  obtain ⟨b, o, rfl, hb, _⟩ := h.lt (by omega)
  obtain ⟨_, _, vs, e, hr, hc⟩ := h.get k hk
  cases e
  obtain ⟨B, cb, C, cc, D, cd, rfl, h1, h2, h3, h4, h5⟩ := hr
  have e0 := hc 0 _ rfl
  have e1 := hc 1 _ rfl
  have e2 := hc 2 _ rfl
  have e3 := hc 3 _ rfl
  have e4 := hc 4 _ rfl
  exact ⟨b, o, B, cb, C, cc, D, cd, rfl, hb, by simpa [Cd.n] using e0, e1, e2, e3, e4, ⟨B, cb, C, cc, D, cd, rfl, h1, h2, h3, h4, h5⟩, h2, h4, h5⟩
end

end Go.Proofs.YtppbjmhllmaakaaGreatDoor
