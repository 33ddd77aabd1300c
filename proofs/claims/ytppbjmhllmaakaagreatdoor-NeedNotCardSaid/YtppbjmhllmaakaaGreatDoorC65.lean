/- Contracts: need.clause, need.all, need.Parse . -/
import Derived.Test.YtppbjmhllmaakaaGreatDoorC64
import Derived.Laws.EntriesVeiled
set_option linter.unusedVariables false
namespace Go.Proofs.YtppbjmhllmaakaaGreatDoor
open Go.RowKit

theorem entersNeed : ∀ args w, (callFunc 124 args).run Tryz.prog w = .ok (.enter 124 args) w := enters_of Tryz.func124 (by kernel_rfl) rfl
theorem entersClause : ∀ args w, (callFunc 79 args).run Tryz.prog w = .ok (.enter 79 args) w := enters_of Tryz.func79 (by kernel_rfl) rfl

/-- What a reader of many answers: the list read, or none. -/
def AllRet {α : Type} [Cd α] (r : Option (List α)) (w : World) (e : Ending) (w' : World) : Prop :=
  Below w.heap.size w w' ∧ match r with
  | some l => ∃ A c, e = .returned (.tuple #[.slice A l.length c, .bool true]) ∧ Arr w' (fun b => w.heap.size ≤ b) A l
  | none => e = .returned (.tuple #[.slice none 0 0, .bool false])
theorem trim_mem {l p : List UInt8} {x : UInt8} (h : x ∈ Lib.trimPrefix l p) : x ∈ l := by
  unfold Lib.trimPrefix at h
  split at h
  · exact List.mem_of_mem_drop h
  · exact h
theorem trim_len (l p : List UInt8) : (Lib.trimPrefix l p).length ≤ l.length := by
  unfold Lib.trimPrefix
  split
  · simp
  · exact Nat.le_refl _

set_option maxHeartbeats 0 in
set_option maxRecDepth 100000 in
theorem allNeed_any (s sep : ByteArray) (w : World) (hs : s.size < 4294967281) (h1 : 1 ≤ sep.size) (hN : LaidN w) :
    Calls Tryz.prog 123 #[.string s, .string sep, .func (.func 124) #[] #[]] w (AllRet (mapO needParse (pieces s sep)) w) := by
  have hpl := pieces_le s sep h1
  have hps : ∀ p ∈ pieces s sep, p.size ≤ s.size := fun p hp => pieces_size hp
  have hsp := Lib.hid (fun W hW => split_any s sep W hs h1 hW)
  have eg := entersNeed
  obtain ⟨R, hR⟩ : ∃ R, Hid (mapO needParse (pieces s sep) = R) := ⟨_, Lib.hid rfl⟩
  rw [hR.out]
  generalize pieces s sep = P at *
  go_enter Tryz.func123, Tryz.ntmps123
  go_wp2_with fail
  refine (hsp.out _ hN).mono ?_
  rintro e w3 ⟨hw3, c3, rfl, hP⟩
  have hPlen := hP.len
  clear hsp
  have B3 : Below w.heap.size w w3 := hw3
  go_wp2
  go_loopw [8, 10, 11, 12, 17] (fun o p x ok i wr => Below w3.heap.size w3 wr ∧ ∃ k : Nat, k ≤ P.length ∧ i = .int .i64 k ∧ ∃ out, Hid (mapO needParse (P.take k) = some out) ∧ Hid (out.length = k) ∧ Own wr w3.heap.size 51 (fun b => w3.heap.size ≤ b) o out) (fun _ _ _ _ i _ => P.length - (intOf i).toNat)
  case atStart => exact ⟨Below.refl _ _, 0, Nat.zero_le _, rfl, [], Lib.hid (by simp [mapO]), Lib.hid rfl, Own.nil _ _ _ _⟩
  case round =>
    obtain ⟨hb, k, hk, rfl, out, hout, hol, hown⟩ := hrel
    have Br := Below.trans0 B3 hb B3.size
    by_cases hlt : k < P.length
    · obtain ⟨bb, oo, e, hb0, hsz, hcc⟩ := (hP.below hb).getS k hlt
      cases e
      rw [Nat.zero_add] at hcc
      have hqs := hps _ (List.getElem_mem hlt)
      have hnone : Hid (needParse P[k] = none → R = none) := Lib.hid (fun e => by rw [← hR.out, mapO_fail hlt e])
      have hsome : Hid (∀ z, needParse P[k] = some z → mapO needParse (P.take (k + 1)) = some (out ++ [z])) := Lib.hid (fun z e => mapO_take_succ hlt hout.out e)
      generalize P[k] = q at *
      go_wp2_with fail
      refine (needParse_any q _ (by omega) (hN.below Br)).mono ?_
      rintro e w5 ⟨hw5, hr⟩
      have B5 := Below.trans0 Br hw5 Br.size
      cases hv : needParse q with
      | none =>
        have fin := Lib.hid (hnone.out hv)
        rw [hv] at hr
        obtain ⟨a, z, A, m, c, t, rfl⟩ := hr
        clear hv hnone hsome
        go_wp2
        go_ret2
        exact ⟨B5.alloc B5.size _, by rw [fin.out]; rfl⟩
      | some n =>
        have hfin := Lib.hid (hsome.out n hv)
        rw [hv] at hr
        obtain ⟨A, c, rfl, hA, g1, g2, g3⟩ := hr
        clear hv hnone hsome
        have hob : ∀ b, u8.ownBlock = some b → b < wr.heap.size := fun b e => (hown.block_ge b e).2
        have hb35 : Below w3.heap.size w3 w5 := Below.trans0 hb hw5 hb.size
        have hz5 : wr.heap.size ≤ w5.heap.size := hw5.size
        have hba : Below w5.heap.size w5 (w5.alloc (.cells #[.string n.name, .int .i64 n.op, .slice A n.ver.parts.length c, .string n.ver.tail] 51)) := (Below.refl _ _).alloc (Nat.le_refl _) _
        have hrep : Cd.rep (w5.alloc (.cells #[.string n.name, .int .i64 n.op, .slice A n.ver.parts.length c, .string n.ver.tail] 51)) (fun b => w3.heap.size ≤ b ∧ u8.ownBlock ≠ some b) n [.string n.name, .int .i64 n.op, .slice A n.ver.parts.length c, .string n.ver.tail] :=
          ⟨A, c, rfl, g1, g2, (hA.below hba).mono (fun b _ h => ⟨by have := hb.size; omega, fun e => by have := hob b e; omega⟩), g3⟩
        have hown6 := (hown.below hw5).below hba
        go_wp2_with (at_builtin; refine Hold.out ?_)
        refine ⟨?_⟩
        refine wpList_own_app rfl _ _ 46 rfl w3.heap.size 51 elNeed (fun b => w3.heap.size ≤ b) u8 out ?_ (hown6.below ((Below.refl _ _).alloc (Nat.le_refl _) _)) ⟨(w5.alloc (.cells #[.string n.name, .int .i64 n.op, .slice A n.ver.parts.length c, .string n.ver.tail] 51)).heap.size, 0, none⟩ 1 [n] ?_ (Src.one 51 hrep) ?_ ?_ ?_ ?_
        · simp [Act.eval]
        · simp [Act.eval]
        · rw [hol.out]; show (k + 1) * 64 ≤ _; omega
        · rw [hol.out]; show k + 1 ≤ _; omega
        · have := hb35.size; simp; omega
        intro v2 w7 hown7 hg7 hat7
        have hb7 : Below w3.heap.size w3 w7 := ((hb35.alloc hb35.size _).alloc (by have := hb35.size; simp; omega) _).grown hg7 (by have := hb35.size; simp; omega) (fun b e => (hown.block_ge b e).1)
        clear hg7 hat7 hown hown6 hrep hba
        go_wp2
        go_roundw
        case rel => exact ⟨hb7, k + 1, by omega, by go_num, out ++ [n], hfin, Lib.hid (by rw [List.length_append, hol.out]; rfl), hown7⟩
        case measure => simp [intOf]; omega
    · have hke : k = P.length := by omega
      subst hke
      rw [List.take_of_length_le (Nat.le_refl _)] at hout
      have fin : Hid (R = some out) := Lib.hid (by rw [← hR.out, hout.out])
      obtain ⟨A9, c9, rfl, hA9⟩ := hown.rep (S' := fun b => w.heap.size ≤ b) (fun b _ h => by have := B3.size; omega) (fun b h _ => by have := B3.size; omega) (by rw [hol.out]; show P.length * 64 ≤ reach; unfold reach; omega) (by rw [hol.out]; exact hPlen)
      have hol2 : Hid (P.length = out.length) := Lib.hid hol.out.symm
      go_wp2
      go_ret2
      rw [fin.out]
      exact ⟨Br, A9, c9, rfl, hA9⟩


/-- What a reader of clauses answers. -/
def ClauseRet (r : Option Clause) (w : World) (e : Ending) (w' : World) : Prop :=
  Below w.heap.size w w' ∧ match r with
  | some n => ∃ A c, e = .returned (.tuple #[.agg #[.bool n.neg, .slice A n.any.length c], .bool true]) ∧ Arr w' (fun b => w.heap.size ≤ b) A n.any
  | none => ∃ z A m c, e = .returned (.tuple #[.agg #[.bool z, .slice A m c], .bool false])

set_option maxHeartbeats 0 in
set_option maxRecDepth 100000 in
theorem clauseParse_any (s : ByteArray) (w : World) (hs : s.size < 4294967281) (hN : LaidN w) :
    Calls Tryz.prog 79 #[.string s] w (ClauseRet (clauseParse s) w) := by
  obtain ⟨R, hR⟩ : ∃ R, Hid (R = match mapO needParse (pieces (txt (Lib.trimPrefix s.data.toList [33])) ⟨#[124]⟩) with
    | none => none
    | some l => some (⟨Lib.hasPrefix s.data.toList [33], l⟩ : Clause)) := ⟨_, Lib.hid rfl⟩
  rw [show clauseParse s = R from hR.out.symm]
  have hts : (txt (Lib.trimPrefix s.data.toList [33])).size ≤ s.size := by
    rw [txt_size]
    exact Nat.le_trans (trim_len _ _) (by rw [Array.length_toList]; exact Nat.le_refl _)
  have hcp := Lib.hid (fun W => cutPrefix_any s ⟨#[33]⟩ W)
  have hal := Lib.hid (fun W hW => allNeed_any (txt (Lib.trimPrefix s.data.toList [33])) ⟨#[124]⟩ W (by omega) (by decide) hW)
  change Hid (∀ W, Calls Tryz.prog 122 #[.string s, .string ⟨#[33]⟩] W fun e w' => e = .returned (.tuple #[.string (txt (Lib.trimPrefix s.data.toList [33])), .bool (Lib.hasPrefix s.data.toList [33])]) ∧ Below W.heap.size W w') at hcp
  generalize mapO needParse (pieces (txt (Lib.trimPrefix s.data.toList [33])) ⟨#[124]⟩) = L at *
  generalize txt (Lib.trimPrefix s.data.toList [33]) = X at *
  generalize Lib.hasPrefix s.data.toList [33] = neg at *
  go_enter Tryz.func79, Tryz.ntmps79
  go_wp2_with fail
  have B0 : Below w.heap.size w (w.alloc (.cells #[.bool false, .slice none 0 0] 48)) := (Below.refl _ _).alloc (Nat.le_refl _) _
  have r0 : (w.alloc (.cells #[.bool false, .slice none 0 0] 48)).cell? ⟨w.heap.size, 0, none⟩ = some (.bool false) := laid_new
  have r1 : (w.alloc (.cells #[.bool false, .slice none 0 0] 48)).cell? ⟨w.heap.size, 1, none⟩ = some (.slice none 0 0) := laid_new
  have z0 : (w.alloc (.cells #[.bool false, .slice none 0 0] 48)).frozen? ⟨w.heap.size, 0, none⟩ = false := frozen_box _ _ rfl
  have z1 : (w.alloc (.cells #[.bool false, .slice none 0 0] 48)).frozen? ⟨w.heap.size, 1, none⟩ = false := frozen_box _ _ rfl
  generalize w.alloc (.cells #[.bool false, .slice none 0 0] 48) = W0 at *
  have zz : w.heap.size < W0.heap.size := World.block_lt_of_cell? _ _ r0
  refine (hcp.out _).mono ?_
  rintro e w1 ⟨rfl, hw1⟩
  have B1 := Below.trans0 B0 hw1 B0.size
  go_wp2_with fail
  refine (hal.out _ (hN.below B1)).mono ?_
  intro e w2 hr
  obtain ⟨hw2, hr⟩ := hr
  have B2 := Below.trans0 B1 hw2 B1.size
  have hw12 := Below.trans0 hw1 hw2 hw1.size
  obtain ⟨q1, q2⟩ := bcell hw12
  replace r0 := (q1 _ _ zz).trans r0
  replace r1 := (q1 _ _ zz).trans r1
  replace z0 := (q2 _ _ zz).trans z0
  replace z1 := (q2 _ _ zz).trans z1
  clear q1 q2 hcp hal
  cases L with
  | none =>
    have fin : Hid (R = none) := Lib.hid hR.out
    subst hr
    go_wp2
    refine bodyPost_ret (v := .tuple #[.agg #[.bool neg, .slice none 0 0], .bool false]) (by simp [results, Tryz.results79, go_sem, r0, r1]) rfl ⟨?_, ?_⟩
    · exact (B2.setCell (Nat.le_refl _) _).setCell (Nat.le_refl _) _
    · rw [fin.out]
      exact ⟨_, _, _, _, rfl⟩
  | some l =>
    have fin : Hid (R = some ⟨neg, l⟩) := Lib.hid hR.out
    obtain ⟨A, c, rfl, hA⟩ := hr
    go_wp2
    refine bodyPost_ret (v := .tuple #[.agg #[.bool neg, .slice A l.length c], .bool true]) (by simp [results, Tryz.results79, go_sem, r0, r1]) rfl ⟨?_, ?_⟩
    · exact (B2.setCell (Nat.le_refl _) _).setCell (Nat.le_refl _) _
    · rw [fin.out]
      exact ⟨A, c, rfl, ((hA.set _ _ (S' := fun b => w1.heap.size ≤ b) (fun b h _ => ⟨h, by have := hw1.size; simp only; omega⟩)).set _ _ (S' := fun b => w1.heap.size ≤ b) (fun b h _ => ⟨h, by have := hw1.size; simp only; omega⟩)).mono (fun b _ h => by have := B1.size; omega)⟩

set_option maxHeartbeats 0 in
set_option maxRecDepth 100000 in
theorem allClause_any (s sep : ByteArray) (w : World) (hs : s.size < 4294967281) (h1 : 1 ≤ sep.size) (hN : LaidN w) :
    Calls Tryz.prog 78 #[.string s, .string sep, .func (.func 79) #[] #[]] w (AllRet (mapO clauseParse (pieces s sep)) w) := by
  have hpl := pieces_le s sep h1
  have hps : ∀ p ∈ pieces s sep, p.size ≤ s.size := fun p hp => pieces_size hp
  have hsp := Lib.hid (fun W hW => split_any s sep W hs h1 hW)
  have eg := entersClause
  obtain ⟨R, hR⟩ : ∃ R, Hid (mapO clauseParse (pieces s sep) = R) := ⟨_, Lib.hid rfl⟩
  rw [hR.out]
  generalize pieces s sep = P at *
  go_enter Tryz.func78, Tryz.ntmps78
  go_wp2_with fail
  refine (hsp.out _ hN).mono ?_
  rintro e w3 ⟨hw3, c3, rfl, hP⟩
  have hPlen := hP.len
  clear hsp
  have B3 : Below w.heap.size w w3 := hw3
  go_wp2
  go_loopw [8, 10, 11, 12, 17] (fun o p x ok i wr => Below w3.heap.size w3 wr ∧ ∃ k : Nat, k ≤ P.length ∧ i = .int .i64 k ∧ ∃ out, Hid (mapO clauseParse (P.take k) = some out) ∧ Hid (out.length = k) ∧ Own wr w3.heap.size 48 (fun b => w3.heap.size ≤ b) o out) (fun _ _ _ _ i _ => P.length - (intOf i).toNat)
  case atStart => exact ⟨Below.refl _ _, 0, Nat.zero_le _, rfl, [], Lib.hid (by simp [mapO]), Lib.hid rfl, Own.nil _ _ _ _⟩
  case round =>
    obtain ⟨hb, k, hk, rfl, out, hout, hol, hown⟩ := hrel
    have Br := Below.trans0 B3 hb B3.size
    by_cases hlt : k < P.length
    · obtain ⟨bb, oo, e, hb0, hsz, hcc⟩ := (hP.below hb).getS k hlt
      cases e
      rw [Nat.zero_add] at hcc
      have hqs := hps _ (List.getElem_mem hlt)
      have hnone : Hid (clauseParse P[k] = none → R = none) := Lib.hid (fun e => by rw [← hR.out, mapO_fail hlt e])
      have hsome : Hid (∀ z, clauseParse P[k] = some z → mapO clauseParse (P.take (k + 1)) = some (out ++ [z])) := Lib.hid (fun z e => mapO_take_succ hlt hout.out e)
      generalize P[k] = q at *
      go_wp2_with fail
      refine (clauseParse_any q _ (by omega) (hN.below Br)).mono ?_
      rintro e w5 ⟨hw5, hr⟩
      have B5 := Below.trans0 Br hw5 Br.size
      cases hv : clauseParse q with
      | none =>
        have fin := Lib.hid (hnone.out hv)
        rw [hv] at hr
        obtain ⟨z, A, m, c, rfl⟩ := hr
        clear hv hnone hsome
        go_wp2
        go_ret2
        exact ⟨B5.alloc B5.size _, by rw [fin.out]; rfl⟩
      | some n =>
        have hfin := Lib.hid (hsome.out n hv)
        rw [hv] at hr
        obtain ⟨A, c, rfl, hA⟩ := hr
        clear hv hnone hsome
        have hob : ∀ b, u8.ownBlock = some b → b < wr.heap.size := fun b e => (hown.block_ge b e).2
        have hb35 : Below w3.heap.size w3 w5 := Below.trans0 hb hw5 hb.size
        have hz5 : wr.heap.size ≤ w5.heap.size := hw5.size
        have hba : Below w5.heap.size w5 (w5.alloc (.cells #[.bool n.neg, .slice A n.any.length c] 48)) := (Below.refl _ _).alloc (Nat.le_refl _) _
        have hrep : Cd.rep (w5.alloc (.cells #[.bool n.neg, .slice A n.any.length c] 48)) (fun b => w3.heap.size ≤ b ∧ u8.ownBlock ≠ some b) n [.bool n.neg, .slice A n.any.length c] :=
          ⟨A, c, rfl, (hA.below hba).mono (fun b _ h => ⟨by have := hb.size; omega, fun e => by have := hob b e; omega⟩)⟩
        have hown6 := (hown.below hw5).below hba
        go_wp2_with (at_builtin; refine Hold.out ?_)
        refine ⟨?_⟩
        refine wpList_own_app rfl _ _ 24 rfl w3.heap.size 48 elClause (fun b => w3.heap.size ≤ b) u8 out ?_ (hown6.below ((Below.refl _ _).alloc (Nat.le_refl _) _)) ⟨(w5.alloc (.cells #[.bool n.neg, .slice A n.any.length c] 48)).heap.size, 0, none⟩ 1 [n] ?_ (Src.one 48 hrep) ?_ ?_ ?_ ?_
        · simp [Act.eval]
        · simp [Act.eval]
        · rw [hol.out]; show (k + 1) * 32 ≤ _; omega
        · rw [hol.out]; show k + 1 ≤ _; omega
        · have := hb35.size; simp; omega
        intro v2 w7 hown7 hg7 hat7
        have hb7 : Below w3.heap.size w3 w7 := ((hb35.alloc hb35.size _).alloc (by have := hb35.size; simp; omega) _).grown hg7 (by have := hb35.size; simp; omega) (fun b e => (hown.block_ge b e).1)
        clear hg7 hat7 hown hown6 hrep hba
        go_wp2
        go_roundw
        case rel => exact ⟨hb7, k + 1, by omega, by go_num, out ++ [n], hfin, Lib.hid (by rw [List.length_append, hol.out]; rfl), hown7⟩
        case measure => simp [intOf]; omega
    · have hke : k = P.length := by omega
      subst hke
      rw [List.take_of_length_le (Nat.le_refl _)] at hout
      have fin : Hid (R = some out) := Lib.hid (by rw [← hR.out, hout.out])
      obtain ⟨A9, c9, rfl, hA9⟩ := hown.rep (S' := fun b => w.heap.size ≤ b) (fun b _ h => by have := B3.size; omega) (fun b h _ => by have := B3.size; omega) (by rw [hol.out]; show P.length * 32 ≤ reach; unfold reach; omega) (by rw [hol.out]; exact hPlen)
      have hol2 : Hid (P.length = out.length) := Lib.hid hol.out.symm
      go_wp2
      go_ret2
      rw [fin.out]
      exact ⟨Br, A9, c9, rfl, hA9⟩

/-- What need.Parse answers. -/
def ParseRet (r : Option (List Clause)) (w : World) (e : Ending) (w' : World) : Prop :=
  Below w.heap.size w w' ∧ match r with
  | some l => ∃ A c, e = .returned (.tuple #[.slice A l.length c, .int .i64 0]) ∧ Arr w' (fun b => w.heap.size ≤ b) A l
  | none => e = .returned (.tuple #[.slice none 0 0, .int .i64 180])

set_option maxHeartbeats 0 in
set_option maxRecDepth 100000 in
theorem parse_any (s : ByteArray) (w : World) (hs : s.size < 4294967281) (hN : LaidN w) :
    Calls Tryz.prog 32 #[.string s] w (ParseRet (clausesParse s) w) := by
  cases he : (s.toList == ([] : List UInt8))
  · have hR0 : Hid (clausesParse s = match mapO clauseParse (pieces s ⟨#[44, 32]⟩) with
      | none => none
      | some l => if clausesOk l then some l else none) := Lib.hid (by
        unfold clausesParse
        rw [if_neg (by rw [← toList_empty, he]; simp)]
        rfl)
    have hal := Lib.hid (fun W hW => allClause_any s ⟨#[44, 32]⟩ W hs (by decide) hW)
    generalize clausesParse s = R at *
    generalize mapO clauseParse (pieces s ⟨#[44, 32]⟩) = L at *
    go_enter Tryz.func32, Tryz.ntmps32
    go_wp2_with fail
    refine (hal.out _ hN).mono ?_
    intro e w1 hr
    obtain ⟨hw1, hr⟩ := hr
    cases L with
    | none =>
      have fin : Hid (R = none) := Lib.hid hR0.out
      subst hr
      clear hR0 hal
      go_wp2
      go_ret2
      exact ⟨hw1, by rw [fin.out]; rfl⟩
    | some l =>
      obtain ⟨A, c, rfl, hA⟩ := hr
      cases hok : clausesOk l
      · have fin : Hid (R = none) := Lib.hid (by rw [hR0.out]; simp only; rw [hok]; rfl)
        have Hok := Lib.hid hok
        clear hR0 hal hok
        go_wp2_with fail
        refine (checkC_any l A c _ _ hA (hN.below hw1).laid).mono ?_
        rintro e w2 ⟨rfl, hw2⟩
        rw [Hok.out]
        go_wp2
        go_ret2
        exact ⟨Below.trans0 hw1 hw2 hw1.size, by rw [fin.out]; rfl⟩
      · have fin : Hid (R = some l) := Lib.hid (by rw [hR0.out]; simp only; rw [hok]; rfl)
        have Hok := Lib.hid hok
        clear hR0 hal hok
        go_wp2_with fail
        refine (checkC_any l A c _ _ hA (hN.below hw1).laid).mono ?_
        rintro e w2 ⟨rfl, hw2⟩
        rw [Hok.out]
        go_wp2
        go_ret2
        exact ⟨Below.trans0 hw1 hw2 hw1.size, by rw [fin.out]; exact ⟨A, c, rfl, hA.below hw2⟩⟩
  · have fin : Hid (clausesParse s = some []) := Lib.hid (by unfold clausesParse; rw [if_pos (by rw [← toList_empty, he])])
    generalize clausesParse s = R at *
    go_enter Tryz.func32, Tryz.ntmps32
    go_wp2
    go_ret2
    exact ⟨Below.refl _ _, by rw [fin.out]; exact ⟨none, 0, rfl, Arr.nil _ _ _⟩⟩

end Go.Proofs.YtppbjmhllmaakaaGreatDoor
