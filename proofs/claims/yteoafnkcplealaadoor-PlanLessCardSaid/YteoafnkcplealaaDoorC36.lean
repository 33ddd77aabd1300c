/- Contract: need.Names (its members). -/
import Derived.Test.YteoafnkcplealaaDoorC25
import Derived.Test.YteoafnkcplealaaDoorX9
import Derived.Test.YteoafnkcplealaaDoorSh
import Derived.Sort.OwnSorted
set_option linter.unusedVariables false
namespace Go.Proofs.YteoafnkcplealaaDoor
open Go.RowKit

def namesOf (l : List Clause) : List ByteArray := l.flatMap fun c => c.any.map fun n => n.name
theorem namesOf_succ {l : List Clause} {k : Nat} (hk : k < l.length) : namesOf (l.take (k + 1)) = namesOf (l.take k) ++ l[k].any.map fun n => n.name := by
  unfold namesOf
  rw [← List.take_append_getElem hk, List.flatMap_append]
  simp
theorem namesOf_len {l : List Clause} (h : ∀ c ∈ l, c.any.length ≤ 8) : (namesOf l).length ≤ 8 * l.length := by
  induction l with
  | nil => simp [namesOf]
  | cons a r ih =>
    have h1 := h a (List.mem_cons_self ..)
    have h2 := ih fun c hc => h c (List.mem_cons_of_mem _ hc)
    have e : namesOf (a :: r) = a.any.map (fun n => n.name) ++ namesOf r := by simp [namesOf]
    rw [e, List.length_append, List.length_map, List.length_cons]
    omega
theorem clauses_small {l : List Clause} (h : clausesOk l = true) : l.length ≤ 32 ∧ ∀ c ∈ l, c.any.length ≤ 8 := by
  simp only [clausesOk, Bool.and_eq_true, decide_eq_true_eq, List.all_eq_true] at h
  refine ⟨h.1, fun c hc => ?_⟩
  have := h.2 c hc
  simp only [clauseOk, Bool.and_eq_true, decide_eq_true_eq] at this
  exact this.1.2
theorem mem_namesOf {l : List Clause} {x : ByteArray} : x ∈ namesOf l ↔ ∃ c ∈ l, ∃ n ∈ c.any, n.name = x := by
  unfold namesOf
  simp [List.mem_flatMap]

/-- Block g is a row of texts of room cap; the first of them are l. -/
def RowT (w : World) (g cap : Nat) (l : List ByteArray) : Prop :=
  ∃ cur : Array Value, w.heap[g]? = some (.cells cur 9 (0, 0)) ∧ l.length ≤ cap ∧ cap ≤ maxLen ∧ cur.size = cap ∧ cur.toList.take l.length = l.map Value.string
def bl (x : ByteArray) : List UInt8 := x.data.toList
def mk8 (b : List UInt8) : ByteArray := ⟨b.toArray⟩
theorem mk_bl (x : ByteArray) : mk8 (bl x) = x := by unfold mk8 bl; simp
theorem bl_mk (b : List UInt8) : bl (mk8 b) = b := by unfold mk8 bl; simp
theorem RowT.lt {w : World} {g cap : Nat} {l : List ByteArray} (h : RowT w g cap l) : g < w.heap.size := by
  obtain ⟨cur, h, _⟩ := h; exact (Array.getElem?_eq_some_iff.1 h).1
theorem RowT.take {w : World} {g cap : Nat} {l : List ByteArray} (h : RowT w g cap l) (k : Nat) : RowT w g cap (l.take k) := by
  obtain ⟨cur, h1, h2, h3, h4, h5⟩ := h
  refine ⟨cur, h1, by simp; omega, h3, h4, ?_⟩
  rw [List.map_take, ← h5, List.take_take, List.length_take]
theorem RowT.holds {w : World} {g cap : Nat} {l : List ByteArray} (h : RowT w g cap l) : Sort.Holds encStr w g 0 (l.map bl).toArray := by
  obtain ⟨cur, h1, h2, h3, h4, h5⟩ := h
  refine holds_of_block h1 ?_
  rw [List.length_map, h5, List.map_map]
  refine List.map_congr_left fun x _ => ?_
  show Value.string x = Value.string (mk8 (bl x))
  rw [mk_bl]
theorem RowT.sorted {w : World} {g cap n : Nat} {l : List ByteArray} {os : Array Obj} (h : RowT w g cap l) (ts : List (List UInt8)) (hl : ts.length = l.length) :
    RowT (Sort.grow (Sort.putRow encStr (Sort.ahead w n) g 0 ts.toArray) os) g cap (ts.map mk8) ∧ w.grownBy (Sort.grow (Sort.putRow encStr (Sort.ahead w n) g 0 ts.toArray) os) (some g) := by
  obtain ⟨cur, h1, h2, h3, h4, h5⟩ := h
  refine ⟨⟨_, heap_sorted _ h1, by rw [List.length_map]; omega, h3, by simpa [Sort.putCells] using h4, ?_⟩, grownBy_sorted _⟩
  rw [List.length_map, take_putCells cur ts (by omega), List.map_map]
  rfl
theorem RowT.arr {w : World} {g cap : Nat} {l : List ByteArray} (h : RowT w g cap l) (S : Nat → Prop) (hS : S g) (hl : l.length * 16 ≤ reach) (hi : ∀ x ∈ l, x.size ≤ reach) : Arr w S (some ⟨g, 0, none⟩) l := by
  refine ⟨hl, by unfold reach at hl; omega, fun _ => ⟨g, 0, rfl, hS, fun i x hx => ?_⟩⟩
  have hil : i < l.length := (List.getElem?_eq_some_iff.1 hx).1
  have hxe : l[i] = x := (List.getElem?_eq_some_iff.1 hx).2
  refine ⟨[.string x], ⟨rfl, hi x (hxe ▸ List.getElem_mem hil)⟩, fun j v hj => ?_⟩
  match j, hj with
  | 0, hj =>
    cases hj
    have := (h.holds i (by simpa using hil)).1
    have e : (l.map bl).toArray[i]! = bl x := by simp [hil, hxe]
    rw [e] at this
    have e2 : encStr (bl x) = .string x := by show Value.string (mk8 (bl x)) = _; rw [mk_bl]
    rw [e2] at this
    simpa [Cd.n] using this
theorem own_rowT {w : World} {base : Nat} {S : Nat → Prop} {v : Value} {l : List ByteArray} (h : Own w base 9 S v l) : (∀ x ∈ l, x.size ≤ reach) ∧ ((v = .slice none 0 0 ∧ l = []) ∨ ∃ g cap, v = .slice (some ⟨g, 0, none⟩) l.length cap ∧ RowT w g cap l ∧ base ≤ g) := by
  obtain ⟨xs, h1, h2, h3⟩ := h
  have hx : xs = l.map Value.string := by
    apply List.ext_getElem?
    intro i
    by_cases hi : i < l.length
    · obtain ⟨e, _⟩ := h3 i l[i] (by simp)
      have := congrArg (·[0]?) e
      simpa [Cd.n, List.getElem?_take, List.getElem?_drop, hi] using this
    · have : xs.length = l.length := by simpa [Cd.n] using h2
      rw [List.getElem?_eq_none (by omega), List.getElem?_eq_none (by simp; omega)]
  subst hx
  refine ⟨fun x hx => ?_, ?_⟩
  · obtain ⟨i, hi, rfl⟩ := List.getElem_of_mem hx
    exact (h3 i l[i] (by simp)).2
  · rcases h1.2 with ⟨h0, hn⟩ | ⟨g, cap, cur, hv, hb, hg, hc, hm, hs, ht⟩
    · exact .inl ⟨h0, List.eq_nil_of_length_eq_zero hn⟩
    · exact .inr ⟨g, cap, hv, ⟨cur, hg, hc, hm, by simpa [Cd.n] using hs, by simpa [Cd.n] using ht⟩, hb⟩

set_option maxHeartbeats 0 in
set_option maxRecDepth 100000 in
theorem names_any (l : List Clause) (A : Option Addr) (ca : Nat) (S : Nat → Prop) (w : World) (h : Arr w S A l) (hc : clausesOk l = true) :
    Calls Tryd.prog 41 #[.slice A l.length ca] w fun e w' => Below w.heap.size w w' ∧ ∃ A' c' L, e = .returned (.slice A' L.length c') ∧ Arr w' (fun _ => True) A' L ∧ ∀ x, x ∈ L ↔ x ∈ namesOf l := by
  obtain ⟨h32, h8⟩ := clauses_small hc
  have hlen : ∀ k, (namesOf (l.take k)).length ≤ 256 := fun k => by
    have := namesOf_len (l := l.take k) (fun c hc => h8 c (List.mem_of_mem_take hc))
    rw [List.length_take] at this
    omega
  clear hc
  go_enter Tryd.func41, Tryd.ntmps41
  go_wp2
  go_loopw [3, 10] (fun o i wr => Below w.heap.size w wr ∧ ∃ k : Nat, k ≤ l.length ∧ i = .int .i64 k ∧ Own wr w.heap.size 9 (fun _ => False) o (namesOf (l.take k))) (fun _ i _ => l.length - (intOf i).toNat)
  case atStart => exact ⟨Below.refl _ _, 0, Nat.zero_le _, rfl, Own.nil _ _ _ _⟩
  case round =>
    obtain ⟨hb, k, hk, rfl, hown⟩ := hrel
    by_cases hlt : k < l.length
    · obtain ⟨b, o, N3, cn3, hAe, hb0, g0, g1, hrc, hany⟩ := (h.below hb).getClause k hlt
      subst hAe
      obtain ⟨b', o', N4, cn4, e', _, g0', g1', _, hany0⟩ := h.getClause k hlt
      cases e'
      have hN : N3 = N4 := by
        have := box_below hb g1'
        rw [this] at g1
        simp at g1
        exact g1.1.symm
      subst hN
      have hsc := Lib.hid (namesOf_succ hlt)
      have h8k := h8 l[k] (List.getElem_mem hlt)
      have hlk := hlen k
      have hown1 := hown.below ((Below.refl _ wr).alloc (Nat.le_refl _) (.cells #[.bool l[k].neg, .slice N3 l[k].any.length cn3] 44))
      have HW1 : Below w.heap.size w (wr.alloc (.cells #[.bool l[k].neg, .slice N3 l[k].any.length cn3] 44)) := hb.alloc hb.size _
      clear hown
      go_wp2
      go_loopw [3, 17] (fun o j wr => Below w.heap.size w wr ∧ ∃ m : Nat, m ≤ l[k].any.length ∧ j = .int .i64 m ∧ Own wr w.heap.size 9 (fun _ => False) o (namesOf (l.take k) ++ (l[k].any.take m).map fun n => n.name)) (fun _ j _ => l[k].any.length - (intOf j).toNat)
      case atStart => exact ⟨HW1, 0, Nat.zero_le _, rfl, by simpa using hown1⟩
      case round =>
        obtain ⟨hb2, m, hm, rfl, hown⟩ := hrel
        by_cases hmt : m < l[k].any.length
        · obtain ⟨bn, on, B5, cb5, rfl, hbn, e0, e1, e2, e3, hrn⟩ := (hany0.below hb2).getNeed m hmt
          obtain ⟨-, -, -, hsn, -, -, -⟩ := hrn
          have hst := Lib.hid (take_map_succ (fun n : Need => n.name) hmt)
          have hpl : (namesOf (l.take k) ++ (l[k].any.take m).map fun n => n.name).length ≤ 264 := by rw [List.length_append, List.length_map, List.length_take]; omega
          generalize hpe : (namesOf (l.take k) ++ (l[k].any.take m).map fun n => n.name) = pre at *
          go_wp2_with (at_builtin; refine Hold.out ?_)
          refine ⟨?_⟩
          refine wpList_own_app rfl _ _ 34 rfl w.heap.size 9 elStr (fun _ => False) u3 pre ?_ (hown.below (by (repeat (first | exact Below.refl _ _ | assumption | (refine Below.setCell ?_ (by first | omega | (simp; done) | (simp; omega) | exact Below.size (by assumption)) _) | (refine Below.alloc ?_ (by first | omega | (simp; done) | (simp; omega) | exact Below.size (by assumption)) _) | refine Below.drew ?_ | refine Below.trans0 ?_ (by assumption))))) ⟨wr.heap.size + 1, 0, none⟩ 1 [l[k].any[m].name] ?_ ?_ ?_ ?_ ?_ ?_
          · simp [Act.eval]
          · simp [Act.eval]
          · have hz : (wr.alloc (.cells #[.string l[k].any[m].name, .int .i64 l[k].any[m].op, .slice B5 l[k].any[m].ver.parts.length cb5, .string l[k].any[m].ver.tail] 87)).heap.size = wr.heap.size + 1 := by simp
            have := Src.one (α := ByteArray) (w := wr.alloc (.cells #[.string l[k].any[m].name, .int .i64 l[k].any[m].op, .slice B5 l[k].any[m].ver.parts.length cb5, .string l[k].any[m].ver.tail] 87)) (S := fun b => False ∧ Value.ownBlock u3 ≠ some b) 9 (show Cd.rep _ _ l[k].any[m].name [.string l[k].any[m].name] from ⟨rfl, hsn⟩)
            rw [hz] at this
            exact this
          · exact app_bound (n := 1000) (by change 1000 * 16 ≤ _; unfold reach; omega) (by simp; omega)
          · simp; omega
          · have := hb2.size; simp; omega
          intro v2 w6 hown6 hg6 hat6
          have hb6 : Below w.heap.size w w6 := Below.grown ((hb2.alloc hb2.size _).alloc (by have := hb2.size; simp; omega) _) hg6 (by have := hb2.size; simp; omega) (fun b e => (hown.block_ge _ e).1)
          have hown7 : Own w6 w.heap.size 9 (fun _ => False) v2 (namesOf (l.take k) ++ (l[k].any.take (m + 1)).map fun n => n.name) := by rw [hst.out, ← List.append_assoc, hpe]; exact hown6
          clear hg6 hat6 hown hown6 e0 e1 e2 e3 hbn
          go_wp2
          go_roundw
          case rel => exact ⟨hb6, m + 1, by omega, by go_num, hown7⟩
          case measure => simp [intOf]; omega
        · have hme : m = l[k].any.length := by omega
          subst hme
          rw [List.take_length, ← hsc.out] at hown
          go_wp2
          go_roundw
          case rel => exact ⟨hb2, k + 1, by omega, by go_num, hown⟩
          case measure => simp [intOf]; omega
    · have hke : k = l.length := by omega
      subst hke
      have hlk := hlen l.length
      rw [List.take_length] at hown hlk
      obtain ⟨hsz, hrow⟩ := own_rowT hown
      rcases hrow with ⟨rfl, hnil⟩ | ⟨g, cap, rfl, hrow, hg⟩
      · go_wp2_with fail
        refine (Tryd.slices_Sort_string_none none 0 _).mono ?_
        rintro e w3 ⟨rfl, hw3⟩
        have hw3' := hw3.symm
        clear hw3
        subst hw3'
        go_wp2_with fail
        refine (Tryd.slices_Compact_string_empty none 0 _).mono ?_
        rintro e w4 ⟨rfl, hw4⟩
        have hw4' := hw4.symm
        clear hw4
        subst hw4'
        go_wp2
        go_ret
        exact ⟨hb, none, 0, [], rfl, Arr.nil _ _ _, fun x => by rw [hnil]⟩
      · generalize hns : namesOf l = ns at *
        obtain ⟨ss, hss⟩ : ∃ ss, ss = ns.map bl := ⟨_, rfl⟩
        have hsl : ss.length = ns.length := by rw [hss, List.length_map]
        have hh := hrow.holds
        rw [← hss] at hh
        rw [← hsl]
        have Hsl := Lib.hid hsl
        have hml : (ss.mergeSort fun x y => decide (x ≤ y)).length = ss.length := List.length_mergeSort _
        obtain ⟨s1, hs1⟩ : ∃ s1, s1 = ss.mergeSort fun x y => decide (x ≤ y) := ⟨_, rfl⟩
        rw [← hs1] at hml
        have Hml := Lib.hid hml
        have hs256 : ss.length ≤ 256 := by omega
        have hs1l : s1.length ≤ 256 := by omega
        have Hss := Lib.hid hss
        have Hs1 := Lib.hid hs1
        clear hsl hml hss hs1
        go_wp2_with fail
        refine (Tryd.slices_Sort_string g 0 cap ss _ hh hrow.lt (by omega)).mono ?_
        rintro e w3 ⟨rfl, n3, os3, hw3⟩
        rw [← Hs1.out] at hw3
        have hx3 := hrow.sorted (n := n3) (os := os3) s1 (Hml.out.trans Hsl.out)
        rw [← hw3] at hx3
        obtain ⟨hrow3, hg3⟩ := hx3
        clear hw3
        have B3 : Below w.heap.size w w3 := Below.grown hb hg3 hb.size (fun b e => by cases e; exact hg)
        have hh3 := hrow3.holds
        rw [List.map_map, show (bl ∘ mk8) = id from funext bl_mk, List.map_id] at hh3
        rw [← Hml.out]
        have hcl : (Lib.compact s1).length ≤ s1.length := Lib.compact_length_le s1
        obtain ⟨s2, hs2⟩ : ∃ s2, s2 = Lib.compact s1 := ⟨_, rfl⟩
        rw [← hs2] at hcl
        have Hs2 := Lib.hid hs2
        clear hs2
        go_wp2_with fail
        refine (Tryd.slices_Compact_string g 0 cap s1 _ hh3 (by omega) (by obtain ⟨_, _, h, _⟩ := hrow3; simpa using h)).mono ?_
        rintro e w4 ⟨rfl, n4, hw4⟩
        rw [← Hs2.out] at hw4 ⊢
        have hx4 := hrow3.sorted (n := n4) (os := #[]) (s2 ++ List.replicate (s1.length - s2.length) []) (by rw [List.length_append, List.length_replicate, List.length_map]; omega)
        rw [Sort.grow_empty, ← hw4] at hx4
        obtain ⟨hrow4, hg4⟩ := hx4
        clear hw4
        have B4 : Below w.heap.size w w4 := Below.grown B3 hg4 B3.size (fun b e => by cases e; exact hg)
        have hrow5 := hrow4.take s2.length
        rw [List.map_append, List.take_append_of_le_length (by simp), List.take_of_length_le (by simp)] at hrow5
        have hmem : ∀ x, x ∈ s2.map mk8 ↔ x ∈ ns := fun x => by
          rw [List.mem_map, Hs2.out]
          simp only [mem_compact]
          rw [Hs1.out]
          simp only [List.mem_mergeSort]
          rw [Hss.out]
          constructor
          · rintro ⟨b, hb, rfl⟩
            obtain ⟨y, hy, rfl⟩ := List.mem_map.1 hb
            rw [mk_bl]; exact hy
          · intro hx; exact ⟨bl x, List.mem_map.2 ⟨x, hx, rfl⟩, mk_bl x⟩
        have h2l : (s2.map mk8).length = s2.length := List.length_map _
        have harr : Arr w4 (fun _ => True) (some ⟨g, 0, none⟩) (s2.map mk8) := hrow5.arr _ trivial (by rw [h2l]; unfold reach; omega) (fun x hx => hsz x ((hmem x).1 hx))
        have H2l := Lib.hid h2l
        clear hrow5 hrow4 hrow3 hh3 hh h2l
        go_wp2
        go_ret
        exact ⟨B4, _, cap, s2.map mk8, by rw [H2l.out]; rfl, harr, fun x => by rw [hns]; exact hmem x⟩

end Go.Proofs.YteoafnkcplealaaDoor
