/- Texts of versions, needs and clauses: read as they were told, and told as they were read. -/
import Derived.Test.YtppbjmhllmaakaaGreatDoorX21
set_option linter.unusedVariables false
namespace Go.Proofs.YtppbjmhllmaakaaGreatDoor

/-! ### Cut and joined -/
def cuts (s sep : List UInt8) : List (List UInt8) := Lib.splitK sep 0 (Lib.count s sep) s
theorem cuts_miss {s sep : List UInt8} (h : Lib.index s sep = -1) : cuts s sep = [s] := by
  unfold cuts
  rw [Lib.count_miss h]
  rfl
theorem cuts_hit {s sep : List UInt8} {i : Nat} (hsep : sep ≠ []) (h : Lib.index s sep = i) : cuts s sep = s.take i :: cuts (s.drop (i + sep.length)) sep := by
  unfold cuts
  rw [Lib.count_hit hsep h, Nat.add_comm 1, Lib.splitK, if_neg (by rw [h]; simp), h]
  simp
theorem cuts_ne (s sep : List UInt8) : ∃ y r, cuts s sep = y :: r := by
  unfold cuts
  cases Lib.count s sep with
  | zero => exact ⟨_, _, rfl⟩
  | succ k =>
    unfold Lib.splitK
    split
    · exact ⟨_, _, rfl⟩
    · exact ⟨_, _, rfl⟩
theorem join_cons2 (x y : List UInt8) (r : List (List UInt8)) (sep : List UInt8) : Lib.join (x :: y :: r) sep = x ++ (sep ++ Lib.join (y :: r) sep) := by
  rw [Lib.join_cons, Lib.join_cons]
  simp [Lib.joinTail]
theorem index_parts {s sep : List UInt8} {i : Nat} (hsep : sep ≠ []) (h : Lib.index s sep = i) : i + sep.length ≤ s.length ∧ s.take i ++ (sep ++ s.drop (i + sep.length)) = s := by
  rcases Lib.index_spec s sep with ⟨h1, -⟩ | ⟨j, h1, h2, h3, -⟩
  · omega
  · have e : j = i := by omega
    subst e
    have h4 : j + sep.length ≤ s.length := by
      rcases Lib.occAt_room h3 with h4 | h4
      · exact h4
      · exact absurd h4 hsep
    refine ⟨h4, ?_⟩
    rw [Lib.occAt_iff_take s sep j h4, beq_iff_eq] at h3
    have e : sep ++ s.drop (j + sep.length) = s.drop j := by
      conv => rhs; rw [← List.take_append_drop sep.length (s.drop j), h3, List.drop_drop]
    rw [e, List.take_append_drop]
theorem join_cuts (sep : List UInt8) (hsep : sep ≠ []) : ∀ (n : Nat) (s : List UInt8), s.length ≤ n → Lib.join (cuts s sep) sep = s := by
  intro n
  induction n with
  | zero =>
    intro s hs
    have : s = [] := List.length_eq_zero_iff.1 (by omega)
    subst this
    have h : Lib.index [] sep = -1 := by cases sep with | nil => exact absurd rfl hsep | cons a b => rfl
    rw [cuts_miss h, Lib.join_one]
  | succ n ih =>
    intro s hs
    rcases Lib.index_spec s sep with ⟨h1, -⟩ | ⟨i, h1, -⟩
    · rw [cuts_miss h1, Lib.join_one]
    · obtain ⟨h2, h3⟩ := index_parts hsep h1
      have hp : 1 ≤ sep.length := by cases sep with | nil => exact absurd rfl hsep | cons a b => simp
      have e := ih (s.drop (i + sep.length)) (by rw [List.length_drop]; omega)
      rw [cuts_hit hsep h1]
      obtain ⟨y, r, hy⟩ := cuts_ne (s.drop (i + sep.length)) sep
      rw [hy] at e ⊢
      rw [join_cons2, e, h3]
theorem index_no {c : UInt8} {t x : List UInt8} (hx : c ∉ x) : Lib.index x (c :: t) = -1 := Lib.index_none (fun j hj => by
  cases h : Lib.occAt x (c :: t) j
  · rfl
  · exact absurd (List.mem_of_getElem? (Lib.occAt_head rfl h)) hx)
theorem index_sep {c : UInt8} {t x : List UInt8} (z : List UInt8) (hx : c ∉ x) : Lib.index (x ++ (c :: t ++ z)) (c :: t) = x.length := by
  refine Lib.index_first (by simp) (by unfold Lib.occAt; rw [List.drop_left, List.isPrefixOf_iff_prefix]; exact List.prefix_append _ _) (fun j hj => ?_)
  cases h : Lib.occAt (x ++ (c :: t ++ z)) (c :: t) j
  · rfl
  · have e := Lib.occAt_head rfl h
    rw [List.getElem?_append_left hj] at e
    exact absurd (List.mem_of_getElem? e) hx
theorem cuts_join {c : UInt8} {t : List UInt8} : ∀ (L : List (List UInt8)), L ≠ [] → (∀ x ∈ L, c ∉ x) → cuts (Lib.join L (c :: t)) (c :: t) = L
  | [], h, _ => absurd rfl h
  | [x], _, h => by rw [Lib.join_one, cuts_miss (index_no (h x (by simp)))]
  | x :: y :: r, _, h => by
    have ih := cuts_join (c := c) (t := t) (y :: r) (by simp) (fun z hz => h z (List.mem_cons_of_mem _ hz))
    rw [join_cons2, cuts_hit (i := x.length) (by simp) (index_sep _ (h x (by simp))), List.take_left, ← List.append_assoc, ← List.length_append, List.drop_left, ih]
theorem pieces_cuts (s sep : ByteArray) : pieces s sep = (cuts s.data.toList sep.data.toList).map txt := by
  have h : (pieces s sep).map (·.data.toList) = cuts s.data.toList sep.data.toList := Lib.splitB_data sep 0 _ s
  rw [← h, List.map_map]
  conv => lhs; rw [← List.map_id (pieces s sep)]
  exact List.map_congr_left (fun x _ => (txt_data x).symm)
theorem pieces_join (s sep : ByteArray) (hsep : sep.data.toList ≠ []) : Lib.join ((pieces s sep).map (·.data.toList)) sep.data.toList = s.data.toList := by
  have h : (pieces s sep).map (·.data.toList) = cuts s.data.toList sep.data.toList := Lib.splitB_data sep 0 _ s
  rw [h, join_cuts _ hsep _ _ (Nat.le_refl _)]
theorem pieces_of_join {c : UInt8} {t : List UInt8} {L : List (List UInt8)} (h0 : L ≠ []) (h : ∀ x ∈ L, c ∉ x) (sep : ByteArray) (hs : sep.data.toList = c :: t) : pieces (txt (Lib.join L (c :: t))) sep = L.map txt := by
  rw [pieces_cuts, txt_toList, hs, cuts_join L h0 h]
theorem cut_yes {s sep : List UInt8} (hsep : sep ≠ []) (h : (Lib.cut s sep).2.2 = true) : (Lib.cut s sep).1 ++ (sep ++ (Lib.cut s sep).2.1) = s := by
  unfold Lib.cut at *
  split at h
  · rename_i h0
    rw [if_pos h0]
    exact (index_parts hsep (i := (Lib.index s sep).toNat) (by omega)).2
  · cases h
theorem cut_no {s sep : List UInt8} (h : (Lib.cut s sep).2.2 = false) : Lib.cut s sep = (s, [], false) := by
  unfold Lib.cut at *
  split at h
  · cases h
  · rename_i h0
    rw [if_neg h0]
theorem cut_none {c : UInt8} {s : List UInt8} (h : c ∉ s) : Lib.cut s [c] = (s, [], false) := by
  unfold Lib.cut
  rw [index_no h, if_neg (by decide)]
theorem cut_at {c : UInt8} {x : List UInt8} (z : List UInt8) (h : c ∉ x) : Lib.cut (x ++ c :: z) [c] = (x, z, true) := by
  unfold Lib.cut
  have e : Lib.index (x ++ c :: z) [c] = x.length := index_sep (t := []) z h
  rw [e, if_pos (by omega)]
  have e2 : ((x.length : Int)).toNat = x.length := by omega
  rw [e2, List.take_left]
  have e3 : (x ++ c :: z).drop (x.length + [c].length) = z := by
    rw [show x ++ c :: z = (x ++ [c]) ++ z by simp, ← List.length_append, List.drop_left]
  rw [e3]

/-! ### Elements read and told -/
theorem mapO_told {α β : Type} {f : α → Option β} {g : β → α} : ∀ {l : List β}, (∀ x ∈ l, f (g x) = some x) → mapO f (l.map g) = some l
  | [], _ => rfl
  | x :: r, h => by simp only [List.map_cons, mapO, h x (by simp), mapO_told (fun y hy => h y (List.mem_cons_of_mem _ hy))]
theorem mapO_read {α β γ : Type} {f : α → Option β} {h : β → γ} {k : α → γ} (hh : ∀ a b, f a = some b → h b = k a) : ∀ {l : List α} {o : List β}, mapO f l = some o → o.map h = l.map k
  | [], o, e => by simp [mapO] at e; subst e; rfl
  | a :: r, o, e => by
    simp only [mapO] at e
    split at e
    · rename_i b l2 h1 h2
      cases e
      simp only [List.map_cons, hh a b h1, mapO_read hh h2]
    · cases e

/-! ### Numbers -/
theorem ofNat_digit {d : Nat} (h : d < 10) : (UInt8.ofNat (48 + d)).toNat = 48 + d := by
  rw [UInt8.toNat_ofNat']
  exact Nat.mod_eq_of_lt (by omega)
theorem dec_chars (u : Nat) : ∀ x ∈ Lib.decDigits u, 48 ≤ x.toNat ∧ x.toNat ≤ 57 := by
  induction u using Nat.strongRecOn with
  | _ u ih =>
    by_cases h : u < 10
    · rw [Lib.decDigits, dif_pos h]
      intro x hx
      rw [List.mem_singleton] at hx
      subst hx
      rw [ofNat_digit h]
      omega
    · rw [Lib.decDigits, dif_neg h]
      intro x hx
      rcases List.mem_append.1 hx with hx | hx
      · exact ih (u / 10) (by omega) x hx
      · rw [List.mem_singleton] at hx
        subst hx
        rw [ofNat_digit (by omega)]
        omega
theorem dec_head (u : Nat) : ∃ c r, Lib.decDigits u = c :: r := by
  have h := Lib.decDigits_length u
  have h1 := Lib.nDigits_pos u
  cases e : Lib.decDigits u with
  | nil => rw [e] at h; simp at h; omega
  | cons c r => exact ⟨c, r, rfl⟩
theorem uint_step (acc : Nat) {d : Nat} (hd : d < 10) (ha : acc < 1000000000000) (r : List UInt8) : Lib.parseUint10 acc (UInt8.ofNat (48 + d) :: r) = Lib.parseUint10 (acc * 10 + d) r := by
  rw [Lib.parseUint10, ofNat_digit hd, if_pos (by omega), if_neg (by omega), if_neg (by omega), show 48 + d - 48 = d by omega]
theorem uint_dec (u : Nat) : ∀ (r : List UInt8), u < 1000000000000 → Lib.parseUint10 0 (Lib.decDigits u ++ r) = Lib.parseUint10 u r := by
  induction u using Nat.strongRecOn with
  | _ u ih =>
    intro r hu
    by_cases h : u < 10
    · rw [Lib.decDigits, dif_pos h, List.singleton_append, uint_step 0 h (by omega)]
      simp
    · rw [Lib.decDigits, dif_neg h, List.append_assoc, ih (u / 10) (by omega) _ (by omega), List.singleton_append, uint_step _ (by omega) (by omega)]
      congr 1
      omega
theorem atoi_dec {u : Nat} (hu : u < 1000000000000) : Lib.atoiAll (Lib.decDigits u) = .ok (u : Int) := by
  obtain ⟨c, r, e⟩ := dec_head u
  have hc := dec_chars u c (by rw [e]; simp)
  have h := uint_dec u [] hu
  rw [List.append_nil] at h
  rw [e] at h ⊢
  unfold Lib.atoiAll
  simp only
  rw [if_neg (by omega)]
  unfold Lib.parseMag
  rw [if_neg (by simp), h]
  simp only [Lib.parseUint10]
  rw [if_neg (by omega), if_neg (by omega), if_neg (by omega)]
theorem itoa_dec {n : Int} (h : 0 ≤ n) : Lib.itoa n = Lib.decDigits n.toNat := by
  unfold Lib.itoa
  rw [if_neg (by omega)]
theorem part_told {n : Int} (h : 0 ≤ n) (h1 : n ≤ 999999) : partOf (txt (Lib.itoa n)) = some n := by
  unfold partOf
  rw [txt_toList, itoa_dec h, atoi_dec (by omega)]
  have e : ((n.toNat : Nat) : Int) = n := by omega
  simp only [e]
  rw [itoa_dec h, if_pos rfl]
theorem part_read {p : ByteArray} {v : Int} (h : partOf p = some v) : Lib.itoa v = p.data.toList := by
  unfold partOf at h
  split at h
  · split at h
    · rename_i e
      cases h
      exact e
    · cases h
  · cases h

/-! ### Versions -/
theorem ver_parts {v : Ver} (h : verOk v = true) : 1 ≤ v.parts.length ∧ v.parts.length ≤ 4 ∧ (∀ n ∈ v.parts, 0 ≤ n ∧ n ≤ 999999) ∧ tailOk v.tail = true := by
  unfold verOk at h
  simp only [Bool.and_eq_true, decide_eq_true_eq, List.all_eq_true] at h
  exact ⟨h.1.1.1, h.1.1.2, fun n hn => h.1.2 n hn, h.2⟩
theorem tail_chars {t : ByteArray} (h : tailOk t = true) : ∀ x ∈ t.data.toList, lowc x = true := by
  unfold tailOk at h
  simp only [Bool.and_eq_true, decide_eq_true_eq, List.all_eq_true] at h
  exact h.1
theorem lowc_digit {x : UInt8} (h : 48 ≤ x.toNat ∧ x.toNat ≤ 57) : lowc x = true := by
  rw [lowc_iff]
  omega
theorem mem_join {x : UInt8} {sep : List UInt8} : ∀ {L : List (List UInt8)}, x ∈ Lib.join L sep → x ∈ sep ∨ ∃ l ∈ L, x ∈ l
  | [], h => by simp [Lib.join_nil] at h
  | [a], h => by rw [Lib.join_one] at h; exact .inr ⟨a, by simp, h⟩
  | a :: b :: r, h => by
    rw [join_cons2] at h
    rcases List.mem_append.1 h with h | h
    · exact .inr ⟨a, by simp, h⟩
    · rcases List.mem_append.1 h with h | h
      · exact .inl h
      · rcases mem_join h with h | ⟨l, h1, h2⟩
        · exact .inl h
        · exact .inr ⟨l, List.mem_cons_of_mem _ h1, h2⟩
theorem front_chars {v : Ver} (h : verOk v = true) : ∀ x ∈ Lib.join (v.parts.map Lib.itoa) [46], (48 ≤ x.toNat ∧ x.toNat ≤ 57) ∨ x = 46 := by
  intro x hx
  rcases mem_join hx with h1 | ⟨l, h1, h2⟩
  · exact .inr (by simpa using h1)
  · obtain ⟨n, hn, rfl⟩ := List.mem_map.1 h1
    have := (ver_parts h).2.2.1 n hn
    rw [itoa_dec this.1] at h2
    exact .inl (dec_chars _ x h2)
theorem ver_chars {v : Ver} (h : verOk v = true) : ∀ x ∈ verTold v, lowc x = true ∨ x = 46 ∨ x = 45 := by
  intro x hx
  unfold verTold at hx
  rcases List.mem_append.1 hx with hx | hx
  · rcases front_chars h x hx with h1 | h1
    · exact .inl (lowc_digit h1)
    · exact .inr (.inl h1)
  · split at hx
    · cases hx
    · rcases List.mem_cons.1 hx with h1 | h1
      · exact .inr (.inr h1)
      · exact .inl (tail_chars (ver_parts h).2.2.2 x h1)
theorem ver_head {v : Ver} (h : verOk v = true) : ∃ c r, verTold v = c :: r ∧ 48 ≤ c.toNat ∧ c.toNat ≤ 57 := by
  obtain ⟨h1, -, h2, -⟩ := ver_parts h
  cases e : v.parts with
  | nil => rw [e] at h1; simp at h1
  | cons p r =>
    have hp := h2 p (by rw [e]; simp)
    obtain ⟨c, t, hc⟩ := dec_head p.toNat
    have hcc := dec_chars p.toNat c (by rw [hc]; simp)
    have e2 : verTold v = c :: (t ++ Lib.joinTail [46] (r.map Lib.itoa) ++ (if v.tail.data.toList.isEmpty then [] else 45 :: v.tail.data.toList)) := by
      unfold verTold
      rw [e, List.map_cons, Lib.join_cons, itoa_dec hp.1, hc, List.cons_append, List.cons_append]
    exact ⟨c, _, e2, hcc⟩
theorem ver_told {v : Ver} (h : verOk v = true) : verParse (txt (verTold v)) = some v := by
  obtain ⟨h1, h2, h3, h4⟩ := ver_parts h
  have hf : (45 : UInt8) ∉ Lib.join (v.parts.map Lib.itoa) [46] := fun hx => by
    rcases front_chars h _ hx with e | e
    · exact absurd e (by decide)
    · cases e
  have hcut : Lib.cut (verTold v) [45] = (Lib.join (v.parts.map Lib.itoa) [46], v.tail.data.toList, !v.tail.data.toList.isEmpty) := by
    unfold verTold
    cases e : v.tail.data.toList with
    | nil => simp only [List.isEmpty_nil, if_true, List.append_nil]; exact cut_none hf
    | cons a b => exact cut_at (a :: b) hf
  have hpieces : mapO partOf (pieces (txt (Lib.join (v.parts.map Lib.itoa) [46])) ⟨#[46]⟩) = some v.parts := by
    rw [pieces_of_join (c := 46) (t := []) (by simp; intro e; rw [e] at h1; simp at h1) (fun x hx h46 => by
      obtain ⟨n, hn, rfl⟩ := List.mem_map.1 hx
      rw [itoa_dec (h3 n hn).1] at h46
      have := dec_chars _ _ h46
      exact absurd this (by decide)) _ rfl, List.map_map]
    exact mapO_told (fun n hn => part_told (h3 n hn).1 (h3 n hn).2)
  unfold verParse
  rw [txt_toList, hcut]
  simp only [hpieces, txt_data]
  rw [if_neg (by cases v.tail.data.toList <;> simp), if_pos h]
theorem ver_read {s : ByteArray} {v : Ver} (h : verParse s = some v) : verOk v = true ∧ verTold v = s.data.toList := by
  unfold verParse at h
  split at h
  · cases h
  · rename_i l hl
    split at h
    · cases h
    · rename_i h2
      split at h
      · rename_i h3
        cases h
        refine ⟨h3, ?_⟩
        have e := mapO_read (h := Lib.itoa) (k := fun p : ByteArray => p.data.toList) (fun a b e => part_read e) hl
        unfold verTold
        simp only
        rw [e]
        have e2 := pieces_join (txt (Lib.cut s.data.toList [45]).1) ⟨#[46]⟩ (by decide)
        rw [txt_toList] at e2
        have e3 : (ByteArray.mk #[46]).data.toList = [46] := rfl
        rw [e3] at e2
        rw [e2, txt_toList]
        cases hc : (Lib.cut s.data.toList [45]).2.2 with
        | false => rw [cut_no hc]; simp
        | true =>
          rw [hc, Bool.true_and, Bool.not_eq_true] at h2
          rw [h2]
          exact cut_yes (by simp) hc
      · cases h

/-! ### Needs -/
theorem name_chars {s : ByteArray} (h : nameOk s = true) : ∃ c r, s.data.toList = c :: r ∧ lowc c = true ∧ ∀ x ∈ s.data.toList, nextc x = true := by
  unfold nameOk at h
  split at h
  · cases h
  · rename_i c r e
    simp only [Bool.and_eq_true, List.all_eq_true] at h
    refine ⟨c, r, e, h.1.1, fun x hx => ?_⟩
    rw [e] at hx
    rcases List.mem_cons.1 hx with rfl | hx
    · simp [nextc, h.1.1]
    · exact h.1.2 x hx
theorem opAt_word {L : List UInt8} {op : Int} {m : Nat} (h : opAt L = some (op, m)) : 1 ≤ op ∧ op ≤ 6 ∧ (wordS op).data.toList = L.take m := by
  unfold opAt at h
  repeat' split at h
  all_goals first
    | cases h; done
    | (rename_i hp
       simp only [Option.some.injEq, Prod.mk.injEq] at h
       obtain ⟨rfl, rfl⟩ := h
       rw [List.isPrefixOf_iff_prefix, List.prefix_iff_eq_take] at hp
       refine ⟨by decide, by decide, ?_⟩
       first | exact hp | (rename_i hp _; exact hp))
theorem need_read {s : ByteArray} {n : Need} (h : needParse s = some n) : needTold n = s.data.toList := by
  unfold needParse at h
  split at h
  · split at h
    · cases h
      rfl
    · cases h
  · rename_i hk
    split at h
    · cases h
    · rename_i op m ho
      split at h
      · cases h
      · rename_i v hv
        split at h
        · cases h
          obtain ⟨h1, h2⟩ := ver_read hv
          obtain ⟨h3, h4, h5⟩ := opAt_word ho
          unfold needTold
          simp only
          rw [if_pos ⟨h3, h4⟩, if_pos h1, h2, h5, txt_toList, txt_toList, List.append_assoc]
          conv => rhs; rw [← List.take_append_drop (opFrom s).toNat s.data.toList]
          congr 1
          conv => rhs; rw [← List.take_append_drop m (s.data.toList.drop (opFrom s).toNat), List.drop_drop]
        · cases h
theorem need_parts {n : Need} (h : needOk n = true) : nameOk n.name = true ∧ (n.op = 0 ∧ n.ver = ver0 ∨ 1 ≤ n.op ∧ n.op ≤ 6 ∧ verOk n.ver = true) := by
  unfold needOk at h
  simp only [Bool.and_eq_true] at h
  refine ⟨h.1, ?_⟩
  have h2 := h.2
  split at h2
  · rename_i h0
    refine .inl ⟨h0, ?_⟩
    obtain ⟨nm, op, ⟨ps, tl⟩⟩ := n
    simp only [Bool.and_eq_true, List.isEmpty_iff] at h2
    obtain ⟨h3, h4⟩ := h2
    subst h3
    have : tl = ⟨#[]⟩ := by rw [← txt_data tl, h4]; rfl
    subst this
    rfl
  · simp only [Bool.and_eq_true, decide_eq_true_eq] at h2
    exact .inr ⟨h2.1.1, h2.1.2, h2.2⟩
theorem nextc_op {x : UInt8} (h : nextc x = true) : ([61, 60, 62, 33] : List UInt8).contains x = false := by
  cases e : ([61, 60, 62, 33] : List UInt8).contains x
  · rfl
  · rw [List.contains_iff_mem] at e
    simp only [List.mem_cons, List.not_mem_nil, or_false] at e
    rcases e with rfl | rfl | rfl | rfl <;> exact absurd h (by decide)
theorem noAny_name {s : ByteArray} (h : nameOk s = true) (z : List UInt8) : Lib.NoAny (s.data.toList ++ z) [61, 60, 62, 33] s.data.toList.length := by
  obtain ⟨c, r, -, -, hx⟩ := name_chars h
  intro j b hj hb
  rw [List.getElem?_append_left hj] at hb
  exact nextc_op (hx b (List.mem_of_getElem? hb))
theorem opAt_told {op : Int} {c : UInt8} {r : List UInt8} (h1 : 1 ≤ op) (h2 : op ≤ 6) (hc : 48 ≤ c.toNat ∧ c.toNat ≤ 57) : opAt ((wordS op).data.toList ++ c :: r) = some (op, (wordS op).data.toList.length) ∧ ∃ a t, (wordS op).data.toList = a :: t ∧ ([61, 60, 62, 33] : List UInt8).contains a = true := by
  have hne : ¬ (61 : UInt8) = c := fun e => by subst e; exact absurd hc (by decide)
  have ho : op = 1 ∨ op = 2 ∨ op = 3 ∨ op = 4 ∨ op = 5 ∨ op = 6 := by omega
  rcases ho with rfl | rfl | rfl | rfl | rfl | rfl
  all_goals refine ⟨?_, _, _, rfl, by decide⟩
  all_goals simp [opAt, wordS, List.isPrefixOf, hne]
theorem need_told {n : Need} (h : needOk n = true) : needParse (txt (needTold n)) = some n := by
  obtain ⟨hn, h1⟩ := need_parts h
  rcases h1 with ⟨h0, hv⟩ | ⟨h1, h2, hv⟩
  · obtain ⟨nm, op, ver⟩ := n
    simp only at h0 hv hn
    subst h0
    subst hv
    have e : needTold ⟨nm, 0, ver0⟩ = nm.data.toList := rfl
    have e2 : opFrom nm = -1 := by
      have h3 := noAny_name hn []
      rw [List.append_nil] at h3
      exact Lib.indexAny_none h3
    rw [e, txt_data]
    unfold needParse
    rw [e2, if_pos (by decide), if_pos hn]
  · obtain ⟨c, r, hc, hcc⟩ := ver_head hv
    obtain ⟨ho, a, t, hw, ha⟩ := opAt_told (r := r) h1 h2 hcc
    have e : needTold n = n.name.data.toList ++ ((wordS n.op).data.toList ++ verTold n.ver) := by
      unfold needTold
      rw [if_pos ⟨h1, h2⟩, if_pos hv, List.append_assoc]
    have e2 : opFrom (txt (needTold n)) = n.name.data.toList.length := by
      unfold opFrom
      rw [txt_toList, e]
      refine Lib.indexAny_hit (noAny_name hn _) ?_ ha
      rw [hw, List.getElem?_append_right (Nat.le_refl _), Nat.sub_self]
      rfl
    unfold needParse
    rw [e2, if_neg (by omega)]
    have e3 : ((n.name.data.toList.length : Nat) : Int).toNat = n.name.data.toList.length := by omega
    rw [e3, txt_toList, e, List.drop_left, hc, ho]
    simp only
    rw [← List.append_assoc, ← List.length_append, List.drop_left, ← hc, ver_told hv]
    simp only
    rw [List.append_assoc, List.take_left, txt_data, if_pos hn]

/-! ### Clauses -/
/-- The bytes of a need's text. -/
def plainc (x : UInt8) : Bool := nextc x || x == 46 || x == 60 || x == 61 || x == 62 || x == 33
theorem word_chars {op : Int} (h1 : 1 ≤ op) (h2 : op ≤ 6) : ∀ x ∈ (wordS op).data.toList, x ∈ ([60, 61, 62, 33] : List UInt8) := by
  have ho : op = 1 ∨ op = 2 ∨ op = 3 ∨ op = 4 ∨ op = 5 ∨ op = 6 := by omega
  rcases ho with rfl | rfl | rfl | rfl | rfl | rfl <;> decide
theorem need_chars {n : Need} (h : needOk n = true) : (∀ x ∈ needTold n, plainc x = true) ∧ ∃ c r, needTold n = c :: r ∧ lowc c = true := by
  obtain ⟨hn, h1⟩ := need_parts h
  obtain ⟨c, r, e, hc, hx⟩ := name_chars hn
  have hname : ∀ x ∈ n.name.data.toList, plainc x = true := fun x h => by simp [plainc, hx x h]
  unfold needTold
  split
  · rename_i ho
    refine ⟨fun x hx' => ?_, c, _, (by rw [e, List.cons_append, List.cons_append]), hc⟩
    rcases List.mem_append.1 hx' with hx' | hx'
    · rcases List.mem_append.1 hx' with hx' | hx'
      · exact hname x hx'
      · have hl := word_chars ho.1 ho.2 x hx'
        simp only [List.mem_cons, List.not_mem_nil, or_false] at hl
        rcases hl with rfl | rfl | rfl | rfl <;> decide
    · split at hx'
      · rename_i hv
        rcases ver_chars hv x hx' with h | rfl | rfl
        · simp [plainc, nextc, h]
        · decide
        · decide
      · cases hx'
  · exact ⟨hname, c, r, e, hc⟩
theorem clause_parts {c : Clause} (h : clauseOk c = true) : c.any ≠ [] ∧ ∀ n ∈ c.any, needOk n = true := by
  unfold clauseOk at h
  simp only [Bool.and_eq_true, decide_eq_true_eq, List.all_eq_true] at h
  refine ⟨fun e => ?_, h.2⟩
  rw [e] at h
  simp at h
theorem clause_body {c : Clause} (h : clauseOk c = true) : ∃ a r, Lib.join (c.any.map needTold) [124] = a :: r ∧ lowc a = true := by
  obtain ⟨h0, h1⟩ := clause_parts h
  cases e : c.any with
  | nil => exact absurd e h0
  | cons n l =>
    obtain ⟨-, a, r, e2, ha⟩ := need_chars (h1 n (by rw [e]; simp))
    exact ⟨a, _, by rw [List.map_cons, Lib.join_cons, e2, List.cons_append], ha⟩
theorem clause_told {c : Clause} (h : clauseOk c = true) : clauseParse (txt (clauseTold c)) = some c := by
  obtain ⟨h0, h1⟩ := clause_parts h
  obtain ⟨a, r, hb, ha⟩ := clause_body h
  have hne : ¬ (33 : UInt8) = a := fun e => by subst e; exact absurd ha (by decide)
  have hp : Lib.hasPrefix (clauseTold c) [33] = c.neg ∧ Lib.trimPrefix (clauseTold c) [33] = Lib.join (c.any.map needTold) [124] := by
    unfold clauseTold Lib.trimPrefix Lib.hasPrefix
    cases c.neg
    · simp [hb, List.isPrefixOf, hne]
    · simp [List.isPrefixOf]
  have hm : mapO needParse (pieces (txt (Lib.join (c.any.map needTold) [124])) ⟨#[124]⟩) = some c.any := by
    rw [pieces_of_join (c := 124) (t := []) (by simpa using h0) (fun x hx h2 => by
      obtain ⟨n, hn, rfl⟩ := List.mem_map.1 hx
      exact absurd ((need_chars (h1 n hn)).1 _ h2) (by decide)) _ rfl, List.map_map]
    exact mapO_told (fun n hn => need_told (h1 n hn))
  unfold clauseParse
  rw [txt_toList, hp.1, hp.2]
  simp only [hm]
theorem clause_read {s : ByteArray} {c : Clause} (h : clauseParse s = some c) : clauseTold c = s.data.toList := by
  unfold clauseParse at h
  split at h
  · cases h
  · rename_i l hl
    cases h
    have e := mapO_read (h := needTold) (k := fun p : ByteArray => p.data.toList) (fun a b e => need_read e) hl
    have e2 := pieces_join (txt (Lib.trimPrefix s.data.toList [33])) ⟨#[124]⟩ (by decide)
    have e3 : (ByteArray.mk #[124]).data.toList = [124] := rfl
    rw [e3, txt_toList] at e2
    unfold clauseTold
    simp only
    rw [e, e2]
    unfold Lib.trimPrefix
    split
    · rename_i hh
      unfold Lib.hasPrefix at hh
      rw [List.isPrefixOf_iff_prefix] at hh
      obtain ⟨t, ht⟩ := hh
      rw [← ht]
      rfl
    · rfl
theorem clauses_told {l : List Clause} (h : clausesOk l = true) : clausesParse (txt (clausesTold l)) = some l := by
  have h2 := h
  unfold clausesOk at h
  simp only [Bool.and_eq_true, decide_eq_true_eq, List.all_eq_true] at h
  unfold clausesTold
  rw [if_pos h2]
  cases e : l with
  | nil => rfl
  | cons c r =>
    rw [← e]
    have hh : ∃ a t, Lib.join (l.map clauseTold) [44, 32] = a :: t := by
      rw [e, List.map_cons, Lib.join_cons]
      obtain ⟨a, r, hb, -⟩ := clause_body (h.2 c (by rw [e]; simp))
      unfold clauseTold
      split
      · exact ⟨_, _, by rw [List.cons_append]⟩
      · rw [hb]; exact ⟨_, _, by rw [List.cons_append]⟩
    obtain ⟨a, t, hh⟩ := hh
    have hm : mapO clauseParse (pieces (txt (Lib.join (l.map clauseTold) [44, 32])) ⟨#[44, 32]⟩) = some l := by
      rw [pieces_of_join (c := 44) (t := [32]) (by rw [e]; simp) (fun x hx h2 => by
        obtain ⟨c, hc, rfl⟩ := List.mem_map.1 hx
        obtain ⟨-, h1⟩ := clause_parts (h.2 c hc)
        have : (44 : UInt8) ∈ Lib.join (c.any.map needTold) [124] := by
          unfold clauseTold at h2
          split at h2
          · rcases List.mem_cons.1 h2 with h2 | h2
            · exact absurd h2 (by decide)
            · exact h2
          · exact h2
        rcases mem_join this with h3 | ⟨y, h3, h4⟩
        · exact absurd h3 (by decide)
        · obtain ⟨n, hn, rfl⟩ := List.mem_map.1 h3
          exact absurd ((need_chars (h1 n hn)).1 _ h4) (by decide)) _ rfl, List.map_map]
      exact mapO_told (fun c hc => clause_told (h.2 c hc))
    unfold clausesParse
    rw [hm, txt_toList, hh]
    simp only [List.isEmpty_cons]
    rw [if_neg (by decide), if_pos h2]
theorem clauses_read {s : ByteArray} {l : List Clause} (h : clausesParse s = some l) : clausesOk l = true ∧ txt (clausesTold l) = s := by
  unfold clausesParse at h
  split at h
  · rename_i h0
    cases h
    refine ⟨rfl, ?_⟩
    rw [List.isEmpty_iff] at h0
    rw [← txt_data s, h0]
    rfl
  · split at h
    · cases h
    · rename_i m hm
      split at h
      · rename_i hok
        cases h
        refine ⟨hok, ?_⟩
        have e := mapO_read (h := clauseTold) (k := fun p : ByteArray => p.data.toList) (fun a b e => clause_read e) hm
        have e2 := pieces_join s ⟨#[44, 32]⟩ (by decide)
        have e3 : (ByteArray.mk #[44, 32]).data.toList = [44, 32] := rfl
        rw [e3] at e2
        unfold clausesTold
        rw [if_pos hok, e, e2, txt_data]
      · cases h

end Go.Proofs.YtppbjmhllmaakaaGreatDoor
