/- Contract: the search itself, run$1. -/
import Derived.Test.YtppbjmhllmaakaaGreatDoorC43
import Derived.WalkMore
import Derived.Deep.LoopGhost
import Derived.Deep.DeepCutAuto
import Derived.StillTailTactics
set_option linter.unusedVariables false
namespace Go.Proofs.YtppbjmhllmaakaaGreatDoor
open Go.RowKit

theorem idxA (a b : Bool) (w : World) : (Instr.index 117 (.agg #[.bool a, .bool b]) (.int .i64 0)).run Tryz.prog w = .ok (.bool a) w := by
  simp [Instr.index, run_underlying Tryz.underlying117, asIntOf, part, sizeOf, go_sem, show Tryz.t4.size = 1 from rfl]
theorem idxB (a b : Bool) (w : World) : (Instr.index 117 (.agg #[.bool a, .bool b]) (.int .i64 1)).run Tryz.prog w = .ok (.bool b) w := by
  simp [Instr.index, run_underlying Tryz.underlying117, asIntOf, part, sizeOf, go_sem, show Tryz.t4.size = 1 from rfl]
theorem idxN (d : Bool) (i0 : Nat) (h : i0 < 2) (w : World) : (Instr.index 117 (.agg #[.bool d, .bool (!d)]) (.int .i64 (i0 : Int))).run Tryz.prog w = .ok (.bool (flagAt d i0)) w := by
  match i0, h with
  | 0, _ => exact idxA d (!d) w
  | 1, _ => exact idxB d (!d) w
theorem arr_int1 {w : World} {S : Nat → Prop} {b : Nat} {x : Int} (hS : S b) (hx : In64 x) (h0 : w.cell? ⟨b, 0, none⟩ = some (.int .i64 x)) : Arr w S (some ⟨b, 0, none⟩) [x] := by
  refine ⟨by change 1 * 8 ≤ _; unfold reach; omega, by simp, fun _ => ⟨b, 0, rfl, hS, fun i y hi => ?_⟩⟩
  match i, hi with
  | 0, hi =>
    cases hi
    refine ⟨[.int .i64 x], ⟨rfl, hx⟩, fun j v hj => ?_⟩
    match j, hj with
    | 0, hj => cases hj; exact h0
/-- What is in has grown, and is stored. -/
theorem Srch.grow2 {w w' : World} {h0 h1 : Nat} {e : TypeId} {bs : Nat} {k : Work} {steps : Int} {v v' : Value} {l l' : List Int} (h : Srch w h0 h1 e bs k steps v l) (hb : Below h1 w w') (ho : Own w' h1 e (fun _ => False) v' l') : Srch (w'.setCell ⟨bs, 5, none⟩ v') h0 h1 e bs k steps v' l' := by
  have hc : ∀ j, w'.cell? ⟨bs, j, none⟩ = w.cell? ⟨bs, j, none⟩ := fun j => World.cell?_of_block (hb.block bs h.hi)
  have hf : ∀ j, w'.frozen? ⟨bs, j, none⟩ = w.frozen? ⟨bs, j, none⟩ := fun j => World.frozen?_of_block (hb.block bs h.hi)
  have hcc : ∀ j, j ≠ 5 → (w'.setCell ⟨bs, 5, none⟩ v').cell? ⟨bs, j, none⟩ = w.cell? ⟨bs, j, none⟩ := fun j hj => (World.cell?_setCell_other _ _ _ _ (by intro e; apply hj; injection e with e1 e2; exact e2.symm)).trans (hc j)
  have ar : ∀ b', b' < h0 → b' < w.heap.size → b' < h0 ∧ (w'.setCell ⟨bs, 5, none⟩ v').heap[b']? = w.heap[b']? := fun b' hb' hlt => ⟨hb', (Below.heap_setCell w' _ _ b' (by have := h.lo; simp only; omega)).trans (hb.block b' (by have := h.lo; have := h.hi; omega))⟩
  exact ⟨h.lo, h.hi, by simpa using Nat.le_trans h.le hb.size, (hcc 0 (by omega)).trans h.c0, (hcc 1 (by omega)).trans h.c1, (hcc 2 (by omega)).trans h.c2, (hcc 3 (by omega)).trans h.c3, (hcc 4 (by omega)).trans h.c4, World.cell?_setCell_same' _ _ _ (by rw [hc 5, h.c5]; rfl), by simpa using (hf 4).trans h.f4, by simpa using (hf 5).trans h.f5, ho.set _ _ h.hi (fun b h => h.elim), h.ac.keep ar, h.ah.keep ar, h.aw.keep ar⟩
/-- One is found: the steps and the word are stored. -/
theorem RunAt.hit {w : World} {h0 h1 bs sb fb gb : Nat} {k : Work} {s : Int} {f : Bool} {v : Value} {l : List Int} (h : RunAt w h0 h1 bs sb fb gb k s f v l) (s' : Int) :
    RunAt ((w.setCell ⟨bs, 4, none⟩ (.int .i64 s')).setCell ⟨fb, 0, none⟩ (.bool true)) h0 h1 bs sb fb gb k s' true v l := by
  have hc : ∀ b, b ≠ bs → b ≠ fb → ((w.setCell ⟨bs, 4, none⟩ (.int .i64 s')).setCell ⟨fb, 0, none⟩ (.bool true)).heap[b]? = w.heap[b]? := fun b h1 h2 => (Below.heap_setCell _ _ _ b h2).trans (Below.heap_setCell _ _ _ b h1)
  have h2 : ((w.setCell ⟨bs, 4, none⟩ (.int .i64 s'))).cell? ⟨fb, 0, none⟩ = some (.bool f) := (World.cell?_of_block (Below.heap_setCell w _ _ fb h.nf)).trans h.f0
  exact { h with
    st := (h.st.tick s').box (.bool true) h.fl h.fh h.nf
    s0 := (World.cell?_of_block (hc sb h.ns (fun e => h.nfs e.symm))).trans h.s0
    f0 := World.cell?_setCell_same' _ _ _ (by rw [h2]; rfl)
    ff := by simpa using h.ff
    g0 := (World.cell?_of_block (hc gb h.ng (fun e => h.nfg e.symm))).trans h.g0 }

set_option maxHeartbeats 0 in
set_option maxRecDepth 100000 in
theorem run1_any (h0 h1 bs sb fb gb : Nat) (k : Work) (hp : planOk k.cat = true) (hn : k.cat.length ≤ 1000000000) (hx : k.budget ≤ 1048576) :
    ∀ (m : Nat) (x : Int) (p : Nat) (S : List Int) (s : Int) (v : Value) (w : World), x = p → p + m = k.cat.length → Up p 0 S → 0 ≤ s → s < k.budget → RunAt w h0 h1 bs sb fb gb k s false v S →
    Calls Tryz.prog 100 #[.int .i64 x, .pointer (some ⟨sb, 0, none⟩), .pointer (some ⟨fb, 0, none⟩), .pointer (some ⟨gb, 0, none⟩)] w fun e w' =>
      e = .returned (.bool (runS (good k.cat k.want) k.hv k.cat.length m k.budget s S).on) ∧ Below h0 w w' ∧ ∃ v' l', RunAt w' h0 h1 bs sb fb gb k (runS (good k.cat k.want) k.hv k.cat.length m k.budget s S).steps (runS (good k.cat k.want) k.hv k.cat.length m k.budget s S).found v' l' ∧
        (((runS (good k.cat k.want) k.hv k.cat.length m k.budget s S).on = true ∨ (runS (good k.cat k.want) k.hv k.cat.length m k.budget s S).found = true) → l' = (runS (good k.cat k.want) k.hv k.cat.length m k.budget s S).ins) := by
  intro m
  induction m using Nat.strongRecOn with
  | _ m ih =>
  intro x p S s v w hxp hpm hup hs0 hsb hR
  subst hxp
  have hup' : Up k.cat.length 0 S := ⟨hup.1, fun y hy => by have := hup.2 y hy; omega⟩
  have c0 := hR.st.c0
  have c4 := hR.st.c4
  have s0 := hR.s0
  have f0 := hR.f0
  have g0 := hR.g0
  have zb := hR.st.lt
  have hlo := hR.st.lo
  have hle := hR.st.le
  have hcl := hR.st.ac.len
  have hsl := World.block_lt_of_cell? w ⟨sb, 0, none⟩ s0
  cases hh : hopeS k.cat S k.want p
  case true =>
    have hseek : seek (good k.cat k.want) k.hv k.cat.length m S = none := by
      have := seek_hope (hv := k.hv) hp (show p ≤ k.cat.length by omega) hup hh
      rw [show k.cat.length - p = m by omega] at this
      exact this
    have hrun := Lib.hid (runS_none (budget := k.budget) (s := s) hseek)
    have Hh := Lib.hid hh
    generalize runS (good k.cat k.want) k.hv k.cat.length m k.budget s S = X at *
    clear hseek hh ih
    go_enter Tryz.func100, Tryz.ntmps100
    go_wp2
    go_step3
    go_wp2_with fail
    refine (hopeless_any h0 h1 bs k s v S _ p hR.st hup' (by omega)).mono ?_
    rintro e w1 ⟨rfl, hw1⟩
    rw [Hh.out]
    replace hR := hR.below hw1
    have hB1 : Below h0 w w1 := hw1.mono (by omega)
    clear c0 c4 s0 f0 g0 zb hsl
    have c0 := hR.st.c0
    have s0 := hR.s0
    have hwm : IntKind.i64.wrap ((k.cat.length : Int) - (p : Int)) = (m : Int) := by rw [show (k.cat.length : Int) - (p : Int) = (m : Int) by omega]; exact IntWalk.i64_in _ (by omega)
    go_wp2
    go_region_with (go_at_call 102; refine (skip_any m h0 h1 bs k s v S _ (by omega) (by first | exact hR.st.below ((Below.refl _ _).drew) | exact hR.st) hs0 hsb hx).mono ?_; rintro e w2 ⟨rfl, hB2, hS2, hk2⟩)
    all_goals
      go_simp
      go_wp2
      try rw [Exit.noGoto_ret]
      go_ret
      refine ⟨by rw [hrun.out]; rfl, hB1.trans (((Below.refl h0 w1).drew).trans hB2), v, S, by rw [hrun.out]; exact hR.part hS2 (fun b hb hne => hk2 b (Nat.lt_of_lt_of_le hb hR.st.le) hne), ?_⟩
      rw [hrun.out]
      rintro (h | h)
      · have h' : goOn m k.budget s = true := h
        simp [h']
      · cases h
  case false =>
    have Hh := Lib.hid hh
    by_cases hm0 : m = 0
    · subst hm0
      have hpn : p = k.cat.length := by omega
      have hgood : good k.cat k.want S = true := by
        have := hope_end (want := k.want) hp (tgt_up.2 (hpn ▸ hup))
        rw [← hpn, hh] at this
        simpa using this.symm
      have hrun := Lib.hid (runS_leaf (f := good k.cat k.want) (hv := k.hv) (n := k.cat.length) hgood hsb)
      generalize runS (good k.cat k.want) k.hv k.cat.length 0 k.budget s S = X at *
      clear hgood hh ih
      subst hpn
      clear hpm
      go_enter Tryz.func100, Tryz.ntmps100
      go_wp2
      go_step3
      go_wp2_with fail
      refine (hopeless_any h0 h1 bs k s v S _ k.cat.length hR.st hup' (Nat.le_refl _)).mono ?_
      rintro e w1 ⟨rfl, hw1⟩
      rw [Hh.out]
      replace hR := hR.below hw1
      have hB1 : Below h0 w w1 := hw1.mono (by omega)
      clear c0 c4 s0 f0 g0 zb hsl
      have c0 := hR.st.c0
      have c4 := hR.st.c4
      have f4 := hR.st.f4
      have s0 := hR.s0
      have f0 := hR.f0
      have ff := hR.ff
      have nf := hR.nf
      have nf2 : ¬ bs = fb := fun e => nf e.symm
      have nfs := hR.nfs
      have nfs2 : ¬ sb = fb := fun e => nfs e.symm
      have ns := hR.ns
      have hz : IntKind.i64.wrap (s + 1) = s + 1 := IntWalk.i64_in _ (by omega)
      go_wp2
      rw [Exit.noGoto_ret]
      go_ret
      exact ⟨by rw [hrun.out]; rfl, (hB1.setCell hlo _).setCell hR.fl _, v, S, by rw [hrun.out]; exact hR.hit (s + 1), fun _ => by rw [hrun.out]⟩
    · -- THE WAYS
      obtain ⟨m', rfl⟩ : ∃ m', m = m' + 1 := ⟨m - 1, by omega⟩
      have hpl : p < k.cat.length := by omega
      have hpl' : ¬ (p : Int) = k.cat.length := by omega
      have hTodo := Lib.hid (todo_start (f := good k.cat k.want) (hv := k.hv) (n := k.cat.length) (m := m') (S := S) hs0 hsb)
      rw [show k.cat.length - (m' + 1) = p by omega] at hTodo
      generalize runS (good k.cat k.want) k.hv k.cat.length (m' + 1) k.budget s S = X at *
      have hp64 : In64 (p : Int) := ⟨by omega, by omega⟩
      have hSl : S.length ≤ k.cat.length := tgt_len (tgt_up.2 hup')
      have hby := hR.st.ac.1
      have qb : (S.length + [(p : Int)].length) * Cd.bytes Int ≤ 140737488355328 := by
        change (S.length + 1) * 8 ≤ _
        change _ * 104 ≤ _ at hby
        unfold reach at hby
        omega
      have ql : S.length + [(p : Int)].length ≤ 9223372036854775807 := by change S.length + 1 ≤ _; omega
      have hwp : IntKind.i64.wrap ((p : Int) + 1) = (p : Int) + 1 := IntWalk.i64_in _ (by omega)
      clear hh
      have eg := entersR1
      have ia := idxA
      have ib := idxB
      go_enter Tryz.func100, Tryz.ntmps100
      go_wp2
      go_step3
      go_wp2_with fail
      refine (hopeless_any h0 h1 bs k s v S _ p hR.st hup' (by omega)).mono ?_
      rintro e w1 ⟨rfl, hw1⟩
      rw [Hh.out]
      replace hR := hR.below hw1
      have hB1 : Below h0 w w1 := hw1.mono (by omega)
      clear c0 c4 s0 f0 g0 zb hsl
      have c0 := hR.st.c0
      have c1 := hR.st.c1
      have s0 := hR.s0
      go_wp2_with fail
      refine (conI_any k.hv p k.B k.cb _ _ hR.st.ah).mono ?_
      rintro e w2 ⟨rfl, hw2⟩
      have hw2' := hw2.symm
      clear hw2
      subst hw2'
      clear c0 c1 s0
      generalize decide ((p : Int) ∈ k.hv) = d at *
      go_wp2
      go_step3
      go_wp2
      go_loopw [45] (fun i wr => Below h0 w1 wr ∧ ∃ j i0 : Nat, i = .int .i64 i0 ∧ i0 + j = 2 ∧ ∃ si v', RunAt wr h0 h1 bs sb fb gb k si false v' S ∧ Hid (Todo (runS (good k.cat k.want) k.hv k.cat.length m' k.budget) d p m' k.budget S X j i0 si)) (fun i _ => 2 - (intOf i).toNat)
      case atStart => exact ⟨Below.refl _ _, 2, 0, rfl, rfl, s, v, hR, hTodo⟩
      case round =>
        obtain ⟨hb, j, i0, rfl, hij, si, v', hR2, hT⟩ := hrel
        clear hTodo
        rcases j with _ | j
        · obtain rfl : i0 = 2 := by omega
          obtain ⟨t1, t2, t3, t4⟩ := hT.out
          have T1 := Lib.hid t1
          have T2 := Lib.hid t2
          have T3 := Lib.hid t3
          have T4 := Lib.hid t4
          clear t1 t2 t3 t4 hT
          go_wp2
          try rw [Exit.noGoto_ret]
          go_ret
          exact ⟨ret_bool T1.out.symm, hB1.trans hb, v', S, by rw [T2.out, T3.out]; exact hR2, fun _ => T4.out.symm⟩
        · cases hfl : flagAt d i0
          · --F
            have hfl2 := hfl
            have hT2 := hT.out
            unfold Todo at hT2
            rw [hfl] at hT2
            obtain ⟨⟨hsi0, hsib⟩, hoff0, hon0⟩ := hT2
            have hoff : (runS (good k.cat k.want) k.hv k.cat.length m' k.budget si S).on = false → SameR X (runS (good k.cat k.want) k.hv k.cat.length m' k.budget si S) := hoff0
            have hon : (runS (good k.cat k.want) k.hv k.cat.length m' k.budget si S).on = true → runS (good k.cat k.want) k.hv k.cat.length m' k.budget si S = ⟨true, false, si + ((2 ^ m' : Nat) : Int), S⟩ ∧ Todo (runS (good k.cat k.want) k.hv k.cat.length m' k.budget) d p m' k.budget S X j (i0 + 1) (si + ((2 ^ m' : Nat) : Int)) := hon0
            clear hoff0 hon0
            have Hoff := Lib.hid hoff
            have Hon := Lib.hid hon
            have hix : ∀ W : World, (Instr.index 117 (.agg #[.bool d, .bool (!d)]) (.int .i64 (i0 : Int))).run Tryz.prog W = .ok (.bool false) W := fun W => (idxN d i0 (by omega) W).trans (by rw [hfl])
            have hi2 : (i0 : Int) < 2 := by omega
            have hi64 : IntKind.i64.wrap ((i0 : Int) + 1) = (i0 : Int) + 1 := IntWalk.i64_in _ (by omega)
            clear hoff hon hT hfl hfl2
            have g0 := hR2.g0
            have s0 := hR2.s0
            have zsb := World.block_lt_of_cell? wr ⟨sb, 0, none⟩ s0
            have zgb := World.block_lt_of_cell? wr ⟨gb, 0, none⟩ g0
            have zbs := hR2.st.lt
            have hle2 := hR2.st.le
            have hhi2 := hR2.st.hi
            have hBc := hb
            go_wp2_with fail
            refine (ih m' (by omega) ((p : Int) + 1) (p + 1) S si v' wr (by omega) (by omega) hup.more hsi0 hsib hR2).mono ?_
            rintro e w5 ⟨rfl, hB5, v5, l5, hR5, hl5⟩
            cases hon : (runS (good k.cat k.want) k.hv k.cat.length m' k.budget si S).on
            · have sm := Lib.hid (Hoff.out hon)
              have Ho := Lib.hid hon
              clear hon
              try rw [Ho.out]
              go_wp2
              try rw [Exit.noGoto_ret]
              go_ret
              exact ⟨ret_bool sm.out.on.symm, hB1.trans (hBc.trans hB5), v5, l5, by rw [sm.out.steps, sm.out.found]; exact hR5, fun h => by
                rcases h with h | h
                · rw [sm.out.on] at h; cases h
                · rw [hl5 (Or.inr (sm.out.found ▸ h))]; exact (sm.out.ins h).symm⟩
            · have nx := Lib.hid (Hon.out hon)
              have hl := hl5 (Or.inl hon)
              have Ho := Lib.hid hon
              clear hon
              try rw [Ho.out]
              rw [nx.out.1] at hR5 hl
              have hl' : l5 = S := hl
              subst hl'
              go_wp2
              go_roundw
              case rel => exact ⟨hBc.trans hB5, j, i0 + 1, by go_num, by omega, _, v5, hR5, Lib.hid nx.out.2⟩
              case measure => simp [intOf]; omega
          · --T
            have hfl2 := hfl
            have hT2 := hT.out
            unfold Todo at hT2
            rw [hfl] at hT2
            obtain ⟨⟨hsi0, hsib⟩, hoff0, hon0⟩ := hT2
            have hoff : (runS (good k.cat k.want) k.hv k.cat.length m' k.budget si (S ++ [(p : Int)])).on = false → SameR X (runS (good k.cat k.want) k.hv k.cat.length m' k.budget si (S ++ [(p : Int)])) := hoff0
            have hon : (runS (good k.cat k.want) k.hv k.cat.length m' k.budget si (S ++ [(p : Int)])).on = true → runS (good k.cat k.want) k.hv k.cat.length m' k.budget si (S ++ [(p : Int)]) = ⟨true, false, si + ((2 ^ m' : Nat) : Int), (S ++ [(p : Int)])⟩ ∧ Todo (runS (good k.cat k.want) k.hv k.cat.length m' k.budget) d p m' k.budget S X j (i0 + 1) (si + ((2 ^ m' : Nat) : Int)) := hon0
            clear hoff0 hon0
            have Hoff := Lib.hid hoff
            have Hon := Lib.hid hon
            have hix : ∀ W : World, (Instr.index 117 (.agg #[.bool d, .bool (!d)]) (.int .i64 (i0 : Int))).run Tryz.prog W = .ok (.bool true) W := fun W => (idxN d i0 (by omega) W).trans (by rw [hfl])
            have hi2 : (i0 : Int) < 2 := by omega
            have hi64 : IntKind.i64.wrap ((i0 : Int) + 1) = (i0 : Int) + 1 := IntWalk.i64_in _ (by omega)
            clear hoff hon hT hfl hfl2
            have g0 := hR2.g0
            have s0 := hR2.s0
            have zsb := World.block_lt_of_cell? wr ⟨sb, 0, none⟩ s0
            have zgb := World.block_lt_of_cell? wr ⟨gb, 0, none⟩ g0
            have zbs := hR2.st.lt
            have hle2 := hR2.st.le
            have hhi2 := hR2.st.hi
            have hown := hR2.st.own
            obtain ⟨A5, c5, rfl⟩ := hown.form
            have q5 := hR2.st.c5
            have r5 := hR2.st.f5
            go_upto_region 14 with fail
            go_cut [] (fun wx => Below h0 w1 wx ∧ ∃ v9, RunAt wx h0 h1 bs sb fb gb k si false v9 (S ++ [(p : Int)]))
            case first =>
              go_region_law (refine step_own_flat rfl (.tmp 59) (.tmp 61) 23 rfl h1 3 elInt (fun _ => False) (fun _ => True) _ S rfl (hown.below (by (repeat (first | exact Below.refl _ _ | assumption | (refine Below.setCell ?_ (by first | omega | (simp; done) | (simp; omega) | exact Below.size (by assumption)) _) | (refine Below.alloc ?_ (by first | omega | (simp; done) | (simp; omega) | exact Below.size (by assumption)) _) | refine Below.drew ?_ | refine Below.trans0 ?_ (by assumption))))) _ 1 [(p : Int)] rfl (arr_int1 trivial hp64 (by first | assumption | (simp; done))) qb ql (by first | exact hle2 | (simp; omega)) ?_; intro v9 w9 hown9 hg9 hl9; have hb9 : Below h1 wr w9 := Below.grown (by (repeat (first | exact Below.refl _ _ | assumption | (refine Below.setCell ?_ (by first | omega | (simp; done) | (simp; omega) | exact Below.size (by assumption)) _) | (refine Below.alloc ?_ (by first | omega | (simp; done) | (simp; omega) | exact Below.size (by assumption)) _) | refine Below.drew ?_ | refine Below.trans0 ?_ (by assumption)))) hg9 (by first | exact hle2 | (simp; omega)) (fun b e => (hown.block_ge b e).1); have e5 := (World.cell?_of_block (a := ⟨bs, 5, none⟩) (hb9.block bs hhi2)).trans q5; have e6 := (World.frozen?_of_block (a := ⟨bs, 5, none⟩) (hb9.block bs hhi2)).trans r5; have e7 := (World.cell?_of_block (a := ⟨sb, 0, none⟩) (hb9.block sb hR2.sh)).trans s0; obtain ⟨A9, n9, c9, rfl, hn9⟩ := hown9.form2)
              all_goals
                have hRx : RunAt (w9.setCell ⟨bs, 5, none⟩ (.slice A9 n9 c9)) h0 h1 bs sb fb gb k si false (.slice A9 n9 c9) (S ++ [(p : Int)]) := hR2.part (hR2.st.grow2 hb9 hown9) (fun b hb hne => (Below.heap_setCell w9 _ _ b hne).trans (hb9.block b hb))
                have hBc : Below h0 w1 (w9.setCell ⟨bs, 5, none⟩ (.slice A9 n9 c9)) := hb.trans ((hb9.mono (by omega)).setCell hlo _)
                clear hix Hon Hoff ih
                go_wp2
                go_meet
                case rel => exact ⟨by first | exact hBc | exact hBc.drew, _, by first | exact hRx | exact hRx.below ((Below.refl _ _).drew)⟩
            case rest =>
              obtain ⟨hBc, v9, hRx⟩ := hcut
              clear g0 s0 q5 r5 hown zsb zgb zbs
              have g0 := hRx.g0
              have s0 := hRx.s0
              have zsb := World.block_lt_of_cell? wc ⟨sb, 0, none⟩ s0
              have zgb := World.block_lt_of_cell? wc ⟨gb, 0, none⟩ g0
              go_wp2_with fail
              refine (ih m' (by omega) ((p : Int) + 1) (p + 1) (S ++ [(p : Int)]) si v9 _ (by omega) (by omega) (hup.snoc (Nat.lt_succ_self p)) hsi0 hsib hRx).mono ?_
              rintro e w5 ⟨rfl, hB5, v5, l5, hR5, hl5⟩
              cases hon : (runS (good k.cat k.want) k.hv k.cat.length m' k.budget si (S ++ [(p : Int)])).on
              · have sm := Lib.hid (Hoff.out hon)
                have Ho := Lib.hid hon
                clear hon
                try rw [Ho.out]
                go_wp2
                try rw [Exit.noGoto_ret]
                go_ret
                exact ⟨ret_bool sm.out.on.symm, hB1.trans (hBc.trans hB5), v5, l5, by rw [sm.out.steps, sm.out.found]; exact hR5, fun h => by
                  rcases h with h | h
                  · rw [sm.out.on] at h; cases h
                  · rw [hl5 (Or.inr (sm.out.found ▸ h))]; exact (sm.out.ins h).symm⟩
              · have nx := Lib.hid (Hon.out hon)
                have hl := hl5 (Or.inl hon)
                have Ho := Lib.hid hon
                clear hon
                try rw [Ho.out]
                rw [nx.out.1] at hR5 hl
                have hl' : l5 = S ++ [(p : Int)] := hl
                subst hl'
                have hR6 : RunAt w5 h0 h1 bs sb fb gb k (si + ((2 ^ m' : Nat) : Int)) false v5 (S ++ [(p : Int)]) := hR5
                clear hR5 hRx g0 s0 zsb zgb
                have hown5 := hR6.st.own
                obtain ⟨g, cap, rfl, hcap⟩ : ∃ g cap, v5 = .slice (some ⟨g, 0, none⟩) (S.length + 1) cap ∧ S.length + 1 ≤ cap := by
                  rcases own_form3 hown5 with rfl | ⟨g, cap, rfl, hc⟩
                  · obtain ⟨A7, cap7, h7⟩ := hown5.form
                    have : (S ++ [(p : Int)]).length = 0 := by injection h7 with _ h8 _; exact h8.symm
                    simp at this
                  · exact ⟨g, cap, by simp, by simpa using hc⟩
                have q5 := hR6.st.c5
                have r5 := hR6.st.f5
                have s0 := hR6.s0
                have zsb := World.block_lt_of_cell? w5 ⟨sb, 0, none⟩ s0
                have zbs := hR6.st.lt
                have a1 : IntKind.i64.wrap (S.length : Int) = (S.length : Int) := IntWalk.i64_in _ (by omega)
                have a2 : IntKind.i64.wrap ((S.length : Int) + 1 - 1) = (S.length : Int) := by rw [Int.add_sub_cancel]; exact a1
                have a3 : (S.length : Int) ≤ cap := by omega
                have a4 : S.length ≤ cap := by omega
                clear Hon Hoff ih hix
                go_wp2
                go_still_tail 12, (by kernel_rfl)
                change wpList _ _ _ _ _ w5.drew
                have hR7 := hR6.below ((Below.refl _ w5).drew)
                have hB7 : Below h0 wc w5.drew := hB5.drew
                clear q5 r5 s0 zsb zbs hR6 hown5
                generalize w5.drew = w7 at *
                have q5 := hR7.st.c5
                have r5 := hR7.st.f5
                have zbs := hR7.st.lt
                have hown7 := hR7.st.own
                have hRy : RunAt (w7.setCell ⟨bs, 5, none⟩ (.slice (some ⟨g, 0, none⟩) S.length cap)) h0 h1 bs sb fb gb k (si + ((2 ^ m' : Nat) : Int)) false (.slice (some ⟨g, 0, none⟩) S.length cap) S := hR7.part (hR7.st.put (by have := hown7.cut (m := S.length) (by simp); simpa using this)) (fun b hb hne => Below.heap_setCell w7 _ _ b hne)
                go_wp2
                go_roundw
                case rel => exact ⟨hBc.trans (hB7.setCell hlo _), j, i0 + 1, by go_num, by omega, _, _, hRy, Lib.hid nx.out.2⟩
                case measure => simp [intOf]; omega

end Go.Proofs.YtppbjmhllmaakaaGreatDoor
