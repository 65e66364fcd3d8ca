/- A disk beside blocks of the call's own; layer 7's small functions over it, walked. -/
import Derived.Test.YtjobmlnekpaagaaDoorVo
namespace Go.Proofs.YtjobmlnekpaagaaDoor
open Go Go.RowKit Go.Maps
set_option linter.unusedVariables false

/-- Since w0: a disk d lies at b in new blocks; new blocks L, apart from it, hold what they hold; all that was there in w0 is as it was. -/
def Sep (w0 w : World) (b : Nat) (d : Dk) (L : List (Nat × Obj)) : Prop :=
  ∃ s m v, DiskAt w b s m v d ∧ (∀ k, Feet b s m v k → w0.heap.size ≤ k ∧ ∀ x ∈ L, x.1 ≠ k) ∧ (∀ x ∈ L, w0.heap.size ≤ x.1 ∧ w.heap[x.1]? = some x.2) ∧ Kept (fun _ => False) w0 w
theorem Sep.kept {w0 w : World} {b : Nat} {d : Dk} {L : List (Nat × Obj)} (h : Sep w0 w b d L) : Kept (fun _ => False) w0 w := by
  obtain ⟨s, m, v, h1, h2, h3, h4⟩ := h
  exact h4
theorem Sep.blk {w0 w : World} {b : Nat} {d : Dk} {L : List (Nat × Obj)} (h : Sep w0 w b d L) {x : Nat × Obj} (hx : x ∈ L) : w.heap[x.1]? = some x.2 := by
  obtain ⟨s, m, v, h1, h2, h3, h4⟩ := h
  exact (h3 x hx).2
theorem Sep.of {w0 w : World} {b : Nat} {d : Dk} (h : OwnF (fun _ => False) w0 w b d) : Sep w0 w b d [] := by
  obtain ⟨s, m, v, h1, h2, h3⟩ := h
  refine ⟨s, m, v, h1, fun k hk => ⟨?_, by simp⟩, by simp, h3⟩
  rcases h2 k hk with e | e
  · exact e.elim
  · exact e
/-- A call on the disk. -/
theorem Sep.own {w0 w : World} {b : Nat} {d : Dk} {L : List (Nat × Obj)} (h : Sep w0 w b d L) :
    ∃ G : Nat → Prop, OwnF G w w b d ∧ ∀ w' d', OwnF G w w' b d' → Sep w0 w' b d' L := by
  obtain ⟨s, m, v, h1, h2, h3, h4⟩ := h
  refine ⟨Feet b s m v, ⟨s, m, v, h1, fun k hk => .inl hk, Kept.refl _ _⟩, fun w' d' h' => ?_⟩
  obtain ⟨s', m', v', g1, g2, g3⟩ := h'
  refine ⟨s', m', v', g1, fun k hk => ?_, fun x hx => ⟨(h3 x hx).1, ?_⟩, ?_⟩
  · rcases g2 k hk with e | e
    · exact h2 k e
    · refine ⟨Nat.le_trans h4.size e, fun x hx ek => ?_⟩
      have := (Array.getElem?_eq_some_iff.1 (h3 x hx).2).1
      omega
  · rw [g3.block _ (Array.getElem?_eq_some_iff.1 (h3 x hx).2).1 (fun e => (h2 _ e).2 x hx rfl)]
    exact (h3 x hx).2
  · exact h4.step g3 (fun k hlt e => by have := (h2 k e).1; omega)
theorem Sep.quiet {w0 w w' : World} {b : Nat} {d : Dk} {L : List (Nat × Obj)} (h : Sep w0 w b d L) (hk : Kept (fun _ => False) w w') : Sep w0 w' b d L := by
  obtain ⟨G, hG, hb⟩ := h.own
  exact hb _ _ (hG.quiet hk)
theorem Sep.box {w0 w : World} {b : Nat} {d : Dk} {L : List (Nat × Obj)} (h : Sep w0 w b d L) (o : Obj) : Sep w0 (w.alloc o) b d ((w.heap.size, o) :: L) := by
  obtain ⟨s, m, v, h1, h2, h3, h4⟩ := h
  have hal := (Kept.refl (fun _ => False) w).alloc o
  have hfeet : ∀ k, Feet b s m v k → k < w.heap.size := fun k hk => by
    rcases hk with e | e | e | e
    · rw [e]; exact h1.lt
    · rw [e]; exact h1.sure.lt
    · rw [e]; exact h1.now.lt
    · obtain ⟨cs, fz, hh⟩ := h1.row_block e
      exact (Array.getElem?_eq_some_iff.1 hh).1
  refine ⟨s, m, v, h1.kept hal (fun _ _ f => f), fun k hk => ⟨(h2 k hk).1, fun x hx => ?_⟩, fun x hx => ?_, h4.trans hal⟩
  · rcases List.mem_cons.1 hx with e | e
    · rw [e]; have := hfeet k hk; simp only; omega
    · exact (h2 k hk).2 x e
  · rcases List.mem_cons.1 hx with e | e
    · rw [e]; exact ⟨h4.size, block_new w o⟩
    · exact ⟨(h3 x e).1, hal.blk (h3 x e).2⟩
theorem Sep.tail {w0 w : World} {b : Nat} {d : Dk} {x : Nat × Obj} {L : List (Nat × Obj)} (h : Sep w0 w b d (x :: L)) : Sep w0 w b d L := by
  obtain ⟨s, m, v, h1, h2, h3, h4⟩ := h
  exact ⟨s, m, v, h1, fun k hk => ⟨(h2 k hk).1, fun y hy => (h2 k hk).2 y (List.mem_cons_of_mem _ hy)⟩, fun y hy => h3 y (List.mem_cons_of_mem _ hy), h4⟩
theorem Sep.sub {w0 w : World} {b : Nat} {d : Dk} {L M : List (Nat × Obj)} (h : Sep w0 w b d L) (hM : ∀ x ∈ M, x ∈ L) : Sep w0 w b d M := by
  obtain ⟨s, m, v, h1, h2, h3, h4⟩ := h
  exact ⟨s, m, v, h1, fun k hk => ⟨(h2 k hk).1, fun y hy => (h2 k hk).2 y (hM y hy)⟩, fun y hy => h3 y (hM y hy), h4⟩
/-- A store into the first block. -/
theorem Sep.set {w0 w : World} {b : Nat} {d : Dk} {g : Nat} {cs : Array Value} {t : TypeId} {L : List (Nat × Obj)} (h : Sep w0 w b d ((g, .cells cs t (0, 0)) :: L)) (hL : ∀ x ∈ L, x.1 ≠ g) (i : Nat) (u : Value) :
    Sep w0 (w.setCell ⟨g, i, none⟩ u) b d ((g, .cells (cs.setIfInBounds i u) t (0, 0)) :: L) := by
  obtain ⟨s, m, v, h1, h2, h3, h4⟩ := h
  have hg := h3 (g, .cells cs t (0, 0)) (by simp)
  have hk : Kept (fun k => k = g) w (w.setCell ⟨g, i, none⟩ u) := Kept.own _ _ _ _
  refine ⟨s, m, v, h1.kept hk (fun k hf e => (h2 k hf).2 (g, .cells cs t (0, 0)) (by simp) e.symm), fun k hf => ⟨(h2 k hf).1, fun x hx => ?_⟩, fun x hx => ?_, h4.step hk (fun k hlt e => by have := hg.1; simp only at this; omega)⟩
  · rcases List.mem_cons.1 hx with e | e
    · rw [e]; exact (h2 k hf).2 (g, .cells cs t (0, 0)) (by simp)
    · exact (h2 k hf).2 x (List.mem_cons_of_mem _ e)
  · rcases List.mem_cons.1 hx with e | e
    · rw [e]; exact ⟨hg.1, setCell_block hg.2 i u⟩
    · have h5 := h3 x (List.mem_cons_of_mem _ e)
      exact ⟨h5.1, (hk.block _ (Array.getElem?_eq_some_iff.1 h5.2).1 (hL x e)).trans h5.2⟩
theorem Sep.swap {w0 w : World} {b : Nat} {d : Dk} {x y : Nat × Obj} {L : List (Nat × Obj)} (h : Sep w0 w b d (x :: y :: L)) : Sep w0 w b d (y :: x :: L) := h.sub (by simp; exact fun a b c => .inr (.inr c))

/-! ### a vote or a snapshot that is saved -/
structure Sv where
  snap : Bool
  v : Vt
  s : Sn
def Sv.cells (x : Sv) : List Value := [.bool x.snap, .int .i64 x.v.term, .int .i64 x.v.to, .int .i64 x.s.index, .int .i64 x.s.term, .int .i64 x.s.mask, .string x.s.text]
def Dk.saveAct (d : Dk) (x : Sv) : Dk × Int := if x.snap then d.saveSnap x.s else d.saveVote x.v
theorem Dk.Ok.saveAct {d : Dk} {N : Nat} (ok : d.Ok N) (x : Sv) : (d.saveAct x).1.Ok (N + 3) := by
  unfold Dk.saveAct
  split
  · exact ok.saveSnap _
  · exact ok.saveVote _
set_option maxRecDepth 100000 in
set_option maxHeartbeats 1600000 in
theorem own_saveAct {F : Nat → Prop} {w w0 : World} {b N : Nat} {d : Dk} (h : OwnF F w w0 b d) (ok : d.Ok N) (hN : N + 4 ≤ 1099511627776) (x : Sv) : Calls Tryd.prog 37 #[.pointer (some ⟨b, 0, none⟩), .agg x.cells.toArray] w0 fun e w' => e = .returned (.int .i64 (d.saveAct x).2) ∧ OwnF F w w' b (d.saveAct x).1 := by
  have HA := Lib.hid (h.quiet ((Kept.refl (fun _ => False) w0).alloc (.cells x.cells.toArray 68)))
  have HSV := Lib.hid (fun w1 (h : OwnF F w w1 b d) v => own_saveVote h ok hN v)
  have HSS := Lib.hid (fun w1 (h : OwnF F w w1 b d) v => own_saveSnap h ok hN v)
  clear h ok hN
  obtain ⟨sn, ⟨vt, vf⟩, ⟨si, st, sm, sx⟩⟩ := x
  simp only [Sv.cells] at *
  cases sn with
  | true =>
    have HE : Hid (d.saveAct ⟨true, ⟨vt, vf⟩, ⟨si, st, sm, sx⟩⟩ = d.saveSnap ⟨si, st, sm, sx⟩) := rfl
    generalize d.saveAct ⟨true, ⟨vt, vf⟩, ⟨si, st, sm, sx⟩⟩ = R at *
    go_enter Tryd.func37, Tryd.ntmps37
    go_wp2_with fail
    refine (HSS.out _ HA.out ⟨si, st, sm, sx⟩).mono ?_
    rintro e w1 ⟨rfl, h1⟩
    have H1 := Lib.hid h1
    clear h1
    go_wp2_with fail
    go_ret
    rw [HE.out]
    exact ⟨rfl, H1.out⟩
  | false =>
    have HE : Hid (d.saveAct ⟨false, ⟨vt, vf⟩, ⟨si, st, sm, sx⟩⟩ = d.saveVote ⟨vt, vf⟩) := rfl
    generalize d.saveAct ⟨false, ⟨vt, vf⟩, ⟨si, st, sm, sx⟩⟩ = R at *
    go_enter Tryd.func37, Tryd.ntmps37
    go_wp2_with fail
    refine (HSV.out _ HA.out ⟨vt, vf⟩).mono ?_
    rintro e w1 ⟨rfl, h1⟩
    have H1 := Lib.hid h1
    clear h1
    go_wp2_with fail
    go_ret
    rw [HE.out]
    exact ⟨rfl, H1.out⟩
/-- A contract of a disk of the call's own, beside blocks. -/
theorem Sep.call {w0 W : World} {b : Nat} {d d' : Dk} {L : List (Nat × Obj)} (h : Sep w0 W b d L) {f : FuncId} {args : Array Value} {P : Ending → Prop}
    (hc : ∀ G : Nat → Prop, OwnF G W W b d → Calls Tryd.prog f args W fun e w' => P e ∧ OwnF G W w' b d') : Calls Tryd.prog f args W fun e w' => P e ∧ Sep w0 w' b d' L := by
  obtain ⟨G, hG, hb⟩ := h.own
  exact (hc G hG).mono fun e w' ⟨h1, h2⟩ => ⟨h1, hb _ _ h2⟩
set_option maxRecDepth 100000 in
set_option maxHeartbeats 8000000 in
theorem sep_loads {w0 W : World} {b N : Nat} {d : Dk} {L : List (Nat × Obj)} (h : Sep w0 W b d L) (ok : d.Ok N) (v : Vt) (s : Sn) (is : Bool) (r : Bool) (hr : (r = true ∧ d.loadVote = (v, 0) ∧ d.loadSnap = (s, is, 0)) ∨ (r = false ∧ (d.loadVote ≠ (v, 0) ∨ d.loadSnap ≠ (s, is, 0)))) : Calls Tryd.prog 41 #[.pointer (some ⟨b, 0, none⟩), .agg v.cells.toArray, .agg s.cells.toArray, .bool is] W fun e w' => e = .returned (.bool r) ∧ Sep w0 w' b d L := by
  obtain ⟨vt, vf⟩ := v
  obtain ⟨si, st, sm, sx⟩ := s
  simp only [Vt.cells, Sn.cells] at *
  have A0 := (h.box (.cells #[.int .i64 vt, .int .i64 vf] 38)).box (.cells #[.int .i64 si, .int .i64 st, .int .i64 sm, .string sx] 45)
  have HV := Lib.hid (A0.call fun G hG => own_loadVote hG ok)
  have HS := Lib.hid (fun W1 L1 (h1 : Sep w0 W1 b d L1) => h1.call fun G hG => own_loadSnap hG ok)
  generalize d.loadVote = lv at *
  generalize d.loadSnap = ls at *
  obtain ⟨⟨a, c⟩, e1⟩ := lv
  obtain ⟨⟨i, t, m, x⟩, is2, e2⟩ := ls
  simp only [Vt.cells, Sn.cells] at HV HS
  rw [alloc_size] at HV
  clear h A0
  go_enter Tryd.func41, Tryd.ntmps41
  go_wp2_with fail
  refine HV.out.mono ?_
  rintro e w1 ⟨rfl, h1⟩
  have A2 := Lib.hid (h1.box (.cells #[.int .i64 a, .int .i64 c] 38))
  clear h1 HV
  go_wp2_with fail
  refine (HS.out _ _ A2.out).mono ?_
  rintro e w2 ⟨rfl, h2⟩
  have A4 := Lib.hid (h2.box (.cells #[.int .i64 i, .int .i64 t, .int .i64 m, .string x] 45))
  clear h2 A2 HS
  obtain ⟨v0, v1⟩ := vote_cells (A4.out.blk (x := (W.heap.size, (.cells #[.int .i64 vt, .int .i64 vf] 38))) (by simp))
  obtain ⟨u0, u1⟩ := vote_cells (A4.out.blk (x := (w1.heap.size, (.cells #[.int .i64 a, .int .i64 c] 38))) (by simp))
  obtain ⟨s0, s1, s2, s3⟩ := snap_cells (A4.out.blk (x := (W.heap.size + 1, (.cells #[.int .i64 si, .int .i64 st, .int .i64 sm, .string sx] 45))) (by simp))
  obtain ⟨t0, t1, t2, t3⟩ := snap_cells (A4.out.blk (x := (w2.heap.size, (.cells #[.int .i64 i, .int .i64 t, .int .i64 m, .string x] 45))) (by simp))
  have A5 := Lib.hid A4.out.tail.tail.tail.tail
  have HR := Lib.hid hr
  clear hr A4
  by_cases hn : e1 = 0
  case neg =>
    have hrf : r = false := by
      rcases HR.out with ⟨_, h1, h2⟩ | ⟨h1, _⟩
      · simp only [Prod.mk.injEq, Vt.mk.injEq, Sn.mk.injEq] at h1 h2
        exact absurd (by first | exact h1.2 | exact h2.2.2 | exact h1.1.1 | exact h1.1.2 | exact h2.2.1 | exact h2.1.1 | exact h2.1.2.1 | exact h2.1.2.2.1 | exact h2.1.2.2.2) hn
      · exact h1
    subst hrf
    have g0 : (e1 == 0) = false := beq_eq_false_iff_ne.2 hn
    clear hn HR
    go_wp2_with fail
    go_ret
    exact ⟨rfl, A5.out⟩
  subst hn
  by_cases hn : e2 = 0
  case neg =>
    have hrf : r = false := by
      rcases HR.out with ⟨_, h1, h2⟩ | ⟨h1, _⟩
      · simp only [Prod.mk.injEq, Vt.mk.injEq, Sn.mk.injEq] at h1 h2
        exact absurd (by first | exact h1.2 | exact h2.2.2 | exact h1.1.1 | exact h1.1.2 | exact h2.2.1 | exact h2.1.1 | exact h2.1.2.1 | exact h2.1.2.2.1 | exact h2.1.2.2.2) hn
      · exact h1
    subst hrf
    have g1 : (e2 == 0) = false := beq_eq_false_iff_ne.2 hn
    clear hn HR
    go_wp2_with fail
    go_ret
    exact ⟨rfl, A5.out⟩
  subst hn
  by_cases hn : a = vt
  case neg =>
    have hrf : r = false := by
      rcases HR.out with ⟨_, h1, h2⟩ | ⟨h1, _⟩
      · simp only [Prod.mk.injEq, Vt.mk.injEq, Sn.mk.injEq] at h1 h2
        exact absurd (by first | exact h1.2 | exact h2.2.2 | exact h1.1.1 | exact h1.1.2 | exact h2.2.1 | exact h2.1.1 | exact h2.1.2.1 | exact h2.1.2.2.1 | exact h2.1.2.2.2) hn
      · exact h1
    subst hrf
    have g2 : (a == vt) = false := beq_eq_false_iff_ne.2 hn
    clear hn HR
    go_wp2_with fail
    go_ret
    exact ⟨rfl, A5.out⟩
  subst hn
  by_cases hn : c = vf
  case neg =>
    have hrf : r = false := by
      rcases HR.out with ⟨_, h1, h2⟩ | ⟨h1, _⟩
      · simp only [Prod.mk.injEq, Vt.mk.injEq, Sn.mk.injEq] at h1 h2
        exact absurd (by first | exact h1.2 | exact h2.2.2 | exact h1.1.1 | exact h1.1.2 | exact h2.2.1 | exact h2.1.1 | exact h2.1.2.1 | exact h2.1.2.2.1 | exact h2.1.2.2.2) hn
      · exact h1
    subst hrf
    have g3 : (c == vf) = false := beq_eq_false_iff_ne.2 hn
    clear hn HR
    go_wp2_with fail
    go_ret
    exact ⟨rfl, A5.out⟩
  subst hn
  by_cases hn : is2 = is
  case neg =>
    have hrf : r = false := by
      rcases HR.out with ⟨_, h1, h2⟩ | ⟨h1, _⟩
      · simp only [Prod.mk.injEq, Vt.mk.injEq, Sn.mk.injEq] at h1 h2
        exact absurd (by first | exact h1.2 | exact h2.2.2 | exact h1.1.1 | exact h1.1.2 | exact h2.2.1 | exact h2.1.1 | exact h2.1.2.1 | exact h2.1.2.2.1 | exact h2.1.2.2.2) hn
      · exact h1
    subst hrf
    have g4 : (is2 == is) = false := beq_eq_false_iff_ne.2 hn
    clear hn HR
    go_wp2_with fail
    go_ret
    exact ⟨rfl, A5.out⟩
  subst hn
  by_cases hn : i = si
  case neg =>
    have hrf : r = false := by
      rcases HR.out with ⟨_, h1, h2⟩ | ⟨h1, _⟩
      · simp only [Prod.mk.injEq, Vt.mk.injEq, Sn.mk.injEq] at h1 h2
        exact absurd (by first | exact h1.2 | exact h2.2.2 | exact h1.1.1 | exact h1.1.2 | exact h2.2.1 | exact h2.1.1 | exact h2.1.2.1 | exact h2.1.2.2.1 | exact h2.1.2.2.2) hn
      · exact h1
    subst hrf
    have g5 : (i == si) = false := beq_eq_false_iff_ne.2 hn
    clear hn HR
    go_wp2_with fail
    go_ret
    exact ⟨rfl, A5.out⟩
  subst hn
  by_cases hn : t = st
  case neg =>
    have hrf : r = false := by
      rcases HR.out with ⟨_, h1, h2⟩ | ⟨h1, _⟩
      · simp only [Prod.mk.injEq, Vt.mk.injEq, Sn.mk.injEq] at h1 h2
        exact absurd (by first | exact h1.2 | exact h2.2.2 | exact h1.1.1 | exact h1.1.2 | exact h2.2.1 | exact h2.1.1 | exact h2.1.2.1 | exact h2.1.2.2.1 | exact h2.1.2.2.2) hn
      · exact h1
    subst hrf
    have g6 : (t == st) = false := beq_eq_false_iff_ne.2 hn
    clear hn HR
    go_wp2_with fail
    go_ret
    exact ⟨rfl, A5.out⟩
  subst hn
  by_cases hn : m = sm
  case neg =>
    have hrf : r = false := by
      rcases HR.out with ⟨_, h1, h2⟩ | ⟨h1, _⟩
      · simp only [Prod.mk.injEq, Vt.mk.injEq, Sn.mk.injEq] at h1 h2
        exact absurd (by first | exact h1.2 | exact h2.2.2 | exact h1.1.1 | exact h1.1.2 | exact h2.2.1 | exact h2.1.1 | exact h2.1.2.1 | exact h2.1.2.2.1 | exact h2.1.2.2.2) hn
      · exact h1
    subst hrf
    have g7 : (m == sm) = false := beq_eq_false_iff_ne.2 hn
    clear hn HR
    go_wp2_with fail
    go_ret
    exact ⟨rfl, A5.out⟩
  subst hn
  by_cases hn : x = sx
  case neg =>
    have hrf : r = false := by
      rcases HR.out with ⟨_, h1, h2⟩ | ⟨h1, _⟩
      · simp only [Prod.mk.injEq, Vt.mk.injEq, Sn.mk.injEq] at h1 h2
        exact absurd (by first | exact h1.2 | exact h2.2.2 | exact h1.1.1 | exact h1.1.2 | exact h2.2.1 | exact h2.1.1 | exact h2.1.2.1 | exact h2.1.2.2.1 | exact h2.1.2.2.2) hn
      · exact h1
    subst hrf
    have g8 : (x.toList == sx.toList) = false := beq_eq_false_iff_ne.2 (fun e => hn ((by rw [ByteArray.toList_eq, ByteArray.toList_eq] at e; exact Fm.data_inj e)))
    clear hn HR
    go_wp2_with fail
    go_ret
    exact ⟨rfl, A5.out⟩
  subst hn
  have hrt : r = true := by
    rcases HR.out with ⟨h1, _⟩ | ⟨_, h1⟩
    · exact h1
    · exact absurd h1 (by simp)
  subst hrt
  go_wp2_with fail
  go_ret
  exact ⟨rfl, A5.out⟩
end Go.Proofs.YtjobmlnekpaagaaDoor
