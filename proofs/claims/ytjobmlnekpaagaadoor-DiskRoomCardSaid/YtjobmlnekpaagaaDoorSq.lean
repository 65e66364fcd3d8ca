/- A disk beside blocks of the call's own. -/
import Derived.Test.YtjobmlnekpaagaaDoorMC
namespace Go.Proofs.YtjobmlnekpaagaaDoor
open Go Go.RowKit Go.Maps
set_option linter.unusedVariables false

theorem Kept.blk {w w' : World} (h : Kept (fun _ => False) w w') {g : Nat} {o : Obj} (hb : w.heap[g]? = some o) : w'.heap[g]? = some o := (h.block g (Array.getElem?_eq_some_iff.1 hb).1 (fun f => f)).trans hb
/-- Since w0: a disk d lies at b in new blocks; new blocks L, apart from it, hold what they hold; all that was there in w0 is as it was. -/
def Sep (w0 w : World) (b : Nat) (d : Dk) (L : List (Nat × Obj)) : Prop :=
  ∃ s m v, DiskAt w b s m v d ∧ (∀ k, Feet b s m v k → w0.heap.size ≤ k ∧ ∀ x ∈ L, x.1 ≠ k) ∧ (∀ x ∈ L, w0.heap.size ≤ x.1 ∧ w.heap[x.1]? = some x.2) ∧ Kept (fun _ => False) w0 w
theorem Sep.kept {w0 w : World} {b : Nat} {d : Dk} {L : List (Nat × Obj)} (h : Sep w0 w b d L) : Kept (fun _ => False) w0 w := by
  obtain ⟨s, m, v, h1, h2, h3, h4⟩ := h
  exact h4
theorem Sep.blk {w0 w : World} {b : Nat} {d : Dk} {L : List (Nat × Obj)} (h : Sep w0 w b d L) {x : Nat × Obj} (hx : x ∈ L) : w.heap[x.1]? = some x.2 := by
  obtain ⟨s, m, v, h1, h2, h3, h4⟩ := h
  exact (h3 x hx).2
theorem Sep.of {w0 w : World} {b : Nat} {d : Dk} (h : OwnF (fun _ => False) w0 w b d) : Sep w0 w b d [] := by
  obtain ⟨s, m, v, h1, h2, h3⟩ := h
  refine ⟨s, m, v, h1, fun k hk => ⟨?_, by simp⟩, by simp, h3⟩
  rcases h2 k hk with e | e
  · exact e.elim
  · exact e
/-- A call on the disk. -/
theorem Sep.own {w0 w : World} {b : Nat} {d : Dk} {L : List (Nat × Obj)} (h : Sep w0 w b d L) :
    ∃ G : Nat → Prop, OwnF G w w b d ∧ ∀ w' d', OwnF G w w' b d' → Sep w0 w' b d' L := by
  obtain ⟨s, m, v, h1, h2, h3, h4⟩ := h
  refine ⟨Feet b s m v, ⟨s, m, v, h1, fun k hk => .inl hk, Kept.refl _ _⟩, fun w' d' h' => ?_⟩
  obtain ⟨s', m', v', g1, g2, g3⟩ := h'
  refine ⟨s', m', v', g1, fun k hk => ?_, fun x hx => ⟨(h3 x hx).1, ?_⟩, ?_⟩
  · rcases g2 k hk with e | e
    · exact h2 k e
    · refine ⟨Nat.le_trans h4.size e, fun x hx ek => ?_⟩
      have := (Array.getElem?_eq_some_iff.1 (h3 x hx).2).1
      omega
  · rw [g3.block _ (Array.getElem?_eq_some_iff.1 (h3 x hx).2).1 (fun e => (h2 _ e).2 x hx rfl)]
    exact (h3 x hx).2
  · exact h4.step g3 (fun k hlt e => by have := (h2 k e).1; omega)
theorem Sep.quiet {w0 w w' : World} {b : Nat} {d : Dk} {L : List (Nat × Obj)} (h : Sep w0 w b d L) (hk : Kept (fun _ => False) w w') : Sep w0 w' b d L := by
  obtain ⟨G, hG, hb⟩ := h.own
  exact hb _ _ (hG.quiet hk)
theorem Sep.box {w0 w : World} {b : Nat} {d : Dk} {L : List (Nat × Obj)} (h : Sep w0 w b d L) (o : Obj) : Sep w0 (w.alloc o) b d ((w.heap.size, o) :: L) := by
  obtain ⟨s, m, v, h1, h2, h3, h4⟩ := h
  have hal := (Kept.refl (fun _ => False) w).alloc o
  have hfeet : ∀ k, Feet b s m v k → k < w.heap.size := fun k hk => by
    rcases hk with e | e | e | e
    · rw [e]; exact h1.lt
    · rw [e]; exact h1.sure.lt
    · rw [e]; exact h1.now.lt
    · obtain ⟨cs, fz, hh⟩ := h1.row_block e
      exact (Array.getElem?_eq_some_iff.1 hh).1
  refine ⟨s, m, v, h1.kept hal (fun _ _ f => f), fun k hk => ⟨(h2 k hk).1, fun x hx => ?_⟩, fun x hx => ?_, h4.trans hal⟩
  · rcases List.mem_cons.1 hx with e | e
    · rw [e]; have := hfeet k hk; simp only; omega
    · exact (h2 k hk).2 x e
  · rcases List.mem_cons.1 hx with e | e
    · rw [e]; exact ⟨h4.size, block_new w o⟩
    · exact ⟨(h3 x e).1, hal.blk (h3 x e).2⟩
theorem Sep.tail {w0 w : World} {b : Nat} {d : Dk} {x : Nat × Obj} {L : List (Nat × Obj)} (h : Sep w0 w b d (x :: L)) : Sep w0 w b d L := by
  obtain ⟨s, m, v, h1, h2, h3, h4⟩ := h
  exact ⟨s, m, v, h1, fun k hk => ⟨(h2 k hk).1, fun y hy => (h2 k hk).2 y (List.mem_cons_of_mem _ hy)⟩, fun y hy => h3 y (List.mem_cons_of_mem _ hy), h4⟩
theorem Sep.sub {w0 w : World} {b : Nat} {d : Dk} {L M : List (Nat × Obj)} (h : Sep w0 w b d L) (hM : ∀ x ∈ M, x ∈ L) : Sep w0 w b d M := by
  obtain ⟨s, m, v, h1, h2, h3, h4⟩ := h
  exact ⟨s, m, v, h1, fun k hk => ⟨(h2 k hk).1, fun y hy => (h2 k hk).2 y (hM y hy)⟩, fun y hy => h3 y (hM y hy), h4⟩
/-- A store into the first block. -/
theorem Sep.set {w0 w : World} {b : Nat} {d : Dk} {g : Nat} {cs : Array Value} {t : TypeId} {L : List (Nat × Obj)} (h : Sep w0 w b d ((g, .cells cs t (0, 0)) :: L)) (hL : ∀ x ∈ L, x.1 ≠ g) (i : Nat) (u : Value) :
    Sep w0 (w.setCell ⟨g, i, none⟩ u) b d ((g, .cells (cs.setIfInBounds i u) t (0, 0)) :: L) := by
  obtain ⟨s, m, v, h1, h2, h3, h4⟩ := h
  have hg := h3 (g, .cells cs t (0, 0)) (by simp)
  have hk : Kept (fun k => k = g) w (w.setCell ⟨g, i, none⟩ u) := Kept.own _ _ _ _
  refine ⟨s, m, v, h1.kept hk (fun k hf e => (h2 k hf).2 (g, .cells cs t (0, 0)) (by simp) e.symm), fun k hf => ⟨(h2 k hf).1, fun x hx => ?_⟩, fun x hx => ?_, h4.step hk (fun k hlt e => by have := hg.1; simp only at this; omega)⟩
  · rcases List.mem_cons.1 hx with e | e
    · rw [e]; exact (h2 k hf).2 (g, .cells cs t (0, 0)) (by simp)
    · exact (h2 k hf).2 x (List.mem_cons_of_mem _ e)
  · rcases List.mem_cons.1 hx with e | e
    · rw [e]; exact ⟨hg.1, setCell_block hg.2 i u⟩
    · have h5 := h3 x (List.mem_cons_of_mem _ e)
      exact ⟨h5.1, (hk.block _ (Array.getElem?_eq_some_iff.1 h5.2).1 (hL x e)).trans h5.2⟩
theorem Sep.swap {w0 w : World} {b : Nat} {d : Dk} {x y : Nat × Obj} {L : List (Nat × Obj)} (h : Sep w0 w b d (x :: y :: L)) : Sep w0 w b d (y :: x :: L) := h.sub (by simp; exact fun a b c => .inr (.inr c))

/-- A contract of a disk of the call's own, beside blocks. -/
theorem Sep.call {w0 W : World} {b : Nat} {d d' : Dk} {L : List (Nat × Obj)} (h : Sep w0 W b d L) {f : FuncId} {args : Array Value} {P : Ending → Prop}
    (hc : ∀ G : Nat → Prop, OwnF G W W b d → Calls Tryd.prog f args W fun e w' => P e ∧ OwnF G W w' b d') : Calls Tryd.prog f args W fun e w' => P e ∧ Sep w0 w' b d' L := by
  obtain ⟨G, hG, hb⟩ := h.own
  exact (hc G hG).mono fun e w' ⟨h1, h2⟩ => ⟨h1, hb _ _ h2⟩
end Go.Proofs.YtjobmlnekpaagaaDoor
