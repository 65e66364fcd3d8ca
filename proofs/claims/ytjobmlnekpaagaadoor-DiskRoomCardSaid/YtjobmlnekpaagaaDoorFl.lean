/- Files, beside blocks of the call's own. -/
import Derived.Test.YtjobmlnekpaagaaDoorFs
import Derived.Test.YtjobmlnekpaagaaDoorSq
namespace Go.Proofs.YtjobmlnekpaagaaDoor
open Go Go.RowKit Go.Maps
set_option linter.unusedVariables false

/-- A block that holds files. -/
def HoldsFL (o : Obj) (fs : FL) : Prop := ∃ cs t fz, o = .cells cs t fz ∧ ∀ i p, fs[i]? = some p → cs[i * 2]? = some (.string p.1) ∧ cs[i * 2 + 1]? = some (.string p.2)
theorem flatF_at {xs : FL} {i : Nat} {x : ByteArray × ByteArray} (hx : xs[i]? = some x) : (flatF xs)[i * 2]? = some (.string x.1) ∧ (flatF xs)[i * 2 + 1]? = some (.string x.2) := by
  induction xs generalizing i with
  | nil => simp at hx
  | cons y r ih =>
    have e : flatF (y :: r) = .string y.1 :: .string y.2 :: flatF r := by unfold flatF; rw [List.flatMap_cons]; rfl
    rw [e]
    cases i with
    | zero =>
      simp only [List.getElem?_cons_zero, Option.some.injEq] at hx
      subst hx
      exact ⟨rfl, rfl⟩
    | succ i =>
      simp only [List.getElem?_cons_succ] at hx
      have := ih hx
      rw [show (i + 1) * 2 = i * 2 + 1 + 1 by omega]
      simpa using this
theorem flatF_length (xs : FL) : (flatF xs).length = xs.length * 2 := by
  induction xs with
  | nil => rfl
  | cons x r ih => unfold flatF at *; rw [List.flatMap_cons, List.length_append, ih, List.length_cons]; show 2 + _ = _; omega
/-- What a slice of files is, read out of a block. -/
theorem readsF_of {w : World} {g : Nat} {o : Obj} {fs : FL} (hb : w.heap[g]? = some o) (ho : HoldsFL o fs) (hn : fs.length ≤ 4398046511104) : ReadsF w (some ⟨g, 0, none⟩) fs.length fs := by
  obtain ⟨cs, t, fz, rfl, hc⟩ := ho
  refine ⟨rfl, hn, .inr ⟨g, 0, rfl, (Array.getElem?_eq_some_iff.1 hb).1, fun i p hp => ?_⟩⟩
  obtain ⟨h1, h2⟩ := hc i p hp
  rw [cell_of_block hb, cell_of_block hb, Nat.zero_add]
  exact ⟨h1, h2⟩
theorem readsF_nil (w : World) : ReadsF w none 0 [] := ⟨rfl, by omega, .inl rfl⟩
/-- A row of files as a block. -/
theorem row_files {w : World} {base : Nat} {v : Value} {xs : FL} (h : w.ownsRow base 129 2 v xs.length (flatF xs)) :
    (v = .slice none 0 0 ∧ xs = []) ∨ ∃ g cap o, v = .slice (some ⟨g, 0, none⟩) xs.length cap ∧ base ≤ g ∧ w.heap[g]? = some o ∧ HoldsFL o xs := by
  rcases h.2 with ⟨hv, hx⟩ | ⟨g, cap, cur, rfl, hg, hh, r⟩
  · exact .inl ⟨hv, List.length_eq_zero_iff.1 hx⟩
  · refine .inr ⟨g, cap, _, rfl, hg, hh, _, _, _, rfl, fun i p hp => ?_⟩
    obtain ⟨a, b⟩ := flatF_at hp
    have h1 := h.cells (g := g) rfl (i * 2) _ a
    have h2 := h.cells (g := g) rfl (i * 2 + 1) _ b
    have e1 : (⟨g, 0, none⟩ : Addr).add (i * 2) = ⟨g, i * 2, none⟩ := by unfold Addr.add; split <;> simp_all
    have e2 : (⟨g, 0, none⟩ : Addr).add (i * 2 + 1) = ⟨g, i * 2 + 1, none⟩ := by unfold Addr.add; split <;> simp_all
    rw [e1, cell_of_block hh] at h1
    rw [e2, cell_of_block hh] at h2
    exact ⟨h1, h2⟩
/-- A block that was made since. -/
theorem Sep.add {w0 w w' : World} {b : Nat} {d : Dk} {L : List (Nat × Obj)} (h : Sep w0 w b d L) (hk : Kept (fun _ => False) w w') {g : Nat} {o : Obj} (hg : w.heap.size ≤ g) (hb : w'.heap[g]? = some o) : Sep w0 w' b d ((g, o) :: L) := by
  obtain ⟨s, m, v, h1, h2, h3, h4⟩ := h
  have hfeet : ∀ k, Feet b s m v k → k < w.heap.size := fun k hk => by
    rcases hk with e | e | e | e
    · rw [e]; exact h1.lt
    · rw [e]; exact h1.sure.lt
    · rw [e]; exact h1.now.lt
    · obtain ⟨cs, fz, hh⟩ := h1.row_block e
      exact (Array.getElem?_eq_some_iff.1 hh).1
  refine ⟨s, m, v, h1.kept hk (fun _ _ f => f), fun k hf => ⟨(h2 k hf).1, fun x hx => ?_⟩, fun x hx => ?_, h4.trans hk⟩
  · rcases List.mem_cons.1 hx with e | e
    · rw [e]; have := hfeet k hf; simp only; omega
    · exact (h2 k hf).2 x e
  · rcases List.mem_cons.1 hx with e | e
    · rw [e]; exact ⟨Nat.le_trans h4.size hg, hb⟩
    · exact ⟨(h3 x e).1, hk.blk (h3 x e).2⟩
theorem files_length {d : Dk} {N : Nat} (ok : d.Ok N) : d.files.length ≤ N := by
  unfold Dk.files
  split
  · simp
  · rw [List.length_map, sortedNames_length]
    exact ok.len1
/-- What 'Files' answers. -/
def FilesPost (w0 : World) (b : Nat) (d : Dk) (L : List (Nat × Obj)) (e : Ending) (w' : World) : Prop :=
  ∃ A cap LL, e = .returned (.slice A d.files.length cap) ∧ Sep w0 w' b d (LL ++ L) ∧ ∀ w'' d', Sep w0 w'' b d' (LL ++ L) → ReadsF w'' A d.files.length d.files
theorem sep_files {w0 W : World} {b N : Nat} {d : Dk} {L : List (Nat × Obj)} (h : Sep w0 W b d L) (ok : d.Ok N) (hN : N ≤ 1099511627776) : Calls Tryd.prog 45 #[.pointer (some ⟨b, 0, none⟩)] W (FilesPost w0 b d L) := by
  have h0 := h
  have hl := files_length ok
  obtain ⟨s, m, v, h1, h2, h3, h4⟩ := h
  have hnone : ∀ (e : Ending) (w' : World), e = .returned (.slice none 0 0) → d.files = [] → Sep w0 w' b d L → FilesPost w0 b d L e w' := fun e w' e1 e2 e3 => by
    refine ⟨none, 0, [], ?_, e3, fun w'' d' _ => ?_⟩
    · rw [e1, e2]; rfl
    · rw [e2]; exact readsF_nil w''
  cases hd : d.down with
  | true =>
    refine (files_down h1 hd).mono fun e w' ⟨e1, e2⟩ => ?_
    subst e2
    exact hnone _ _ e1 (by unfold Dk.files; rw [if_pos hd]) h0
  | false =>
    refine (files_up h1 ok hN hd).mono fun e w' ⟨v', e1, e2, e3⟩ => ?_
    rcases row_files e2 with ⟨rfl, hx⟩ | ⟨g, cap, o, rfl, hg, hb, ho⟩
    · exact hnone _ _ e1 hx (h0.quiet e3)
    · exact ⟨some ⟨g, 0, none⟩, cap, [(g, o)], e1, h0.add e3 hg hb, fun w'' d' hs => readsF_of (hs.blk (x := (g, o)) (by simp)) ho (by omega)⟩
end Go.Proofs.YtjobmlnekpaagaaDoor
