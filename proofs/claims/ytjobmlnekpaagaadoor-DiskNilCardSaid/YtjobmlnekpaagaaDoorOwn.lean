/- A disk that the law has made: its calls. -/
import Derived.Test.YtjobmlnekpaagaaDoorLw2
namespace Go.Proofs.YtjobmlnekpaagaaDoor
open Go Go.RowKit Go.Maps
set_option linter.unusedVariables false

/-- Since w a disk has been used: it is d now, in blocks of F and new ones; of what was there in w nothing has turned but F. -/
def OwnF (F : Nat → Prop) (w w' : World) (b : Nat) (d : Dk) : Prop := ∃ s m v, DiskAt w' b s m v d ∧ (∀ k, Feet b s m v k → F k ∨ w.heap.size ≤ k) ∧ Kept F w w'
/-- Since w a disk has been made and used. -/
abbrev Own (w w' : World) (b : Nat) (d : Dk) : Prop := OwnF (fun _ => False) w w' b d
section
variable {F : Nat → Prop}
theorem OwnF.step {w w1 w2 : World} {b s m : Nat} {v : Value} {d' : Dk} (hf : ∀ k, Feet b s m v k → F k ∨ w.heap.size ≤ k) (hk : Kept F w w1) (h : Step w1 b s m v w2 d') : OwnF F w w2 b d' := by
  obtain ⟨⟨s', m', v', h', hf'⟩, hk'⟩ := h
  refine ⟨s', m', v', h', fun k hk1 => ?_, hk.step hk' fun k hlt hF => ?_⟩
  · rcases hf' k hk1 with e | e
    · exact hf k e
    · exact .inr (Nat.le_trans hk.size e)
  · rcases hf k hF with e | e
    · exact e
    · omega
theorem OwnF.quiet {w w1 w2 : World} {b : Nat} {d : Dk} (h : OwnF F w w1 b d) (hk : Kept (fun _ => False) w1 w2) : OwnF F w w2 b d := by
  obtain ⟨s, m, v, h1, h2, h3⟩ := h
  exact ⟨s, m, v, h1.kept hk (fun _ _ f => f), h2, h3.step hk fun _ _ f => f.elim⟩
theorem OwnF.kept {w w1 : World} {b : Nat} {d : Dk} (h : OwnF F w w1 b d) : Kept F w w1 := by
  obtain ⟨s, m, v, h1, h2, h3⟩ := h
  exact h3
/-- From a later world on: the disk's blocks then are the new F. -/
theorem OwnF.rebase {w w1 : World} {b : Nat} {d : Dk} (h : OwnF F w w1 b d) : ∃ G : Nat → Prop, OwnF G w1 w1 b d ∧ (∀ k, G k → F k ∨ w.heap.size ≤ k) ∧ (∀ k, G k → k < w1.heap.size) := by
  obtain ⟨s, m, v, h1, h2, h3⟩ := h
  refine ⟨Feet b s m v, ⟨s, m, v, h1, fun k hk => .inl hk, Kept.refl _ _⟩, h2, fun k hk => ?_⟩
  rcases hk with e | e | e | e
  · rw [e]; exact h1.lt
  · rw [e]; exact h1.sure.lt
  · rw [e]; exact h1.now.lt
  · obtain ⟨cs, fz, hh⟩ := h1.row_block e
    exact (Array.getElem?_eq_some_iff.1 hh).1
/-- .. and they lie below what was made since. -/
theorem OwnF.rebase_quiet {w w1 w2 : World} {b : Nat} {d : Dk} (h : OwnF F w w1 b d) (hk : Kept (fun _ => False) w1 w2) : ∃ G : Nat → Prop, OwnF G w2 w2 b d ∧ (∀ k, G k → F k ∨ w.heap.size ≤ k) ∧ (∀ k, G k → k < w1.heap.size) := by
  obtain ⟨s, m, v, h1, h2, h3⟩ := h
  refine ⟨Feet b s m v, ⟨s, m, v, h1.kept hk (fun _ _ f => f), fun k hk => .inl hk, Kept.refl _ _⟩, h2, fun k hk => ?_⟩
  rcases hk with e | e | e | e
  · rw [e]; exact h1.lt
  · rw [e]; exact h1.sure.lt
  · rw [e]; exact h1.now.lt
  · obtain ⟨cs, fz, hh⟩ := h1.row_block e
    exact (Array.getElem?_eq_some_iff.1 hh).1
/-- And back: what was since w1 is since w. -/
theorem OwnF.back {G : Nat → Prop} {w w1 w2 : World} {b : Nat} {d : Dk} (hk : Kept F w w1) (hG : ∀ k, G k → F k ∨ w.heap.size ≤ k) (h : OwnF G w1 w2 b d) : OwnF F w w2 b d := by
  obtain ⟨s, m, v, h1, h2, h3⟩ := h
  refine ⟨s, m, v, h1, fun k hk' => ?_, hk.step h3 fun k hlt e => ?_⟩
  · rcases h2 k hk' with e | e
    · exact hG k e
    · exact .inr (Nat.le_trans hk.size e)
  · rcases hG k e with e | e
    · exact e
    · omega
theorem own_new {w w1 : World} (hk : Kept F w w1) : Calls Tryd.prog 13 #[] w1 fun e w' => ∃ b, e = .returned (.pointer (some ⟨b, 0, none⟩)) ∧ OwnF F w w' b Dk.new :=
  (new_any w1).mono fun e w' ⟨b, s, m, h1, h2, h3, h4, h5, h6⟩ => ⟨b, h1, s, m, _, h2, fun k hf => by
    have := hk.size
    rcases hf with e | e | e | e
    · exact .inr (by omega)
    · exact .inr (by omega)
    · exact .inr (by omega)
    · simp [Value.ownBlock] at e, hk.step h6 fun _ _ f => f.elim⟩
theorem own_put {w w1 : World} {b N : Nat} {d : Dk} (h : OwnF F w w1 b d) (ok : d.Ok N) (hN : N + 1 ≤ 1099511627776) (f : ByteArray) (at_ : Int) (t : ByteArray) (hf : f.size ≤ 9223372036854775807) (ht : t.size ≤ 9223372036854775807) (ha : I64 at_) : Calls Tryd.prog 15 #[.pointer (some ⟨b, 0, none⟩), .string f, .int .i64 at_, .string t] w1 fun e w' => e = .returned (.int .i64 (d.put f at_ t).2) ∧ OwnF F w w' b (d.put f at_ t).1 := by
  obtain ⟨s, m, v, h1, h2, h3⟩ := h
  exact (put_any h1 ok hN f at_ t hf ht ha.1 ha.2).mono fun e w' ⟨g1, g2⟩ => ⟨g1, OwnF.step h2 h3 g2⟩
theorem own_trim {w w1 : World} {b N : Nat} {d : Dk} (h : OwnF F w w1 b d) (ok : d.Ok N) (hN : N + 1 ≤ 1099511627776) (f : ByteArray) (n : Int) (hf : f.size ≤ 9223372036854775807) (ha : I64 n) : Calls Tryd.prog 55 #[.pointer (some ⟨b, 0, none⟩), .string f, .int .i64 n] w1 fun e w' => e = .returned (.int .i64 (d.trim f n).2) ∧ OwnF F w w' b (d.trim f n).1 := by
  obtain ⟨s, m, v, h1, h2, h3⟩ := h
  exact (trim_any h1 ok hN f n hf ha.1 ha.2).mono fun e w' ⟨g1, g2⟩ => ⟨g1, OwnF.step h2 h3 g2⟩
theorem own_move {w w1 : World} {b N : Nat} {d : Dk} (h : OwnF F w w1 b d) (ok : d.Ok N) (hN : N + 1 ≤ 1099511627776) (f t : ByteArray) (hf : f.size ≤ 9223372036854775807) (ht : t.size ≤ 9223372036854775807) : Calls Tryd.prog 56 #[.pointer (some ⟨b, 0, none⟩), .string f, .string t] w1 fun e w' => e = .returned (.int .i64 (d.move f t).2) ∧ OwnF F w w' b (d.move f t).1 := by
  obtain ⟨s, m, v, h1, h2, h3⟩ := h
  exact (move_any h1 ok hN f t hf ht).mono fun e w' ⟨g1, g2⟩ => ⟨g1, OwnF.step h2 h3 g2⟩
theorem own_drop {w w1 : World} {b N : Nat} {d : Dk} (h : OwnF F w w1 b d) (ok : d.Ok N) (hN : N + 1 ≤ 1099511627776) (f : ByteArray) (hf : f.size ≤ 9223372036854775807) : Calls Tryd.prog 57 #[.pointer (some ⟨b, 0, none⟩), .string f] w1 fun e w' => e = .returned (.int .i64 (d.drop f).2) ∧ OwnF F w w' b (d.drop f).1 := by
  obtain ⟨s, m, v, h1, h2, h3⟩ := h
  exact (drop_any h1 ok hN f hf).mono fun e w' ⟨g1, g2⟩ => ⟨g1, OwnF.step h2 h3 g2⟩
theorem own_sync {w w1 : World} {b N : Nat} {d : Dk} (h : OwnF F w w1 b d) (ok : d.Ok N) (hN : N + 1 ≤ 1099511627776) : Calls Tryd.prog 16 #[.pointer (some ⟨b, 0, none⟩)] w1 fun e w' => e = .returned (.int .i64 d.sync.2) ∧ OwnF F w w' b d.sync.1 := by
  obtain ⟨s, m, v, h1, h2, h3⟩ := h
  exact (sync_any h1 ok (by omega)).mono fun e w' ⟨g1, g2⟩ => ⟨g1, OwnF.step h2 h3 g2⟩
theorem own_fail {w w1 : World} {b N : Nat} {d : Dk} (h : OwnF F w w1 b d) (ok : d.Ok N) (hN : N + 1 ≤ 1099511627776) (k : Int) (hk : I64 k) : Calls Tryd.prog 19 #[.pointer (some ⟨b, 0, none⟩), .int .i64 k] w1 fun e w' => e = .returned (.tuple #[]) ∧ OwnF F w w' b (d.fail k) := by
  obtain ⟨s, m, v, h1, h2, h3⟩ := h
  exact (fail_any h1 ok (by omega) k hk).mono fun e w' ⟨g1, g2⟩ => ⟨g1, OwnF.step h2 h3 g2⟩
theorem own_does {w w1 : World} {b N : Nat} {d : Dk} (h : OwnF F w w1 b d) (ok : d.Ok N) (hN : N + 1 ≤ 1099511627776) (x : DAct) (hx : x.Wf) : Calls Tryd.prog 18 #[.pointer (some ⟨b, 0, none⟩), .agg x.cells.toArray] w1 fun e w' => e = .returned (.int .i64 (d.does x).2) ∧ OwnF F w w' b (d.does x).1 := by
  obtain ⟨s, m, v, h1, h2, h3⟩ := h
  exact (does_any h1 ok hN x hx).mono fun e w' ⟨g1, g2⟩ => ⟨g1, OwnF.step h2 h3 g2⟩
theorem own_trip {w w1 : World} {b : Nat} {d : Dk} (h : OwnF F w w1 b d) (n k : Int) : Calls Tryd.prog 36 #[.pointer (some ⟨b, 0, none⟩), .int .i64 n, .int .i64 k] w1 fun e w' => e = .returned (.tuple #[]) ∧ OwnF F w w' b (d.trip n k) := by
  obtain ⟨s, m, v, h1, h2, h3⟩ := h
  exact (trip_any h1 n k).mono fun e w' ⟨g1, g2, g3⟩ => ⟨g1, OwnF.step h2 h3 (Step.of g2 g3 (fun k e => .inl e))⟩
theorem own_wake {w w1 : World} {b : Nat} {d : Dk} (h : OwnF F w w1 b d) : Calls Tryd.prog 20 #[.pointer (some ⟨b, 0, none⟩)] w1 fun e w' => e = .returned (.tuple #[]) ∧ OwnF F w w' b d.wake := by
  obtain ⟨s, m, v, h1, h2, h3⟩ := h
  exact (wake_any h1).mono fun e w' ⟨g1, g2, g3⟩ => ⟨g1, OwnF.step h2 h3 (Step.of g2 g3 (fun k e => .inl e))⟩
theorem own_room {w w1 : World} {b : Nat} {d : Dk} (h : OwnF F w w1 b d) (n : Int) : Calls Tryd.prog 42 #[.pointer (some ⟨b, 0, none⟩), .int .i64 n] w1 fun e w' => e = .returned (.tuple #[]) ∧ OwnF F w w' b (d.setRoom n) := by
  obtain ⟨s, m, v, h1, h2, h3⟩ := h
  exact (room_any h1 n).mono fun e w' ⟨g1, g2, g3⟩ => ⟨g1, OwnF.step h2 h3 (Step.of g2 g3 (fun k e => .inl e))⟩
theorem own_read {w w1 : World} {b : Nat} {d : Dk} (h : OwnF F w w1 b d) (f : ByteArray) (hf : f.size ≤ 9223372036854775807) : Calls Tryd.prog 21 #[.pointer (some ⟨b, 0, none⟩), .string f] w1 fun e w' => e = .returned (.tuple #[.string (d.read f).1, .int .i64 (d.read f).2]) ∧ OwnF F w w' b d := by
  have h0 := h
  obtain ⟨s, m, v, h1, h2, h3⟩ := h
  exact (read_any h1 f hf).mono fun e w' ⟨g1, g2⟩ => ⟨g1, h0.quiet g2⟩
theorem own_waits {w w1 : World} {b : Nat} {d : Dk} (h : OwnF F w w1 b d) : Calls Tryd.prog 44 #[.pointer (some ⟨b, 0, none⟩)] w1 fun e w' => e = .returned (.int .i64 d.waits) ∧ OwnF F w w' b d := by
  have h0 := h
  obtain ⟨s, m, v, h1, h2, h3⟩ := h
  exact (waits_any h1).mono fun e w' ⟨g1, g2⟩ => ⟨g1, g2 ▸ h0⟩
theorem own_down {w w1 : World} {b : Nat} {d : Dk} (h : OwnF F w w1 b d) : Calls Tryd.prog 40 #[.pointer (some ⟨b, 0, none⟩)] w1 fun e w' => e = .returned (.bool d.down) ∧ OwnF F w w' b d := by
  have h0 := h
  obtain ⟨s, m, v, h1, h2, h3⟩ := h
  exact (down_any h1).mono fun e w' ⟨g1, g2⟩ => ⟨g1, g2 ▸ h0⟩
theorem own_calls {w w1 : World} {b : Nat} {d : Dk} (h : OwnF F w w1 b d) : Calls Tryd.prog 49 #[.pointer (some ⟨b, 0, none⟩)] w1 fun e w' => e = .returned (.int .i64 d.calls) ∧ OwnF F w w' b d := by
  have h0 := h
  obtain ⟨s, m, v, h1, h2, h3⟩ := h
  exact (calls_any h1).mono fun e w' ⟨g1, g2⟩ => ⟨g1, g2 ▸ h0⟩
end
end Go.Proofs.YtjobmlnekpaagaaDoor
