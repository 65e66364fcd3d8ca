/- Acts on a disk. -/
import Derived.Test.YtjobmlnekpaagaaDoorDw9
namespace Go.Proofs.YtjobmlnekpaagaaDoor
open Go Go.RowKit Go.Maps
set_option linter.unusedVariables false

/-- An act. -/
structure DAct where
  kind : Int
  name : ByteArray
  n : Int
  m : Int
  s : ByteArray
/-- An int. -/
def I64 (n : Int) : Prop := -9223372036854775808 ≤ n ∧ n ≤ 9223372036854775807
structure DAct.Wf (x : DAct) : Prop where
  kind : I64 x.kind
  name : x.name.size ≤ 9223372036854775807
  n : I64 x.n
  m : I64 x.m
  s : x.s.size ≤ 9223372036854775807
def DAct.cells (x : DAct) : List Value := [.int .i64 x.kind, .string x.name, .int .i64 x.n, .int .i64 x.m, .string x.s]
def Dk.does (d : Dk) (x : DAct) : Dk × Int :=
  if x.kind = 0 then d.put x.name x.n x.s
  else if x.kind = 1 then d.trim x.name x.n
  else if x.kind = 2 then d.move x.name x.s
  else if x.kind = 3 then d.drop x.name
  else if x.kind = 4 then d.sync
  else if x.kind = 5 then (d.fail x.n, 0)
  else if x.kind = 6 then (d.trip x.n x.m, 0)
  else if x.kind = 7 then (d.wake, 0)
  else if x.kind = 8 then (d.setRoom x.n, 0)
  else (d, 0)
theorem Dk.Ok.does {d : Dk} {N : Nat} (h : d.Ok N) {x : DAct} (hx : x.Wf) : (d.does x).1.Ok (N + 1) := by
  unfold Dk.does
  split
  · exact h.put _ _ _
  · split
    · exact h.trim _ _
    · split
      · exact h.move _ _
      · split
        · exact h.drop _
        · split
          · exact h.sync.mono (Nat.le_succ _)
          · split
            · exact (h.fail _).mono (Nat.le_succ _)
            · split
              · exact (h.trip hx.n.2 hx.m).mono (Nat.le_succ _)
              · split
                · exact h.wake.mono (Nat.le_succ _)
                · split
                  · exact (h.setRoom hx.n.2).mono (Nat.le_succ _)
                  · exact h.mono (Nat.le_succ _)
theorem fail_any {w : World} {b s m : Nat} {v : Value} {N : Nat} {d : Dk} (h : DiskAt w b s m v d) (ok : d.Ok N) (hN : N ≤ 1099511627776) (k : Int) (hk : I64 k) :
    Calls Tryd.prog 19 #[.pointer (some ⟨b, 0, none⟩), .int .i64 k] w fun e w' => e = .returned (.tuple #[]) ∧ Step w b s m v w' (d.fail k) := by
  cases hd : d.down with
  | true =>
    refine (fail_down h hd k).mono fun e w' ⟨h1, h2⟩ => ⟨h1, ?_⟩
    subst h2
    have : d.fail k = d := by unfold Dk.fail; rw [hd]; rfl
    rw [this]
    exact Step.same h (Kept.refl _ _)
  | false =>
    refine (fail_up h ok hN hd k hk.1 hk.2).mono fun e w' ⟨h1, ⟨m', h2, h3⟩, h4⟩ => ⟨h1, ⟨s, m', _, h2, fun j hf => ?_⟩, h4.mono fun j _ e => ?_⟩
    · rcases hf with e | e | e | e
      · exact .inl (.inl e)
      · exact .inl (.inr (.inl e))
      · exact .inr (by omega)
      · simp [Value.ownBlock] at e
    · rcases e with e | e
      · exact .inl e
      · exact .inr (.inl e)
set_option maxRecDepth 100000 in
set_option maxHeartbeats 4000000 in
theorem does_any {w : World} {b s m : Nat} {v : Value} {N : Nat} {d : Dk} (h : DiskAt w b s m v d) (ok : d.Ok N) (hN : N + 1 ≤ 1099511627776) (x : DAct) (hx : x.Wf) :
    Calls Tryd.prog 18 #[.pointer (some ⟨b, 0, none⟩), .agg x.cells.toArray] w fun e w' => e = .returned (.int .i64 (d.does x).2) ∧ Step w b s m v w' (d.does x).1 := by
  obtain ⟨kind, name, n, mm, t⟩ := x
  obtain ⟨⟨hk0, hk1⟩, hname, ⟨hn0, hn1⟩, ⟨hm0, hm1⟩, ht⟩ := hx
  simp only at hk0 hk1 hname hn0 hn1 hm0 hm1 ht
  simp only [DAct.cells]
  have HB := Lib.hid ((Kept.refl (fun _ => False) w).alloc (.cells #[.int .i64 kind, .string name, .int .i64 n, .int .i64 mm, .string t] 31))
  have h' := h.kept HB.out (fun _ _ f => f)
  by_cases c0 : kind = 0
  · subst c0
    have hc := put_any h' ok hN name n t hname ht hn0 hn1
    have HE : Hid (d.does ⟨0, name, n, mm, t⟩ = d.put name n t) := by unfold Hid Dk.does; rfl
    clear h h' ok
    go_enter Tryd.func18, Tryd.ntmps18
    go_wp2_with (go_at_call 15; refine hc.mono ?_; rintro e w1 ⟨rfl, hs⟩)
    go_ret
    rw [HE.out]
    exact ⟨rfl, hs.before HB.out (fun _ f => f.elim)⟩
  by_cases c1 : kind = 1
  · subst c1
    have hc := trim_any h' ok hN name n hname hn0 hn1
    have HE : Hid (d.does ⟨1, name, n, mm, t⟩ = d.trim name n) := by unfold Hid Dk.does; rfl
    clear h h' ok
    go_enter Tryd.func18, Tryd.ntmps18
    go_wp2_with (go_at_call 55; refine hc.mono ?_; rintro e w1 ⟨rfl, hs⟩)
    go_ret
    rw [HE.out]
    exact ⟨rfl, hs.before HB.out (fun _ f => f.elim)⟩
  by_cases c2 : kind = 2
  · subst c2
    have hc := move_any h' ok hN name t hname ht
    have HE : Hid (d.does ⟨2, name, n, mm, t⟩ = d.move name t) := by unfold Hid Dk.does; rfl
    clear h h' ok
    go_enter Tryd.func18, Tryd.ntmps18
    go_wp2_with (go_at_call 56; refine hc.mono ?_; rintro e w1 ⟨rfl, hs⟩)
    go_ret
    rw [HE.out]
    exact ⟨rfl, hs.before HB.out (fun _ f => f.elim)⟩
  by_cases c3 : kind = 3
  · subst c3
    have hc := drop_any h' ok hN name hname
    have HE : Hid (d.does ⟨3, name, n, mm, t⟩ = d.drop name) := by unfold Hid Dk.does; rfl
    clear h h' ok
    go_enter Tryd.func18, Tryd.ntmps18
    go_wp2_with (go_at_call 57; refine hc.mono ?_; rintro e w1 ⟨rfl, hs⟩)
    go_ret
    rw [HE.out]
    exact ⟨rfl, hs.before HB.out (fun _ f => f.elim)⟩
  by_cases c4 : kind = 4
  · subst c4
    have hc := sync_any h' ok (by omega)
    have HE : Hid (d.does ⟨4, name, n, mm, t⟩ = d.sync) := by unfold Hid Dk.does; rfl
    clear h h' ok
    go_enter Tryd.func18, Tryd.ntmps18
    go_wp2_with (go_at_call 16; refine hc.mono ?_; rintro e w1 ⟨rfl, hs⟩)
    go_ret
    rw [HE.out]
    exact ⟨rfl, hs.before HB.out (fun _ f => f.elim)⟩
  by_cases c5 : kind = 5
  · subst c5
    have hc := fail_any h' ok (by omega) n ⟨hn0, hn1⟩
    have HE : Hid (d.does ⟨5, name, n, mm, t⟩ = (d.fail n, 0)) := by unfold Hid Dk.does; rfl
    clear h h' ok
    go_enter Tryd.func18, Tryd.ntmps18
    go_wp2_with (go_at_call 19; refine hc.mono ?_; rintro e w1 ⟨rfl, hs⟩)
    go_ret
    rw [HE.out]
    exact ⟨rfl, hs.before HB.out (fun _ f => f.elim)⟩
  by_cases c6 : kind = 6
  · subst c6
    have hc := trip_any h' n mm
    have HE : Hid (d.does ⟨6, name, n, mm, t⟩ = (d.trip n mm, 0)) := by unfold Hid Dk.does; rfl
    clear h h' ok
    go_enter Tryd.func18, Tryd.ntmps18
    go_wp2_with (go_at_call 36; refine hc.mono ?_; rintro e w1 ⟨rfl, hs, hk⟩)
    go_ret
    rw [HE.out]
    exact ⟨rfl, (Step.of hs hk (fun k e => .inl e)).before HB.out (fun _ f => f.elim)⟩
  by_cases c7 : kind = 7
  · subst c7
    have hc := wake_any h'
    have HE : Hid (d.does ⟨7, name, n, mm, t⟩ = (d.wake, 0)) := by unfold Hid Dk.does; rfl
    clear h h' ok
    go_enter Tryd.func18, Tryd.ntmps18
    go_wp2_with (go_at_call 20; refine hc.mono ?_; rintro e w1 ⟨rfl, hs, hk⟩)
    go_ret
    rw [HE.out]
    exact ⟨rfl, (Step.of hs hk (fun k e => .inl e)).before HB.out (fun _ f => f.elim)⟩
  by_cases c8 : kind = 8
  · subst c8
    have hc := room_any h' n
    have HE : Hid (d.does ⟨8, name, n, mm, t⟩ = (d.setRoom n, 0)) := by unfold Hid Dk.does; rfl
    clear h h' ok
    go_enter Tryd.func18, Tryd.ntmps18
    go_wp2_with (go_at_call 42; refine hc.mono ?_; rintro e w1 ⟨rfl, hs, hk⟩)
    go_ret
    rw [HE.out]
    exact ⟨rfl, (Step.of hs hk (fun k e => .inl e)).before HB.out (fun _ f => f.elim)⟩
  have e0 : (kind == 0) = false := by simpa using c0
  have e1 : (kind == 1) = false := by simpa using c1
  have e2 : (kind == 2) = false := by simpa using c2
  have e3 : (kind == 3) = false := by simpa using c3
  have e4 : (kind == 4) = false := by simpa using c4
  have e5 : (kind == 5) = false := by simpa using c5
  have e6 : (kind == 6) = false := by simpa using c6
  have e7 : (kind == 7) = false := by simpa using c7
  have e8 : (kind == 8) = false := by simpa using c8
  have HE : Hid (d.does ⟨kind, name, n, mm, t⟩ = (d, 0)) := by unfold Hid Dk.does; simp [c0, c1, c2, c3, c4, c5, c6, c7, c8]
  have H' := Lib.hid h
  clear h h' ok c0 c1 c2 c3 c4 c5 c6 c7 c8
  go_enter Tryd.func18, Tryd.ntmps18
  go_wp2
  go_ret
  rw [HE.out]
  exact ⟨rfl, Step.same H'.out HB.out⟩
end Go.Proofs.YtjobmlnekpaagaaDoor
