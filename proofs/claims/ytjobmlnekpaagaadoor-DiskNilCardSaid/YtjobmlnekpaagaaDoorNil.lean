/- A nil disk, and one that is down: its calls. -/
import Derived.Test.YtjobmlnekpaagaaDoorOwn
namespace Go.Proofs.YtjobmlnekpaagaaDoor
open Go Go.RowKit Go.Maps
set_option linter.unusedVariables false

set_option maxRecDepth 100000 in
set_option maxHeartbeats 800000 in
theorem there_nil (f : ByteArray) (w : World) : Calls Tryd.prog 59 #[.pointer none, .string f] w fun e w' => e = .returned (.int .i64 1) ∧ w = w' := by
  go_enter Tryd.func59, Tryd.ntmps59
  go_wp2_with (first | (go_at_call 50; refine (ready_nil _).mono ?_; rintro e w1 ⟨rfl, rfl⟩))
  go_ret
  exact ⟨rfl, rfl⟩

set_option maxRecDepth 100000 in
set_option maxHeartbeats 800000 in
theorem put_nil (f : ByteArray) (a : Int) (t : ByteArray) (w : World) : Calls Tryd.prog 15 #[.pointer none, .string f, .int .i64 a, .string t] w fun e w' => e = .returned (.int .i64 1) ∧ w = w' := by
  go_enter Tryd.func15, Tryd.ntmps15
  go_wp2_with (first | (go_at_call 50; refine (ready_nil _).mono ?_; rintro e w1 ⟨rfl, rfl⟩))
  go_ret
  exact ⟨rfl, rfl⟩

set_option maxRecDepth 100000 in
set_option maxHeartbeats 800000 in
theorem trim_nil (f : ByteArray) (a : Int) (w : World) : Calls Tryd.prog 55 #[.pointer none, .string f, .int .i64 a] w fun e w' => e = .returned (.int .i64 1) ∧ w = w' := by
  go_enter Tryd.func55, Tryd.ntmps55
  go_wp2_with (first | (go_at_call 59; refine (there_nil _ _).mono ?_; rintro e w1 ⟨rfl, rfl⟩))
  go_ret
  exact ⟨rfl, rfl⟩

set_option maxRecDepth 100000 in
set_option maxHeartbeats 800000 in
theorem move_nil (f t : ByteArray) (w : World) : Calls Tryd.prog 56 #[.pointer none, .string f, .string t] w fun e w' => e = .returned (.int .i64 1) ∧ w = w' := by
  go_enter Tryd.func56, Tryd.ntmps56
  go_wp2_with (first | (go_at_call 50; refine (ready_nil _).mono ?_; rintro e w1 ⟨rfl, rfl⟩) | (go_at_call 59; refine (there_nil _ _).mono ?_; rintro e w1 ⟨rfl, rfl⟩))
  go_ret
  exact ⟨rfl, rfl⟩

set_option maxRecDepth 100000 in
set_option maxHeartbeats 800000 in
theorem drop_nil (f : ByteArray) (w : World) : Calls Tryd.prog 57 #[.pointer none, .string f] w fun e w' => e = .returned (.int .i64 1) ∧ w = w' := by
  go_enter Tryd.func57, Tryd.ntmps57
  go_wp2_with (first | (go_at_call 59; refine (there_nil _ _).mono ?_; rintro e w1 ⟨rfl, rfl⟩))
  go_ret
  exact ⟨rfl, rfl⟩

set_option maxRecDepth 100000 in
set_option maxHeartbeats 800000 in
theorem sync_nil (w : World) : Calls Tryd.prog 16 #[.pointer none] w fun e w' => e = .returned (.int .i64 1) ∧ w = w' := by
  go_enter Tryd.func16, Tryd.ntmps16
  go_wp2_with (first | (go_at_call 50; refine (ready_nil _).mono ?_; rintro e w1 ⟨rfl, rfl⟩))
  go_ret
  exact ⟨rfl, rfl⟩

set_option maxRecDepth 100000 in
set_option maxHeartbeats 800000 in
theorem fail_nil (k : Int) (w : World) : Calls Tryd.prog 19 #[.pointer none, .int .i64 k] w fun e w' => e = .returned (.tuple #[]) ∧ w = w' := by
  go_enter Tryd.func19, Tryd.ntmps19
  go_wp2_with (first | (go_at_call 50; refine (ready_nil _).mono ?_; rintro e w1 ⟨rfl, rfl⟩))
  go_returns
  exact ⟨rfl, rfl⟩

set_option maxRecDepth 100000 in
set_option maxHeartbeats 800000 in
theorem trip_nil (n k : Int) (w : World) : Calls Tryd.prog 36 #[.pointer none, .int .i64 n, .int .i64 k] w fun e w' => e = .returned (.tuple #[]) ∧ w = w' := by
  go_enter Tryd.func36, Tryd.ntmps36
  go_wp2
  go_end0
  exact ⟨rfl, rfl⟩

set_option maxRecDepth 100000 in
set_option maxHeartbeats 800000 in
theorem wake_nil (w : World) : Calls Tryd.prog 20 #[.pointer none] w fun e w' => e = .returned (.tuple #[]) ∧ w = w' := by
  go_enter Tryd.func20, Tryd.ntmps20
  go_wp2
  go_end0
  exact ⟨rfl, rfl⟩

set_option maxRecDepth 100000 in
set_option maxHeartbeats 800000 in
theorem room_nil (n : Int) (w : World) : Calls Tryd.prog 42 #[.pointer none, .int .i64 n] w fun e w' => e = .returned (.tuple #[]) ∧ w = w' := by
  go_enter Tryd.func42, Tryd.ntmps42
  go_wp2
  go_end0
  exact ⟨rfl, rfl⟩

set_option maxRecDepth 100000 in
set_option maxHeartbeats 800000 in
theorem names_nil (w : World) : Calls Tryd.prog 48 #[.pointer none] w fun e w' => e = .returned (.slice none 0 0) ∧ w = w' := by
  go_enter Tryd.func48, Tryd.ntmps48
  go_wp2_with (first | (go_at_call 50; refine (ready_nil _).mono ?_; rintro e w1 ⟨rfl, rfl⟩))
  go_ret
  exact ⟨rfl, rfl⟩

set_option maxRecDepth 100000 in
set_option maxHeartbeats 800000 in
theorem used_nil (w : World) : Calls Tryd.prog 43 #[.pointer none] w fun e w' => e = .returned (.int .i64 0) ∧ w = w' := by
  go_enter Tryd.func43, Tryd.ntmps43
  go_wp2_with (first | (go_at_call 50; refine (ready_nil _).mono ?_; rintro e w1 ⟨rfl, rfl⟩))
  go_ret
  exact ⟨rfl, rfl⟩

set_option maxRecDepth 100000 in
set_option maxHeartbeats 800000 in
theorem waits_nil (w : World) : Calls Tryd.prog 44 #[.pointer none] w fun e w' => e = .returned (.int .i64 0) ∧ w = w' := by
  go_enter Tryd.func44, Tryd.ntmps44
  go_wp2_with (first | (go_at_call 50; refine (ready_nil _).mono ?_; rintro e w1 ⟨rfl, rfl⟩))
  go_ret
  exact ⟨rfl, rfl⟩

set_option maxRecDepth 100000 in
set_option maxHeartbeats 800000 in
theorem calls_nil (w : World) : Calls Tryd.prog 49 #[.pointer none] w fun e w' => e = .returned (.int .i64 0) ∧ w = w' := by
  go_enter Tryd.func49, Tryd.ntmps49
  go_wp2
  go_ret
  exact ⟨rfl, rfl⟩

set_option maxRecDepth 100000 in
set_option maxHeartbeats 800000 in
theorem down_nil (w : World) : Calls Tryd.prog 40 #[.pointer none] w fun e w' => e = .returned (.bool true) ∧ w = w' := by
  go_enter Tryd.func40, Tryd.ntmps40
  go_wp2
  go_ret
  exact ⟨rfl, rfl⟩

set_option maxRecDepth 100000 in
set_option maxHeartbeats 800000 in
theorem names_down {w : World} {b s m : Nat} {v : Value} {d : Dk} (h : DiskAt w b s m v d) (hd : d.down = true) : Calls Tryd.prog 48 #[.pointer (some ⟨b, 0, none⟩)] w fun e w' => e = .returned (.slice none 0 0) ∧ w = w' := by
  have hr := ready_down h hd
  clear h hd
  go_enter Tryd.func48, Tryd.ntmps48
  go_wp2_with (first | (go_at_call 50; refine hr.mono ?_; rintro e w1 ⟨rfl, rfl⟩))
  go_ret
  exact ⟨rfl, rfl⟩

set_option maxRecDepth 100000 in
set_option maxHeartbeats 800000 in
theorem used_down {w : World} {b s m : Nat} {v : Value} {d : Dk} (h : DiskAt w b s m v d) (hd : d.down = true) : Calls Tryd.prog 43 #[.pointer (some ⟨b, 0, none⟩)] w fun e w' => e = .returned (.int .i64 0) ∧ w = w' := by
  have hr := ready_down h hd
  clear h hd
  go_enter Tryd.func43, Tryd.ntmps43
  go_wp2_with (first | (go_at_call 50; refine hr.mono ?_; rintro e w1 ⟨rfl, rfl⟩))
  go_ret
  exact ⟨rfl, rfl⟩

set_option maxRecDepth 100000 in
set_option maxHeartbeats 800000 in
theorem read_nil (f : ByteArray) (w : World) : Calls Tryd.prog 21 #[.pointer none, .string f] w fun e w' => e = .returned (.tuple #[.string .empty, .int .i64 1]) ∧ w = w' := by
  go_enter Tryd.func21, Tryd.ntmps21
  go_wp2_with (first | (go_at_call 59; refine (there_nil _ _).mono ?_; rintro e w1 ⟨rfl, rfl⟩))
  go_ret2
  exact ⟨rfl, rfl⟩

def nilDoes (k : Int) : Int := if k = 0 ∨ k = 1 ∨ k = 2 ∨ k = 3 ∨ k = 4 then 1 else 0

set_option maxRecDepth 100000 in
set_option maxHeartbeats 4000000 in
theorem does_nil (x : DAct) (hx : x.Wf) (w : World) : Calls Tryd.prog 18 #[.pointer none, .agg x.cells.toArray] w fun e w' => e = .returned (.int .i64 (nilDoes x.kind)) ∧ Kept (fun _ => False) w w' := by
  obtain ⟨kind, name, n, mm, t⟩ := x
  simp only [DAct.cells]
  clear hx
  have HB := Lib.hid ((Kept.refl (fun _ => False) w).alloc (.cells #[.int .i64 kind, .string name, .int .i64 n, .int .i64 mm, .string t] 31))
  by_cases c0 : kind = 0
  · subst c0
    have HE : Hid (nilDoes 0 = 1) := by unfold Hid nilDoes; decide
    go_enter Tryd.func18, Tryd.ntmps18
    go_wp2_with (go_at_call 15; refine (put_nil _ _ _ _).mono ?_; rintro e w1 ⟨rfl, rfl⟩)
    go_ret
    rw [HE.out]
    exact ⟨rfl, HB.out⟩
  by_cases c1 : kind = 1
  · subst c1
    have HE : Hid (nilDoes 1 = 1) := by unfold Hid nilDoes; decide
    go_enter Tryd.func18, Tryd.ntmps18
    go_wp2_with (go_at_call 55; refine (trim_nil _ _ _).mono ?_; rintro e w1 ⟨rfl, rfl⟩)
    go_ret
    rw [HE.out]
    exact ⟨rfl, HB.out⟩
  by_cases c2 : kind = 2
  · subst c2
    have HE : Hid (nilDoes 2 = 1) := by unfold Hid nilDoes; decide
    go_enter Tryd.func18, Tryd.ntmps18
    go_wp2_with (go_at_call 56; refine (move_nil _ _ _).mono ?_; rintro e w1 ⟨rfl, rfl⟩)
    go_ret
    rw [HE.out]
    exact ⟨rfl, HB.out⟩
  by_cases c3 : kind = 3
  · subst c3
    have HE : Hid (nilDoes 3 = 1) := by unfold Hid nilDoes; decide
    go_enter Tryd.func18, Tryd.ntmps18
    go_wp2_with (go_at_call 57; refine (drop_nil _ _).mono ?_; rintro e w1 ⟨rfl, rfl⟩)
    go_ret
    rw [HE.out]
    exact ⟨rfl, HB.out⟩
  by_cases c4 : kind = 4
  · subst c4
    have HE : Hid (nilDoes 4 = 1) := by unfold Hid nilDoes; decide
    go_enter Tryd.func18, Tryd.ntmps18
    go_wp2_with (go_at_call 16; refine (sync_nil _).mono ?_; rintro e w1 ⟨rfl, rfl⟩)
    go_ret
    rw [HE.out]
    exact ⟨rfl, HB.out⟩
  by_cases c5 : kind = 5
  · subst c5
    have HE : Hid (nilDoes 5 = 0) := by unfold Hid nilDoes; decide
    go_enter Tryd.func18, Tryd.ntmps18
    go_wp2_with (go_at_call 19; refine (fail_nil _ _).mono ?_; rintro e w1 ⟨rfl, rfl⟩)
    go_ret
    rw [HE.out]
    exact ⟨rfl, HB.out⟩
  by_cases c6 : kind = 6
  · subst c6
    have HE : Hid (nilDoes 6 = 0) := by unfold Hid nilDoes; decide
    go_enter Tryd.func18, Tryd.ntmps18
    go_wp2_with (go_at_call 36; refine (trip_nil _ _ _).mono ?_; rintro e w1 ⟨rfl, rfl⟩)
    go_ret
    rw [HE.out]
    exact ⟨rfl, HB.out⟩
  by_cases c7 : kind = 7
  · subst c7
    have HE : Hid (nilDoes 7 = 0) := by unfold Hid nilDoes; decide
    go_enter Tryd.func18, Tryd.ntmps18
    go_wp2_with (go_at_call 20; refine (wake_nil _).mono ?_; rintro e w1 ⟨rfl, rfl⟩)
    go_ret
    rw [HE.out]
    exact ⟨rfl, HB.out⟩
  by_cases c8 : kind = 8
  · subst c8
    have HE : Hid (nilDoes 8 = 0) := by unfold Hid nilDoes; decide
    go_enter Tryd.func18, Tryd.ntmps18
    go_wp2_with (go_at_call 42; refine (room_nil _ _).mono ?_; rintro e w1 ⟨rfl, rfl⟩)
    go_ret
    rw [HE.out]
    exact ⟨rfl, HB.out⟩

  have e0 : (kind == 0) = false := by simpa using c0
  have e1 : (kind == 1) = false := by simpa using c1
  have e2 : (kind == 2) = false := by simpa using c2
  have e3 : (kind == 3) = false := by simpa using c3
  have e4 : (kind == 4) = false := by simpa using c4
  have e5 : (kind == 5) = false := by simpa using c5
  have e6 : (kind == 6) = false := by simpa using c6
  have e7 : (kind == 7) = false := by simpa using c7
  have e8 : (kind == 8) = false := by simpa using c8
  have HE : Hid (nilDoes kind = 0) := by unfold Hid nilDoes; rw [if_neg (by omega)]
  clear c0 c1 c2 c3 c4 c5 c6 c7 c8
  go_enter Tryd.func18, Tryd.ntmps18
  go_wp2
  go_ret
  rw [HE.out]
  exact ⟨rfl, HB.out⟩
end Go.Proofs.YtjobmlnekpaagaaDoor
