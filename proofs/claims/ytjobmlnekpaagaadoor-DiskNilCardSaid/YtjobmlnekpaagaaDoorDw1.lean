/- The small calls of a disk, walked. -/
import Derived.Test.YtjobmlnekpaagaaDoorMem
namespace Go.Proofs.YtjobmlnekpaagaaDoor
open Go Go.RowKit Go.Maps

/-- A disk's cells, as the walk wants them. -/
structure Cells (w : World) (b : Nat) (s m : Nat) (v : Value) (d : Dk) : Prop where
  c0 : w.cell? ⟨b, 0, none⟩ = some (.map (some s))
  c1 : w.cell? ⟨b, 1, none⟩ = some (.map (some m))
  c2 : w.cell? ⟨b, 2, none⟩ = some v
  c3 : w.cell? ⟨b, 3, none⟩ = some (.int .i64 d.room)
  c4 : w.cell? ⟨b, 4, none⟩ = some (.int .i64 d.calls)
  c5 : w.cell? ⟨b, 5, none⟩ = some (.int .i64 d.after)
  c6 : w.cell? ⟨b, 6, none⟩ = some (.int .i64 d.keep)
  c7 : w.cell? ⟨b, 7, none⟩ = some (.bool d.down)
theorem cells_of {w : World} {b s m : Nat} {v : Value} {d : Dk} (h : w.heap[b]? = some (.cells #[.map (some s), .map (some m), v, .int .i64 d.room, .int .i64 d.calls, .int .i64 d.after, .int .i64 d.keep, .bool d.down] 90 (0, 0))) : Cells w b s m v d := by
  constructor <;> (rw [cell_of_block h]; rfl)
theorem DiskAt.cs {w : World} {b s m : Nat} {v : Value} {d : Dk} (h : DiskAt w b s m v d) : Cells w b s m v d := by
  constructor <;> (rw [cell_of_block h.cells]; rfl)
theorem DiskAt.fz {w : World} {b s m : Nat} {v : Value} {d : Dk} (h : DiskAt w b s m v d) (i : Nat) : w.frozen? ⟨b, i, none⟩ = false := frozen_of_block h.cells i

set_option maxHeartbeats 400000 in
theorem ready_nil (w : World) : Calls Tryd.prog 50 #[.pointer none] w fun e w' => e = .returned (.int .i64 1) ∧ w = w' := by
  go_enter Tryd.func50, Tryd.ntmps50
  go_wp2
  go_ret
  exact ⟨rfl, rfl⟩
set_option maxHeartbeats 400000 in
theorem ready_up {w : World} {b s m : Nat} {v : Value} {d : Dk} (h : DiskAt w b s m v d) (hd : d.down = false) :
    Calls Tryd.prog 50 #[.pointer (some ⟨b, 0, none⟩)] w fun e w' => e = .returned (.int .i64 0) ∧ w = w' := by
  have c7 := h.cs.c7
  rw [hd] at c7
  clear h hd
  go_enter Tryd.func50, Tryd.ntmps50
  go_wp2
  go_ret
  exact ⟨rfl, rfl⟩
set_option maxHeartbeats 400000 in
theorem ready_down {w : World} {b s m : Nat} {v : Value} {d : Dk} (h : DiskAt w b s m v d) (hd : d.down = true) :
    Calls Tryd.prog 50 #[.pointer (some ⟨b, 0, none⟩)] w fun e w' => e = .returned (.int .i64 8) ∧ w = w' := by
  have c7 := h.cs.c7
  rw [hd] at c7
  clear h hd
  go_enter Tryd.func50, Tryd.ntmps50
  go_wp2
  go_ret
  exact ⟨rfl, rfl⟩

theorem ret_bool {a b : Bool} (h : a = b) : Ending.returned (.bool a) = .returned (.bool b) := by rw [h]
theorem ret_int {k : IntKind} {a b : Int} (h : a = b) : Ending.returned (.int k a) = .returned (.int k b) := by rw [h]
theorem wrapped_wrap (n : Int) : wrap64 n = Dk.wrapped n := by unfold wrap64 Dk.wrapped; omega

set_option maxHeartbeats 400000 in
theorem count_any {w : World} {b s m : Nat} {v : Value} {N : Nat} {d : Dk} (h : DiskAt w b s m v d) (ok : d.Ok N) :
    Calls Tryd.prog 53 #[.pointer (some ⟨b, 0, none⟩)] w fun e w' => e = .returned (.bool d.trips) ∧ DiskAt w' b s m v d.counted ∧ Kept (fun k => k = b) w w' := by
  have c4 := h.cs.c4
  have c5 := h.cs.c5
  have f4 := h.fz 4
  have f5 := h.fz 5
  have a0 := ok.after0
  have a1 := ok.after1
  have H := Lib.hid h
  clear h ok
  by_cases h0 : d.after = 0
  · have h0' : (d.after == 0) = true := by simpa using h0
    have H0 := Lib.hid h0
    clear h0
    go_enter Tryd.func53, Tryd.ntmps53
    go_wp2
    go_ret
    refine ⟨by rw [Dk.trips, H0.out]; rfl, ?_, Kept.own _ _ _ _⟩
    exact H.out.set 4 _ (by simp [Dk.counted, H0.out, wrapped_wrap]) rfl rfl rfl
  · have h0' : (d.after == 0) = false := by simpa using h0
    have H0 := Lib.hid h0
    clear h0
    go_enter Tryd.func53, Tryd.ntmps53
    go_wp2
    go_ret
    refine ⟨?_, ?_, (Kept.own _ _ _ _).trans (Kept.own _ _ _ _)⟩
    · refine ret_bool ?_
      rw [Dk.trips, Bool.eq_iff_iff]
      simp only [beq_iff_eq]
      omega
    · refine (H.out.set (d' := { d with calls := Dk.wrapped (d.calls + 1) }) 4 _ (by simp [wrapped_wrap]) rfl rfl rfl).set 5 _ ?_ rfl rfl rfl
      simp [Dk.counted, H0.out]

set_option maxHeartbeats 400000 in
theorem room_any {w : World} {b s m : Nat} {v : Value} {d : Dk} (h : DiskAt w b s m v d) (n : Int) :
    Calls Tryd.prog 42 #[.pointer (some ⟨b, 0, none⟩), .int .i64 n] w fun e w' => e = .returned (.tuple #[]) ∧ DiskAt w' b s m v (d.setRoom n) ∧ Kept (fun k => k = b) w w' := by
  have c3 := h.cs.c3
  have f3 := h.fz 3
  have H := Lib.hid h
  clear h
  go_enter Tryd.func42, Tryd.ntmps42
  go_wp2
  all_goals
    go_end0
    refine ⟨rfl, H.out.set (d' := d.setRoom n) 3 _ ?_ rfl rfl rfl, Kept.own _ _ _ _⟩
    simp [Dk.setRoom]
    try omega
set_option maxHeartbeats 400000 in
theorem wake_any {w : World} {b s m : Nat} {v : Value} {d : Dk} (h : DiskAt w b s m v d) :
    Calls Tryd.prog 20 #[.pointer (some ⟨b, 0, none⟩)] w fun e w' => e = .returned (.tuple #[]) ∧ DiskAt w' b s m v d.wake ∧ Kept (fun k => k = b) w w' := by
  have c7 := h.cs.c7
  have f7 := h.fz 7
  have H := Lib.hid h
  clear h
  go_enter Tryd.func20, Tryd.ntmps20
  go_wp2
  go_end0
  refine ⟨rfl, H.out.set (d' := d.wake) 7 _ ?_ rfl rfl rfl, Kept.own _ _ _ _⟩
  simp [Dk.wake]
set_option maxHeartbeats 400000 in
theorem trip_any {w : World} {b s m : Nat} {v : Value} {d : Dk} (h : DiskAt w b s m v d) (n k : Int) :
    Calls Tryd.prog 36 #[.pointer (some ⟨b, 0, none⟩), .int .i64 n, .int .i64 k] w fun e w' => e = .returned (.tuple #[]) ∧ DiskAt w' b s m v (d.trip n k) ∧ Kept (fun k => k = b) w w' := by
  have c5 := h.cs.c5
  have c6 := h.cs.c6
  have f5 := h.fz 5
  have f6 := h.fz 6
  have H := Lib.hid h
  clear h
  go_enter Tryd.func36, Tryd.ntmps36
  go_wp2
  all_goals
    go_end0
    refine ⟨rfl, ?_, (Kept.own _ _ _ _).trans (Kept.own _ _ _ _)⟩
    refine (H.out.set (d' := { d with after := if n < 1 then 1 else n }) 5 _ (by simp; try omega) rfl rfl rfl).set 6 _ ?_ rfl rfl rfl
    simp [Dk.trip]
end Go.Proofs.YtjobmlnekpaagaaDoor
