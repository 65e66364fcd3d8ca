/- DiskNil, walked. -/
import Derived.Test.YtjobmlnekpaagaaDoorNil
import Derived.Test.YtjobmlnekpaagaaDoorAk5
namespace Go.Proofs.YtjobmlnekpaagaaDoor
open Go Go.RowKit Go.Maps
set_option linter.unusedVariables false

def nA : ByteArray := ⟨#[97]⟩
def nB : ByteArray := ⟨#[98]⟩
/-- The disk of the law, down. -/
def dkD : Dk := ((Dk.new.put nA 0 nB).1.sync.1).fail 0
theorem dkD_put : (Dk.new.put nA 0 nB).2 = 0 := by decide +kernel
theorem dkD_sync : (Dk.new.put nA 0 nB).1.sync.2 = 0 := by decide +kernel
theorem dkD_down : dkD.down = true := by decide +kernel
theorem dkD_read : (dkD.read nA).2 = 8 := by decide +kernel
theorem dkD_woke : dkD.wake.read nA = (⟨#[98]⟩, 0) := by decide +kernel
theorem dkD_up : dkD.wake.down = false := rfl
theorem dkD_waits : dkD.waits = 0 := by decide +kernel
theorem does_down {d : Dk} (h : d.down = true) (x : DAct) (hx : x.kind = 0 ∨ x.kind = 1 ∨ x.kind = 2 ∨ x.kind = 3 ∨ x.kind = 4) : d.does x = (d, 8) := by
  unfold Dk.does Dk.put Dk.trim Dk.move Dk.drop Dk.sync
  rcases hx with e | e | e | e | e <;> simp [e, h, Dk.there]

/-- An act that has been laid in a block. -/
def Boxed (w : World) (g : Nat) (x : DAct) : Prop := g < w.heap.size ∧ w.cell? ⟨g, 0, none⟩ = some (.int .i64 x.kind) ∧ w.cell? ⟨g, 1, none⟩ = some (.string x.name) ∧ w.cell? ⟨g, 2, none⟩ = some (.int .i64 x.n) ∧ w.cell? ⟨g, 3, none⟩ = some (.int .i64 x.m) ∧ w.cell? ⟨g, 4, none⟩ = some (.string x.s)
theorem Boxed.kept {w w' : World} {g : Nat} {x : DAct} (h : Boxed w g x) (hk : Kept (fun _ => False) w w') : Boxed w' g x := by
  obtain ⟨h0, h1, h2, h3, h4, h5⟩ := h
  refine ⟨Nat.lt_of_lt_of_le h0 hk.size, ?_, ?_, ?_, ?_, ?_⟩ <;> (rw [hk.cell h0 (fun f => f)]; assumption)
theorem boxed_alloc (w : World) (x : DAct) (t : TypeId) : Boxed (w.alloc (.cells x.cells.toArray t)) w.heap.size x := by
  have hh : (w.alloc (.cells x.cells.toArray t)).heap[w.heap.size]? = some (.cells x.cells.toArray t (0, 0)) := (MapKept.heap_alloc w _).1
  refine ⟨(Array.getElem?_eq_some_iff.1 hh).1, ?_, ?_, ?_, ?_, ?_⟩ <;> (rw [cell_of_block hh]; rfl)
set_option maxRecDepth 100000 in
set_option maxHeartbeats 4000000 in
theorem diskNil_small (w : World) (x : DAct) (hx : x.Wf) (hk : x.kind = 0 ∨ x.kind = 1 ∨ x.kind = 2 ∨ x.kind = 3 ∨ x.kind = 4) :
    Calls Tryd.prog 12 #[.agg x.cells.toArray] w fun e w' => e = .returned (.bool true) ∧ Kept (fun _ => False) w w' := by
  have HX := Lib.hid hx
  have HB := Lib.hid (boxed_alloc w x 31)
  have HK := Lib.hid ((Kept.refl (fun _ => False) w).alloc (.cells x.cells.toArray 31))
  have hnil := fun w => does_nil x hx w
  have g0 : decide (x.kind ≥ 0) = true := decide_eq_true (by omega)
  have g1 : decide (x.kind ≤ 4) = true := decide_eq_true (by omega)
  have HD := Lib.hid (does_down dkD_down x hk)
  rw [show nilDoes x.kind = 1 by unfold nilDoes; rw [if_pos hk]] at hnil
  clear hk
  have HN := Lib.hid hnil
  clear hnil hx
  go_enter Tryd.func12, Tryd.ntmps12
  go_wp2_with fail
  refine (own_new (Kept.refl (fun _ => False) _)).mono ?_
  rintro e w1 ⟨b, rfl, h1⟩
  have H1 := Lib.hid h1
  clear h1
  go_wp2_with fail
  have hc := own_put H1.out Dk.ok_new (by decide) nA 0 nB (by decide) (by decide) ⟨by decide, by decide⟩
  rw [dkD_put] at hc
  refine hc.mono ?_
  clear hc
  rintro e w2 ⟨rfl, h2⟩
  have H2 := Lib.hid h2
  clear h2
  go_wp2_with fail
  have hc := own_sync H2.out (Dk.ok_new.put _ _ _) (by decide)
  rw [dkD_sync] at hc
  refine hc.mono ?_
  clear hc
  rintro e w3 ⟨rfl, h3⟩
  have H3 := Lib.hid h3
  clear h3
  go_wp2_with fail
  have hc := own_fail H3.out (Dk.ok_new.put nA 0 nB).sync (by decide) 0 ⟨by decide, by decide⟩
  refine hc.mono ?_
  clear hc
  rintro e w4 ⟨rfl, h4⟩
  have h4' : Own (w.alloc (.cells x.cells.toArray 31)) w4 b dkD := h4
  have H4 := Lib.hid h4'
  clear h4 h4'
  have HB4 := Lib.hid (HB.out.kept H4.out.kept)
  obtain ⟨_, b0, b1, b2, b3, b4⟩ := HB4.out
  go_wp2_with fail
  refine (HN.out _).mono ?_
  rintro e w5 ⟨rfl, hk5⟩
  have H5 := Lib.hid (H4.out.quiet hk5)
  have HB5 := Lib.hid (HB4.out.kept hk5)
  clear hk5 b0 b1 b2 b3 b4
  obtain ⟨_, b0, b1, b2, b3, b4⟩ := HB5.out
  go_wp2_with fail
  have hc := own_does H5.out ((Dk.ok_new.put nA 0 nB).sync.fail 0) (by decide) x HX.out
  rw [HD.out] at hc
  refine hc.mono ?_
  clear hc
  rintro e w6 ⟨rfl, h6⟩
  have H6 := Lib.hid h6
  clear h6 b0 b1 b2 b3 b4
  have HB6 := Lib.hid (HB.out.kept H6.out.kept)
  obtain ⟨_, b0, b1, b2, b3, b4⟩ := HB6.out
  go_wp2_with fail
  refine (HN.out _).mono ?_
  rintro e w7 ⟨rfl, hk7⟩
  have H7 := Lib.hid (H6.out.quiet hk7)
  have HB7 := Lib.hid (HB6.out.kept hk7)
  clear hk7
  obtain ⟨_, b0, b1, b2, b3, b4⟩ := HB7.out
  go_wp2_with fail
  refine (read_nil _ _).mono ?_
  rintro e w8 ⟨rfl, rfl⟩
  go_wp2_with fail
  have hc := own_read H7.out nA (by decide)
  rw [dkD_read] at hc
  refine hc.mono ?_
  clear hc
  rintro e w8 ⟨rfl, h8⟩
  have H8 := Lib.hid h8
  clear h8
  obtain ⟨s, m, v, h1, _, _⟩ := H8.out
  have HA := Lib.hid h1
  clear h1
  go_wp2_with fail
  refine (names_nil _).mono ?_
  rintro e w9 ⟨rfl, rfl⟩
  go_wp2_with fail
  refine (names_down HA.out dkD_down).mono ?_
  rintro e w9 ⟨rfl, rfl⟩
  go_wp2_with fail
  refine (used_nil _).mono ?_
  rintro e w9 ⟨rfl, rfl⟩
  go_wp2_with fail
  refine (used_down HA.out dkD_down).mono ?_
  rintro e w9 ⟨rfl, rfl⟩
  go_wp2_with fail
  refine (waits_nil _).mono ?_
  rintro e w9 ⟨rfl, rfl⟩
  go_wp2_with fail
  have hc := waits_any HA.out
  rw [dkD_waits] at hc
  refine hc.mono ?_
  clear hc
  rintro e w9 ⟨rfl, rfl⟩
  go_wp2_with fail
  refine (calls_nil _).mono ?_
  rintro e w9 ⟨rfl, rfl⟩
  go_wp2_with fail
  refine (down_nil _).mono ?_
  rintro e w9 ⟨rfl, rfl⟩
  go_wp2_with fail
  have hc := down_any HA.out
  rw [dkD_down] at hc
  refine hc.mono ?_
  clear hc
  rintro e w9 ⟨rfl, rfl⟩
  go_wp2_with fail
  refine (own_wake H8.out).mono ?_
  rintro e w10 ⟨rfl, h10⟩
  have H10 := Lib.hid h10
  clear h10
  go_wp2_with fail
  have hc := own_read H10.out nA (by decide)
  rw [dkD_woke] at hc
  refine hc.mono ?_
  clear hc
  rintro e w11 ⟨rfl, h11⟩
  have H11 := Lib.hid h11
  clear h11
  go_wp2_with fail
  refine (awake5 w11).mono ?_
  rintro e w12 ⟨rfl, hk12⟩
  have H12 := Lib.hid (H11.out.quiet hk12)
  clear hk12
  go_wp2_with fail
  have hc := own_down H12.out
  rw [dkD_up] at hc
  refine hc.mono ?_
  clear hc
  rintro e w13 ⟨rfl, h13⟩
  have H13 := Lib.hid h13
  clear h13
  go_wp2_with fail
  go_ret
  exact ⟨rfl, HK.out.trans H13.out.kept⟩
set_option maxRecDepth 100000 in
set_option maxHeartbeats 4000000 in
theorem diskNil_below (w : World) (x : DAct) (hx : x.Wf) (hk : x.kind < 0) :
    Calls Tryd.prog 12 #[.agg x.cells.toArray] w fun e w' => e = .returned (.bool true) ∧ Kept (fun _ => False) w w' := by
  have HX := Lib.hid hx
  have HB := Lib.hid (boxed_alloc w x 31)
  have HK := Lib.hid ((Kept.refl (fun _ => False) w).alloc (.cells x.cells.toArray 31))
  have hnil := fun w => does_nil x hx w
  have g0 : decide (x.kind ≥ 0) = false := decide_eq_false (by omega)
  clear hk
  have HN := Lib.hid hnil
  clear hnil hx
  go_enter Tryd.func12, Tryd.ntmps12
  go_wp2_with fail
  refine (own_new (Kept.refl (fun _ => False) _)).mono ?_
  rintro e w1 ⟨b, rfl, h1⟩
  have H1 := Lib.hid h1
  clear h1
  go_wp2_with fail
  have hc := own_put H1.out Dk.ok_new (by decide) nA 0 nB (by decide) (by decide) ⟨by decide, by decide⟩
  rw [dkD_put] at hc
  refine hc.mono ?_
  clear hc
  rintro e w2 ⟨rfl, h2⟩
  have H2 := Lib.hid h2
  clear h2
  go_wp2_with fail
  have hc := own_sync H2.out (Dk.ok_new.put _ _ _) (by decide)
  rw [dkD_sync] at hc
  refine hc.mono ?_
  clear hc
  rintro e w3 ⟨rfl, h3⟩
  have H3 := Lib.hid h3
  clear h3
  go_wp2_with fail
  have hc := own_fail H3.out (Dk.ok_new.put nA 0 nB).sync (by decide) 0 ⟨by decide, by decide⟩
  refine hc.mono ?_
  clear hc
  rintro e w4 ⟨rfl, h4⟩
  have h4' : Own (w.alloc (.cells x.cells.toArray 31)) w4 b dkD := h4
  have H4 := Lib.hid h4'
  clear h4 h4'
  have HB4 := Lib.hid (HB.out.kept H4.out.kept)
  obtain ⟨_, b0, b1, b2, b3, b4⟩ := HB4.out
  go_wp2_with fail
  refine (HN.out _).mono ?_
  rintro e w7 ⟨rfl, hk7⟩
  have H7 := Lib.hid (H4.out.quiet hk7)
  have HB7 := Lib.hid (HB4.out.kept hk7)
  clear hk7
  clear b0 b1 b2 b3 b4
  obtain ⟨_, b0, b1, b2, b3, b4⟩ := HB7.out
  go_wp2_with fail
  refine (read_nil _ _).mono ?_
  rintro e w8 ⟨rfl, rfl⟩
  go_wp2_with fail
  have hc := own_read H7.out nA (by decide)
  rw [dkD_read] at hc
  refine hc.mono ?_
  clear hc
  rintro e w8 ⟨rfl, h8⟩
  have H8 := Lib.hid h8
  clear h8
  obtain ⟨s, m, v, h1, _, _⟩ := H8.out
  have HA := Lib.hid h1
  clear h1
  go_wp2_with fail
  refine (names_nil _).mono ?_
  rintro e w9 ⟨rfl, rfl⟩
  go_wp2_with fail
  refine (names_down HA.out dkD_down).mono ?_
  rintro e w9 ⟨rfl, rfl⟩
  go_wp2_with fail
  refine (used_nil _).mono ?_
  rintro e w9 ⟨rfl, rfl⟩
  go_wp2_with fail
  refine (used_down HA.out dkD_down).mono ?_
  rintro e w9 ⟨rfl, rfl⟩
  go_wp2_with fail
  refine (waits_nil _).mono ?_
  rintro e w9 ⟨rfl, rfl⟩
  go_wp2_with fail
  have hc := waits_any HA.out
  rw [dkD_waits] at hc
  refine hc.mono ?_
  clear hc
  rintro e w9 ⟨rfl, rfl⟩
  go_wp2_with fail
  refine (calls_nil _).mono ?_
  rintro e w9 ⟨rfl, rfl⟩
  go_wp2_with fail
  refine (down_nil _).mono ?_
  rintro e w9 ⟨rfl, rfl⟩
  go_wp2_with fail
  have hc := down_any HA.out
  rw [dkD_down] at hc
  refine hc.mono ?_
  clear hc
  rintro e w9 ⟨rfl, rfl⟩
  go_wp2_with fail
  refine (own_wake H8.out).mono ?_
  rintro e w10 ⟨rfl, h10⟩
  have H10 := Lib.hid h10
  clear h10
  go_wp2_with fail
  have hc := own_read H10.out nA (by decide)
  rw [dkD_woke] at hc
  refine hc.mono ?_
  clear hc
  rintro e w11 ⟨rfl, h11⟩
  have H11 := Lib.hid h11
  clear h11
  go_wp2_with fail
  refine (awake5 w11).mono ?_
  rintro e w12 ⟨rfl, hk12⟩
  have H12 := Lib.hid (H11.out.quiet hk12)
  clear hk12
  go_wp2_with fail
  have hc := own_down H12.out
  rw [dkD_up] at hc
  refine hc.mono ?_
  clear hc
  rintro e w13 ⟨rfl, h13⟩
  have H13 := Lib.hid h13
  clear h13
  go_wp2_with fail
  go_ret
  exact ⟨rfl, HK.out.trans H13.out.kept⟩
set_option maxRecDepth 100000 in
set_option maxHeartbeats 4000000 in
theorem diskNil_above (w : World) (x : DAct) (hx : x.Wf) (hk : 4 < x.kind) :
    Calls Tryd.prog 12 #[.agg x.cells.toArray] w fun e w' => e = .returned (.bool true) ∧ Kept (fun _ => False) w w' := by
  have HX := Lib.hid hx
  have HB := Lib.hid (boxed_alloc w x 31)
  have HK := Lib.hid ((Kept.refl (fun _ => False) w).alloc (.cells x.cells.toArray 31))
  have hnil := fun w => does_nil x hx w
  have g0 : decide (x.kind ≥ 0) = true := decide_eq_true (by omega)
  have g1 : decide (x.kind ≤ 4) = false := decide_eq_false (by omega)
  clear hk
  have HN := Lib.hid hnil
  clear hnil hx
  go_enter Tryd.func12, Tryd.ntmps12
  go_wp2_with fail
  refine (own_new (Kept.refl (fun _ => False) _)).mono ?_
  rintro e w1 ⟨b, rfl, h1⟩
  have H1 := Lib.hid h1
  clear h1
  go_wp2_with fail
  have hc := own_put H1.out Dk.ok_new (by decide) nA 0 nB (by decide) (by decide) ⟨by decide, by decide⟩
  rw [dkD_put] at hc
  refine hc.mono ?_
  clear hc
  rintro e w2 ⟨rfl, h2⟩
  have H2 := Lib.hid h2
  clear h2
  go_wp2_with fail
  have hc := own_sync H2.out (Dk.ok_new.put _ _ _) (by decide)
  rw [dkD_sync] at hc
  refine hc.mono ?_
  clear hc
  rintro e w3 ⟨rfl, h3⟩
  have H3 := Lib.hid h3
  clear h3
  go_wp2_with fail
  have hc := own_fail H3.out (Dk.ok_new.put nA 0 nB).sync (by decide) 0 ⟨by decide, by decide⟩
  refine hc.mono ?_
  clear hc
  rintro e w4 ⟨rfl, h4⟩
  have h4' : Own (w.alloc (.cells x.cells.toArray 31)) w4 b dkD := h4
  have H4 := Lib.hid h4'
  clear h4 h4'
  have HB4 := Lib.hid (HB.out.kept H4.out.kept)
  obtain ⟨_, b0, b1, b2, b3, b4⟩ := HB4.out
  go_wp2_with fail
  refine (HN.out _).mono ?_
  rintro e w7 ⟨rfl, hk7⟩
  have H7 := Lib.hid (H4.out.quiet hk7)
  have HB7 := Lib.hid (HB4.out.kept hk7)
  clear hk7
  clear b0 b1 b2 b3 b4
  obtain ⟨_, b0, b1, b2, b3, b4⟩ := HB7.out
  go_wp2_with fail
  refine (read_nil _ _).mono ?_
  rintro e w8 ⟨rfl, rfl⟩
  go_wp2_with fail
  have hc := own_read H7.out nA (by decide)
  rw [dkD_read] at hc
  refine hc.mono ?_
  clear hc
  rintro e w8 ⟨rfl, h8⟩
  have H8 := Lib.hid h8
  clear h8
  obtain ⟨s, m, v, h1, _, _⟩ := H8.out
  have HA := Lib.hid h1
  clear h1
  go_wp2_with fail
  refine (names_nil _).mono ?_
  rintro e w9 ⟨rfl, rfl⟩
  go_wp2_with fail
  refine (names_down HA.out dkD_down).mono ?_
  rintro e w9 ⟨rfl, rfl⟩
  go_wp2_with fail
  refine (used_nil _).mono ?_
  rintro e w9 ⟨rfl, rfl⟩
  go_wp2_with fail
  refine (used_down HA.out dkD_down).mono ?_
  rintro e w9 ⟨rfl, rfl⟩
  go_wp2_with fail
  refine (waits_nil _).mono ?_
  rintro e w9 ⟨rfl, rfl⟩
  go_wp2_with fail
  have hc := waits_any HA.out
  rw [dkD_waits] at hc
  refine hc.mono ?_
  clear hc
  rintro e w9 ⟨rfl, rfl⟩
  go_wp2_with fail
  refine (calls_nil _).mono ?_
  rintro e w9 ⟨rfl, rfl⟩
  go_wp2_with fail
  refine (down_nil _).mono ?_
  rintro e w9 ⟨rfl, rfl⟩
  go_wp2_with fail
  have hc := down_any HA.out
  rw [dkD_down] at hc
  refine hc.mono ?_
  clear hc
  rintro e w9 ⟨rfl, rfl⟩
  go_wp2_with fail
  refine (own_wake H8.out).mono ?_
  rintro e w10 ⟨rfl, h10⟩
  have H10 := Lib.hid h10
  clear h10
  go_wp2_with fail
  have hc := own_read H10.out nA (by decide)
  rw [dkD_woke] at hc
  refine hc.mono ?_
  clear hc
  rintro e w11 ⟨rfl, h11⟩
  have H11 := Lib.hid h11
  clear h11
  go_wp2_with fail
  refine (awake5 w11).mono ?_
  rintro e w12 ⟨rfl, hk12⟩
  have H12 := Lib.hid (H11.out.quiet hk12)
  clear hk12
  go_wp2_with fail
  have hc := own_down H12.out
  rw [dkD_up] at hc
  refine hc.mono ?_
  clear hc
  rintro e w13 ⟨rfl, h13⟩
  have H13 := Lib.hid h13
  clear h13
  go_wp2_with fail
  go_ret
  exact ⟨rfl, HK.out.trans H13.out.kept⟩
theorem diskNil_any (w : World) (x : DAct) (hx : x.Wf) :
    Calls Tryd.prog 12 #[.agg x.cells.toArray] w fun e w' => e = .returned (.bool true) ∧ Kept (fun _ => False) w w' := by
  by_cases h0 : x.kind < 0
  · exact diskNil_below w x hx h0
  by_cases h4 : 4 < x.kind
  · exact diskNil_above w x hx h4
  exact diskNil_small w x hx (by omega)
end Go.Proofs.YtjobmlnekpaagaaDoor
