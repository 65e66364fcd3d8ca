/- ShelfReads, walked. -/
import Derived.Test.YtjobmlnekpaagaaDoorPr
import Derived.Test.YtjobmlnekpaagaaDoorVo
namespace Go.Proofs.YtjobmlnekpaagaaDoor
open Go Go.RowKit Go.Maps
set_option linter.unusedVariables false

theorem refReadVote_any (w : World) (s : ByteArray) (hsz : s.size ≤ 1099511627776) : Calls Tryd.prog 24 #[.string s] w fun e w' => e = .returned (.tuple #[.agg (readVote s).1.cells.toArray, .int .i64 (readVote s).2]) ∧ Kept (fun _ => False) w w' :=
  (PShelfReads.auspiceref07_ReadVote.calls 41 s _ _ _ w (PR.readVote_f hsz (by decide))).mono fun e w' h => ⟨h.1, Kept.of_below_all h.2 _⟩
theorem refReadSnap_any (w : World) (s : ByteArray) (hsz : s.size ≤ 1099511627776) : Calls Tryd.prog 26 #[.string s] w fun e w' => e = .returned (.tuple #[.agg (readSnap s).1.cells.toArray, .int .i64 (readSnap s).2]) ∧ Kept (fun _ => False) w w' :=
  (PShelfReads.auspiceref07_ReadSnap.calls 41 s _ _ _ _ _ w (PR.readSnap_f hsz (by decide))).mono fun e w' h => ⟨h.1, Kept.of_below_all h.2 _⟩
set_option maxRecDepth 100000 in
set_option maxHeartbeats 4000000 in
theorem shelfReads_long (w : World) (s : ByteArray) (hs : 20000 < s.size) (hsz : s.size ≤ 9223372036854775807) : Calls Tryd.prog 4 #[.string s] w fun e w' => e = .returned (.bool true) ∧ Kept (fun _ => False) w w' := by
  have g0 : decide ((s.size : Int) > 20000) = true := decide_eq_true (by omega)
  go_enter Tryd.func4, Tryd.ntmps4
  go_wp2_with fail
  refine (awake7 _).mono ?_
  rintro e w1 ⟨rfl, hk1⟩
  go_wp2_with fail
  go_ret
  exact ⟨rfl, hk1⟩
set_option maxRecDepth 100000 in
set_option maxHeartbeats 4000000 in
theorem shelfReads_any (w : World) (s : ByteArray) (hs : s.size ≤ 20000) : Calls Tryd.prog 4 #[.string s] w fun e w' => e = .returned (.bool true) ∧ Kept (fun _ => False) w w' := by
  have g0 : decide ((s.size : Int) > 20000) = false := decide_eq_false (by omega)
  have HA := Lib.hid (fun w => readVote_any w s (by omega))
  have HB := Lib.hid (fun w => refReadVote_any w s (by omega))
  have HC := Lib.hid (fun w => readSnap_any w s (by omega))
  have HD := Lib.hid (fun w => refReadSnap_any w s (by omega))
  generalize readVote s = rv at *
  generalize readSnap s = rs at *
  obtain ⟨⟨vt, vf⟩, ve⟩ := rv
  obtain ⟨⟨si, st, sm, sx⟩, se⟩ := rs
  simp only [Vt.cells, Sn.cells] at *
  go_enter Tryd.func4, Tryd.ntmps4
  go_wp2_with fail
  refine (HA.out _).mono ?_
  rintro e w1 ⟨rfl, hk1⟩
  have HK1 := Lib.hid hk1
  clear hk1
  go_wp2_with fail
  have hb1 := block_new w1 (.cells #[.int .i64 vt, .int .i64 vf] 38)
  refine (HB.out _).mono ?_
  rintro e w2 ⟨rfl, hk2⟩
  have hb1 := hk2.blk hb1
  have hk2' := (HK1.out.alloc _).trans hk2
  have HK2 := Lib.hid hk2'
  have HB1 := Lib.hid hb1
  clear hk2 hk2' hb1 HK1
  go_wp2_with fail
  have hb2 := block_new w2 (.cells #[.int .i64 vt, .int .i64 vf] 41)
  have hb1 := ((Kept.refl (fun _ => False) w2).alloc (.cells #[.int .i64 vt, .int .i64 vf] 41)).blk HB1.out
  refine (HC.out _).mono ?_
  rintro e w3 ⟨rfl, hk3⟩
  have hb1 := hk3.blk hb1
  have hb2 := hk3.blk hb2
  have hk3' := (HK2.out.alloc _).trans hk3
  have HK3 := Lib.hid hk3'
  have HB1 := Lib.hid hb1
  have HB2 := Lib.hid hb2
  clear hk3 hk3' hb1 hb2 HK2
  go_wp2_with fail
  have hb3 := block_new w3 (.cells #[.int .i64 si, .int .i64 st, .int .i64 sm, .string sx] 45)
  have hb2 := ((Kept.refl (fun _ => False) w3).alloc (.cells #[.int .i64 si, .int .i64 st, .int .i64 sm, .string sx] 45)).blk HB2.out
  have hb1 := ((Kept.refl (fun _ => False) w3).alloc (.cells #[.int .i64 si, .int .i64 st, .int .i64 sm, .string sx] 45)).blk HB1.out
  refine (HD.out _).mono ?_
  rintro e w4 ⟨rfl, hk4⟩
  have hb1 := hk4.blk hb1
  have hb2 := hk4.blk hb2
  have hb3 := hk4.blk hb3
  have hk4' := (HK3.out.alloc _).trans hk4
  have HK4 := Lib.hid hk4'
  have HB1 := Lib.hid hb1
  have HB2 := Lib.hid hb2
  have HB3 := Lib.hid hb3
  clear hk4 hk4' hb1 hb2 hb3 HK3
  go_wp2_with fail
  have hk5 := (Kept.refl (fun _ => False) w4).alloc (.cells #[.int .i64 si, .int .i64 st, .int .i64 sm, .string sx] 48)
  have hb4 := block_new w4 (.cells #[.int .i64 si, .int .i64 st, .int .i64 sm, .string sx] 48)
  refine (awake7 _).mono ?_
  rintro e w5 ⟨rfl, hk6⟩
  have hk7 := hk5.trans hk6
  obtain ⟨a0, a1⟩ := vote_cells (hk7.blk HB1.out)
  obtain ⟨b0, b1⟩ := vote_cells (hk7.blk HB2.out)
  obtain ⟨c0, c1, c2, c3⟩ := snap_cells (hk7.blk HB3.out)
  obtain ⟨d0, d1, d2, d3⟩ := snap_cells (hk6.blk hb4)
  have HK5 := Lib.hid (HK4.out.trans hk7)
  clear hk5 hb4 hk6 hk7 HK4
  go_wp2_with fail
  go_ret
  exact ⟨rfl, HK5.out⟩
theorem shelfReads_all (w : World) (s : ByteArray) (hs : s.size ≤ maxLen) : Calls Tryd.prog 4 #[.string s] w fun e w' => e = .returned (.bool true) ∧ Kept (fun _ => False) w w' := by
  have h : s.size ≤ 9223372036854775807 := hs
  by_cases h1 : s.size ≤ 20000
  · exact shelfReads_any w s h1
  · exact shelfReads_long w s (by omega) h
end Go.Proofs.YtjobmlnekpaagaaDoor
