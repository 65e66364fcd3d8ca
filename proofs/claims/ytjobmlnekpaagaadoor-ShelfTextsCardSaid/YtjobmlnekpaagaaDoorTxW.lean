/- ShelfTexts, walked. -/
import Derived.Test.YtjobmlnekpaagaaDoorTxT
import Derived.Test.YtjobmlnekpaagaaDoorVo
namespace Go.Proofs.YtjobmlnekpaagaaDoor
open Go Go.RowKit Go.Maps
set_option linter.unusedVariables false

theorem refVote_all (w : World) (v : Vt) : Calls Tryd.prog 28 #[.agg v.cells.toArray] w fun e w' => e = .returned (.tuple #[.string v.out.1, .int .i64 v.out.2]) ∧ Kept (fun _ => False) w w' := by
  unfold Vt.out
  cases h : v.may with
  | true => exact refVote_good w v h
  | false => exact refVote_bad w v h
theorem refSnap_all (w : World) (v : Sn) : Calls Tryd.prog 30 #[.agg v.cells.toArray] w fun e w' => e = .returned (.tuple #[.string v.out.1, .int .i64 v.out.2]) ∧ Kept (fun _ => False) w w' := by
  unfold Sn.out
  cases h : v.may with
  | true => exact refSnap_good w v h
  | false => exact refSnap_bad w v h
set_option maxRecDepth 100000 in
set_option maxHeartbeats 4000000 in
theorem shelfTexts_mid (w : World) (v : Vt) (s : Sn) (h0 : 20000 < s.text.size) (h1 : s.text.size ≤ 262144) : Calls Tryd.prog 5 #[.agg v.cells.toArray, .agg s.cells.toArray] w fun e w' => e = .returned (.bool true) ∧ Kept (fun _ => False) w w' := by
  obtain ⟨vt, vf⟩ := v
  obtain ⟨si, st, sm, sx⟩ := s
  simp only [Vt.cells, Sn.cells] at *
  have HK := Lib.hid (((Kept.refl (fun _ => False) w).alloc (.cells #[.int .i64 vt, .int .i64 vf] 38)).alloc (.cells #[.int .i64 si, .int .i64 st, .int .i64 sm, .string sx] 45))
  have g0 : decide ((sx.size : Int) > 20000) = true := decide_eq_true (by omega)
  have g1 : decide ((sx.size : Int) ≤ 262144) = true := decide_eq_true (by omega)
  go_enter Tryd.func5, Tryd.ntmps5
  go_wp2_with fail
  refine (awake7 _).mono ?_
  rintro e w1 ⟨rfl, hk1⟩
  go_wp2_with fail
  go_ret
  exact ⟨rfl, HK.out.trans hk1⟩
set_option maxRecDepth 100000 in
set_option maxHeartbeats 4000000 in
theorem shelfTexts_rest (w : World) (v : Vt) (s : Sn) (h0 : s.text.size ≤ 20000 ∨ 262144 < s.text.size) (hsz : s.text.size ≤ 9223372036854775807) : Calls Tryd.prog 5 #[.agg v.cells.toArray, .agg s.cells.toArray] w fun e w' => e = .returned (.bool true) ∧ Kept (fun _ => False) w w' := by
  have HA := Lib.hid (fun w => vote_all w v)
  have HB := Lib.hid (fun w => refVote_all w v)
  have HC := Lib.hid (fun w => snap_all w s)
  have HD := Lib.hid (fun w => refSnap_all w s)
  generalize v.out = ov at *
  generalize s.out = os at *
  obtain ⟨a, ae⟩ := ov
  obtain ⟨c, ce⟩ := os
  obtain ⟨vt, vf⟩ := v
  obtain ⟨si, st, sm, sx⟩ := s
  simp only [Vt.cells, Sn.cells] at *
  have hk0 := (Kept.refl (fun _ => False) (w.alloc (.cells #[.int .i64 vt, .int .i64 vf] 38))).alloc (.cells #[.int .i64 si, .int .i64 st, .int .i64 sm, .string sx] 45)
  have HK := Lib.hid (((Kept.refl (fun _ => False) w).alloc (.cells #[.int .i64 vt, .int .i64 vf] 38)).trans hk0)
  have HBV := Lib.hid (hk0.blk (block_new w (.cells #[.int .i64 vt, .int .i64 vf] 38)))
  have hbs := block_new (w.alloc (.cells #[.int .i64 vt, .int .i64 vf] 38)) (.cells #[.int .i64 si, .int .i64 st, .int .i64 sm, .string sx] 45)
  rw [alloc_size] at hbs
  have HBS := Lib.hid hbs
  clear hk0 hbs
  have hg : decide ((sx.size : Int) > 20000) = false ∨ (decide ((sx.size : Int) > 20000) = true ∧ decide ((sx.size : Int) ≤ 262144) = false) := by
    rcases h0 with h | h
    · exact .inl (decide_eq_false (by omega))
    · exact .inr ⟨decide_eq_true (by omega), decide_eq_false (by omega)⟩
  clear h0
  go_enter Tryd.func5, Tryd.ntmps5
  rcases hg with g0 | ⟨g0, g1⟩
  all_goals
    go_wp2_with fail
    refine (HA.out _).mono ?_
    rintro e w1 ⟨rfl, hk1⟩
    have HK1 := Lib.hid (HK.out.trans hk1)
    have hbv := hk1.blk HBV.out
    have HBS1 := Lib.hid (hk1.blk HBS.out)
    obtain ⟨v0, v1⟩ := vote_cells hbv
    clear hk1 hbv
    go_wp2_with fail
    refine (HB.out _).mono ?_
    rintro e w2 ⟨rfl, hk2⟩
    have HK2 := Lib.hid (HK1.out.trans hk2)
    have hbs := hk2.blk HBS1.out
    have HBS2 := Lib.hid hbs
    obtain ⟨s0, s1, s2, s3⟩ := snap_cells hbs
    clear hk2 hbs v0 v1
    go_wp2_with fail
    refine (HC.out _).mono ?_
    rintro e w3 ⟨rfl, hk3⟩
    have HK3 := Lib.hid (HK2.out.trans hk3)
    clear s0 s1 s2 s3
    have hbs := hk3.blk HBS2.out
    obtain ⟨s0, s1, s2, s3⟩ := snap_cells hbs
    clear hk3 hbs
    go_wp2_with fail
    refine (HD.out _).mono ?_
    rintro e w4 ⟨rfl, hk4⟩
    have HK4 := Lib.hid (HK3.out.trans hk4)
    clear hk4 s0 s1 s2 s3
    go_wp2_with fail
    refine (awake7 _).mono ?_
    rintro e w5 ⟨rfl, hk5⟩
    have HK5 := Lib.hid (HK4.out.trans hk5)
    clear hk5
    go_wp2_with fail
    go_ret
    exact ⟨rfl, HK5.out⟩
theorem shelfTexts_all (w : World) (v : Vt) (s : Sn) (hsz : s.text.size ≤ maxLen) : Calls Tryd.prog 5 #[.agg v.cells.toArray, .agg s.cells.toArray] w fun e w' => e = .returned (.bool true) ∧ Kept (fun _ => False) w w' := by
  have h : s.text.size ≤ 9223372036854775807 := hsz
  by_cases h1 : 20000 < s.text.size ∧ s.text.size ≤ 262144
  · exact shelfTexts_mid w v s h1.1 h1.2
  · exact shelfTexts_rest w v s (by omega) h
end Go.Proofs.YtjobmlnekpaagaaDoor
