/- ShelfBack, walked. -/
import Derived.Test.YtjobmlnekpaagaaDoorVo
namespace Go.Proofs.YtjobmlnekpaagaaDoor
open Go Go.RowKit Go.Maps
set_option linter.unusedVariables false

theorem vote_out_may {v : Vt} (h : v.may = true) : v.out = (v.text, 0) := by unfold Vt.out; rw [if_pos h]
theorem vote_out_not {v : Vt} (h : v.may = false) : v.out = (.empty, 1) := by unfold Vt.out; rw [if_neg (by rw [h]; decide)]
theorem snap_out_may {v : Sn} (h : v.may = true) : v.out = (v.said, 0) := by unfold Sn.out; rw [if_pos h]
theorem snap_out_not {v : Sn} (h : v.may = false) : v.out = (.empty, 1) := by unfold Sn.out; rw [if_neg (by rw [h]; decide)]
/-- What is read of a text, and what is written of that. -/
theorem vote_there (t : ByteArray) : (readVote t).2 = 0 → (readVote t).1.out = (t, 0) := fun h => by
  obtain ⟨h1, h2⟩ := readVote_back h
  rw [vote_out_may h1, h2]
theorem snap_there (t : ByteArray) : (readSnap t).2 = 0 → (readSnap t).1.out = (t, 0) := fun h => by
  obtain ⟨h1, h2⟩ := readSnap_back h
  rw [snap_out_may h1, h2]
set_option maxRecDepth 100000 in
set_option maxHeartbeats 4000000 in
theorem shelfBack_long (w : World) (v : Vt) (s : Sn) (t : ByteArray) (h0 : 20000 < s.text.size ∨ 20000 < t.size) (hsz : s.text.size ≤ 9223372036854775807) (hsz2 : t.size ≤ 9223372036854775807) : Calls Tryd.prog 6 #[.agg v.cells.toArray, .agg s.cells.toArray, .string t] w fun e w' => e = .returned (.bool true) ∧ Kept (fun _ => False) w w' := by
  obtain ⟨vt, vf⟩ := v
  obtain ⟨si, st, sm, sx⟩ := s
  simp only [Vt.cells, Sn.cells] at *
  have HK := Lib.hid (((Kept.refl (fun _ => False) w).alloc (.cells #[.int .i64 vt, .int .i64 vf] 38)).alloc (.cells #[.int .i64 si, .int .i64 st, .int .i64 sm, .string sx] 45))
  have hg : decide ((sx.size : Int) > 20000) = true ∨ (decide ((sx.size : Int) > 20000) = false ∧ decide ((t.size : Int) > 20000) = true) := by
    by_cases h : 20000 < sx.size
    · exact .inl (decide_eq_true (by omega))
    · exact .inr ⟨decide_eq_false (by omega), decide_eq_true (by omega)⟩
  clear h0
  go_enter Tryd.func6, Tryd.ntmps6
  rcases hg with g0 | ⟨g0, g1⟩
  all_goals
    go_wp2_with fail
    refine (awake7 _).mono ?_
    rintro e w1 ⟨rfl, hk1⟩
    go_wp2_with fail
    go_ret
    exact ⟨rfl, HK.out.trans hk1⟩
set_option maxRecDepth 100000 in
set_option maxHeartbeats 16000000 in
theorem shelfBack_rest (w : World) (v : Vt) (s : Sn) (t : ByteArray) (h0 : s.text.size ≤ 20000) (h1 : t.size ≤ 20000) : Calls Tryd.prog 6 #[.agg v.cells.toArray, .agg s.cells.toArray, .string t] w fun e w' => e = .returned (.bool true) ∧ Kept (fun _ => False) w w' := by
  have HV := Lib.hid (fun w => vote_all w v)
  have HS := Lib.hid (fun w => snap_all w s)
  have HRV := Lib.hid (fun w => readVote_any w t (by omega))
  have HRS := Lib.hid (fun w => readSnap_any w t (by omega))
  have HTV := Lib.hid (vote_there t)
  have HTS := Lib.hid (snap_there t)
  have HWV := Lib.hid (fun w => vote_all w (readVote t).1)
  have HWS := Lib.hid (fun w => snap_all w (readSnap t).1)
  generalize readVote t = rv at *
  generalize readSnap t = rs at *
  obtain ⟨⟨rvt, rvf⟩, rve⟩ := rv
  obtain ⟨⟨rsi, rst, rsm, rsx⟩, rse⟩ := rs
  simp only at HTV HTS HWV HWS
  generalize Vt.out ⟨rvt, rvf⟩ = wv at *
  generalize Sn.out ⟨rsi, rst, rsm, rsx⟩ = ws at *
  obtain ⟨wva, wve⟩ := wv
  obtain ⟨wsa, wse⟩ := ws
  have HMV : Hid ((v.may = false ∧ v.out = (.empty, 1)) ∨ (v.out = (v.text, 0) ∧ ∀ w, Calls Tryd.prog 23 #[.string v.text] w fun e w' => e = .returned (.tuple #[.agg v.cells.toArray, .int .i64 0]) ∧ Kept (fun _ => False) w w')) := by
    unfold Hid
    cases h : v.may with
    | false => exact .inl ⟨rfl, vote_out_not h⟩
    | true =>
      refine .inr ⟨vote_out_may h, fun w => ?_⟩
      have := readVote_any w v.text (by have := Vt.text_size h; omega)
      rw [readVote_text h] at this
      exact this
  have HMS : Hid ((s.may = false ∧ s.out = (.empty, 1)) ∨ (s.out = (s.said, 0) ∧ ∀ w, Calls Tryd.prog 25 #[.string s.said] w fun e w' => e = .returned (.tuple #[.agg s.cells.toArray, .int .i64 0]) ∧ Kept (fun _ => False) w w')) := by
    unfold Hid
    cases h : s.may with
    | false => exact .inl ⟨rfl, snap_out_not h⟩
    | true =>
      refine .inr ⟨snap_out_may h, fun w => ?_⟩
      have := readSnap_any w s.said (by have := Sn.said_long h; omega)
      rw [readSnap_text h] at this
      exact this
  generalize v.out = vo at *
  generalize s.out = so at *
  generalize v.text = vtx at *
  generalize s.said = ssd at *
  obtain ⟨vt, vf⟩ := v
  obtain ⟨si, st, sm, sx⟩ := s
  simp only [Vt.cells, Sn.cells] at *
  have hk0 := (Kept.refl (fun _ => False) (w.alloc (.cells #[.int .i64 vt, .int .i64 vf] 38))).alloc (.cells #[.int .i64 si, .int .i64 st, .int .i64 sm, .string sx] 45)
  have HK := Lib.hid (((Kept.refl (fun _ => False) w).alloc (.cells #[.int .i64 vt, .int .i64 vf] 38)).trans hk0)
  have HBV := Lib.hid (hk0.blk (block_new w (.cells #[.int .i64 vt, .int .i64 vf] 38)))
  have hbs := block_new (w.alloc (.cells #[.int .i64 vt, .int .i64 vf] 38)) (.cells #[.int .i64 si, .int .i64 st, .int .i64 sm, .string sx] 45)
  rw [alloc_size] at hbs
  have HBS := Lib.hid hbs
  clear hk0 hbs
  have g0 : decide ((sx.size : Int) > 20000) = false := decide_eq_false (by omega)
  have g1 : decide ((t.size : Int) > 20000) = false := decide_eq_false (by omega)
  clear h0 h1
  go_enter Tryd.func6, Tryd.ntmps6
  go_wp2_with fail
  refine (HV.out _).mono ?_
  rintro e w1 ⟨rfl, hk1⟩
  have HK1 := Lib.hid (HK.out.trans hk1)
  have HBV1 := Lib.hid (hk1.blk HBV.out)
  have HBS1 := Lib.hid (hk1.blk HBS.out)
  clear hk1 HV HK HBV HBS
  rcases HMV.out with ⟨_, rfl⟩ | ⟨rfl, hrv⟩
  · simp only at *
    have HK2 := Lib.hid HK1.out
    have HBS2 := Lib.hid HBS1.out
    clear HK1 HBS1 HBV1
    obtain ⟨s0, s1, s2, s3⟩ := snap_cells HBS2.out
    go_wp2_with fail
    refine (HS.out _).mono ?_
    rintro e w3 ⟨rfl, hk3⟩
    have HK3 := Lib.hid (HK2.out.trans hk3)
    have HBS3 := Lib.hid (hk3.blk HBS2.out)
    clear hk3 HK2 HBS2 HS s0 s1 s2 s3
    rcases HMS.out with ⟨_, rfl⟩ | ⟨rfl, hrs⟩
    · simp only at *
      have HK4 := Lib.hid HK3.out
      clear HK3 HBS3
      go_wp2_with fail
      refine (HRV.out _).mono ?_
      rintro e w5 ⟨rfl, hk5⟩
      have hk5a := (Kept.refl (fun _ => False) w5).alloc (.cells #[.int .i64 rvt, .int .i64 rvf] 38)
      have HK5 := Lib.hid ((HK4.out.trans hk5).trans hk5a)
      obtain ⟨a0, a1⟩ := vote_cells (block_new w5 (.cells #[.int .i64 rvt, .int .i64 rvf] 38))
      clear hk5 hk5a HK4
      go_wp2_with fail
      refine (HWV.out _).mono ?_
      rintro e w6 ⟨rfl, hk6⟩
      have HK6 := Lib.hid (HK5.out.trans hk6)
      clear hk6 HK5 a0 a1
      go_wp2_with fail
      refine (HRS.out _).mono ?_
      rintro e w7 ⟨rfl, hk7⟩
      have hk7a := (Kept.refl (fun _ => False) w7).alloc (.cells #[.int .i64 rsi, .int .i64 rst, .int .i64 rsm, .string rsx] 45)
      have HK7 := Lib.hid ((HK6.out.trans hk7).trans hk7a)
      obtain ⟨b0, b1, b2, b3⟩ := snap_cells (block_new w7 (.cells #[.int .i64 rsi, .int .i64 rst, .int .i64 rsm, .string rsx] 45))
      clear hk7 hk7a HK6
      go_wp2_with fail
      refine (HWS.out _).mono ?_
      rintro e w8 ⟨rfl, hk8⟩
      have HK8 := Lib.hid (HK7.out.trans hk8)
      clear hk8 HK7 b0 b1 b2 b3
      go_wp2_with fail
      refine (awake7 _).mono ?_
      rintro e w9 ⟨rfl, hk9⟩
      have HK9 := Lib.hid (HK8.out.trans hk9)
      clear hk9 HK8
      by_cases hz : rve = 0
      · subst hz
        have hq := HTV.out rfl
        simp only [Prod.mk.injEq] at hq
        obtain ⟨rfl, rfl⟩ := hq
        by_cases hz2 : rse = 0
        · subst hz2
          have hq := HTS.out rfl
          simp only [Prod.mk.injEq] at hq
          obtain ⟨rfl, rfl⟩ := hq
          go_wp2_with fail
          go_ret
          exact ⟨rfl, HK9.out⟩
        · have q2 : (rse != 0) = true := by rw [bne, beq_eq_false_iff_ne.2 hz2]; rfl
          go_wp2_with fail
          go_ret
          exact ⟨rfl, HK9.out⟩
      · have q1 : (rve != 0) = true := by rw [bne, beq_eq_false_iff_ne.2 hz]; rfl
        by_cases hz2 : rse = 0
        · subst hz2
          have hq := HTS.out rfl
          simp only [Prod.mk.injEq] at hq
          obtain ⟨rfl, rfl⟩ := hq
          go_wp2_with fail
          go_ret
          exact ⟨rfl, HK9.out⟩
        · have q2 : (rse != 0) = true := by rw [bne, beq_eq_false_iff_ne.2 hz2]; rfl
          go_wp2_with fail
          go_ret
          exact ⟨rfl, HK9.out⟩
    · simp only at *
      have HRSN := Lib.hid hrs
      clear hrs
      go_wp2_with fail
      refine (HRSN.out _).mono ?_
      rintro e w4 ⟨rfl, hk4⟩
      have hk4a := (Kept.refl (fun _ => False) w4).alloc (.cells #[.int .i64 si, .int .i64 st, .int .i64 sm, .string sx] 45)
      obtain ⟨c0, c1, c2, c3⟩ := snap_cells (block_new w4 (.cells #[.int .i64 si, .int .i64 st, .int .i64 sm, .string sx] 45))
      obtain ⟨d0, d1, d2, d3⟩ := snap_cells (hk4a.blk (hk4.blk HBS3.out))
      have HK4 := Lib.hid ((HK3.out.trans hk4).trans hk4a)
      clear hk4 hk4a HK3 HBS3
      go_wp2_with fail
      refine (HRV.out _).mono ?_
      rintro e w5 ⟨rfl, hk5⟩
      have hk5a := (Kept.refl (fun _ => False) w5).alloc (.cells #[.int .i64 rvt, .int .i64 rvf] 38)
      have HK5 := Lib.hid ((HK4.out.trans hk5).trans hk5a)
      obtain ⟨a0, a1⟩ := vote_cells (block_new w5 (.cells #[.int .i64 rvt, .int .i64 rvf] 38))
      clear hk5 hk5a HK4
      go_wp2_with fail
      refine (HWV.out _).mono ?_
      rintro e w6 ⟨rfl, hk6⟩
      have HK6 := Lib.hid (HK5.out.trans hk6)
      clear hk6 HK5 a0 a1
      go_wp2_with fail
      refine (HRS.out _).mono ?_
      rintro e w7 ⟨rfl, hk7⟩
      have hk7a := (Kept.refl (fun _ => False) w7).alloc (.cells #[.int .i64 rsi, .int .i64 rst, .int .i64 rsm, .string rsx] 45)
      have HK7 := Lib.hid ((HK6.out.trans hk7).trans hk7a)
      obtain ⟨b0, b1, b2, b3⟩ := snap_cells (block_new w7 (.cells #[.int .i64 rsi, .int .i64 rst, .int .i64 rsm, .string rsx] 45))
      clear hk7 hk7a HK6
      go_wp2_with fail
      refine (HWS.out _).mono ?_
      rintro e w8 ⟨rfl, hk8⟩
      have HK8 := Lib.hid (HK7.out.trans hk8)
      clear hk8 HK7 b0 b1 b2 b3
      go_wp2_with fail
      refine (awake7 _).mono ?_
      rintro e w9 ⟨rfl, hk9⟩
      have HK9 := Lib.hid (HK8.out.trans hk9)
      clear hk9 HK8
      by_cases hz : rve = 0
      · subst hz
        have hq := HTV.out rfl
        simp only [Prod.mk.injEq] at hq
        obtain ⟨rfl, rfl⟩ := hq
        by_cases hz2 : rse = 0
        · subst hz2
          have hq := HTS.out rfl
          simp only [Prod.mk.injEq] at hq
          obtain ⟨rfl, rfl⟩ := hq
          go_wp2_with fail
          go_ret
          exact ⟨rfl, HK9.out⟩
        · have q2 : (rse != 0) = true := by rw [bne, beq_eq_false_iff_ne.2 hz2]; rfl
          go_wp2_with fail
          go_ret
          exact ⟨rfl, HK9.out⟩
      · have q1 : (rve != 0) = true := by rw [bne, beq_eq_false_iff_ne.2 hz]; rfl
        by_cases hz2 : rse = 0
        · subst hz2
          have hq := HTS.out rfl
          simp only [Prod.mk.injEq] at hq
          obtain ⟨rfl, rfl⟩ := hq
          go_wp2_with fail
          go_ret
          exact ⟨rfl, HK9.out⟩
        · have q2 : (rse != 0) = true := by rw [bne, beq_eq_false_iff_ne.2 hz2]; rfl
          go_wp2_with fail
          go_ret
          exact ⟨rfl, HK9.out⟩
  · simp only at *
    have HRVV := Lib.hid hrv
    clear hrv
    go_wp2_with fail
    refine (HRVV.out _).mono ?_
    rintro e w2 ⟨rfl, hk2⟩
    have hk2a := (Kept.refl (fun _ => False) w2).alloc (.cells #[.int .i64 vt, .int .i64 vf] 38)
    obtain ⟨x0, x1⟩ := vote_cells (block_new w2 (.cells #[.int .i64 vt, .int .i64 vf] 38))
    obtain ⟨y0, y1⟩ := vote_cells (hk2a.blk (hk2.blk HBV1.out))
    have HK2 := Lib.hid ((HK1.out.trans hk2).trans hk2a)
    have HBS2 := Lib.hid (hk2a.blk (hk2.blk HBS1.out))
    clear hk2 hk2a HK1 HBS1 HBV1
    obtain ⟨s0, s1, s2, s3⟩ := snap_cells HBS2.out
    go_wp2_with fail
    refine (HS.out _).mono ?_
    rintro e w3 ⟨rfl, hk3⟩
    have HK3 := Lib.hid (HK2.out.trans hk3)
    have HBS3 := Lib.hid (hk3.blk HBS2.out)
    clear hk3 HK2 HBS2 HS s0 s1 s2 s3
    rcases HMS.out with ⟨_, rfl⟩ | ⟨rfl, hrs⟩
    · simp only at *
      have HK4 := Lib.hid HK3.out
      clear HK3 HBS3
      go_wp2_with fail
      refine (HRV.out _).mono ?_
      rintro e w5 ⟨rfl, hk5⟩
      have hk5a := (Kept.refl (fun _ => False) w5).alloc (.cells #[.int .i64 rvt, .int .i64 rvf] 38)
      have HK5 := Lib.hid ((HK4.out.trans hk5).trans hk5a)
      obtain ⟨a0, a1⟩ := vote_cells (block_new w5 (.cells #[.int .i64 rvt, .int .i64 rvf] 38))
      clear hk5 hk5a HK4
      go_wp2_with fail
      refine (HWV.out _).mono ?_
      rintro e w6 ⟨rfl, hk6⟩
      have HK6 := Lib.hid (HK5.out.trans hk6)
      clear hk6 HK5 a0 a1
      go_wp2_with fail
      refine (HRS.out _).mono ?_
      rintro e w7 ⟨rfl, hk7⟩
      have hk7a := (Kept.refl (fun _ => False) w7).alloc (.cells #[.int .i64 rsi, .int .i64 rst, .int .i64 rsm, .string rsx] 45)
      have HK7 := Lib.hid ((HK6.out.trans hk7).trans hk7a)
      obtain ⟨b0, b1, b2, b3⟩ := snap_cells (block_new w7 (.cells #[.int .i64 rsi, .int .i64 rst, .int .i64 rsm, .string rsx] 45))
      clear hk7 hk7a HK6
      go_wp2_with fail
      refine (HWS.out _).mono ?_
      rintro e w8 ⟨rfl, hk8⟩
      have HK8 := Lib.hid (HK7.out.trans hk8)
      clear hk8 HK7 b0 b1 b2 b3
      go_wp2_with fail
      refine (awake7 _).mono ?_
      rintro e w9 ⟨rfl, hk9⟩
      have HK9 := Lib.hid (HK8.out.trans hk9)
      clear hk9 HK8
      by_cases hz : rve = 0
      · subst hz
        have hq := HTV.out rfl
        simp only [Prod.mk.injEq] at hq
        obtain ⟨rfl, rfl⟩ := hq
        by_cases hz2 : rse = 0
        · subst hz2
          have hq := HTS.out rfl
          simp only [Prod.mk.injEq] at hq
          obtain ⟨rfl, rfl⟩ := hq
          go_wp2_with fail
          go_ret
          exact ⟨rfl, HK9.out⟩
        · have q2 : (rse != 0) = true := by rw [bne, beq_eq_false_iff_ne.2 hz2]; rfl
          go_wp2_with fail
          go_ret
          exact ⟨rfl, HK9.out⟩
      · have q1 : (rve != 0) = true := by rw [bne, beq_eq_false_iff_ne.2 hz]; rfl
        by_cases hz2 : rse = 0
        · subst hz2
          have hq := HTS.out rfl
          simp only [Prod.mk.injEq] at hq
          obtain ⟨rfl, rfl⟩ := hq
          go_wp2_with fail
          go_ret
          exact ⟨rfl, HK9.out⟩
        · have q2 : (rse != 0) = true := by rw [bne, beq_eq_false_iff_ne.2 hz2]; rfl
          go_wp2_with fail
          go_ret
          exact ⟨rfl, HK9.out⟩
    · simp only at *
      have HRSN := Lib.hid hrs
      clear hrs
      go_wp2_with fail
      refine (HRSN.out _).mono ?_
      rintro e w4 ⟨rfl, hk4⟩
      have hk4a := (Kept.refl (fun _ => False) w4).alloc (.cells #[.int .i64 si, .int .i64 st, .int .i64 sm, .string sx] 45)
      obtain ⟨c0, c1, c2, c3⟩ := snap_cells (block_new w4 (.cells #[.int .i64 si, .int .i64 st, .int .i64 sm, .string sx] 45))
      obtain ⟨d0, d1, d2, d3⟩ := snap_cells (hk4a.blk (hk4.blk HBS3.out))
      have HK4 := Lib.hid ((HK3.out.trans hk4).trans hk4a)
      clear hk4 hk4a HK3 HBS3
      go_wp2_with fail
      refine (HRV.out _).mono ?_
      rintro e w5 ⟨rfl, hk5⟩
      have hk5a := (Kept.refl (fun _ => False) w5).alloc (.cells #[.int .i64 rvt, .int .i64 rvf] 38)
      have HK5 := Lib.hid ((HK4.out.trans hk5).trans hk5a)
      obtain ⟨a0, a1⟩ := vote_cells (block_new w5 (.cells #[.int .i64 rvt, .int .i64 rvf] 38))
      clear hk5 hk5a HK4
      go_wp2_with fail
      refine (HWV.out _).mono ?_
      rintro e w6 ⟨rfl, hk6⟩
      have HK6 := Lib.hid (HK5.out.trans hk6)
      clear hk6 HK5 a0 a1
      go_wp2_with fail
      refine (HRS.out _).mono ?_
      rintro e w7 ⟨rfl, hk7⟩
      have hk7a := (Kept.refl (fun _ => False) w7).alloc (.cells #[.int .i64 rsi, .int .i64 rst, .int .i64 rsm, .string rsx] 45)
      have HK7 := Lib.hid ((HK6.out.trans hk7).trans hk7a)
      obtain ⟨b0, b1, b2, b3⟩ := snap_cells (block_new w7 (.cells #[.int .i64 rsi, .int .i64 rst, .int .i64 rsm, .string rsx] 45))
      clear hk7 hk7a HK6
      go_wp2_with fail
      refine (HWS.out _).mono ?_
      rintro e w8 ⟨rfl, hk8⟩
      have HK8 := Lib.hid (HK7.out.trans hk8)
      clear hk8 HK7 b0 b1 b2 b3
      go_wp2_with fail
      refine (awake7 _).mono ?_
      rintro e w9 ⟨rfl, hk9⟩
      have HK9 := Lib.hid (HK8.out.trans hk9)
      clear hk9 HK8
      by_cases hz : rve = 0
      · subst hz
        have hq := HTV.out rfl
        simp only [Prod.mk.injEq] at hq
        obtain ⟨rfl, rfl⟩ := hq
        by_cases hz2 : rse = 0
        · subst hz2
          have hq := HTS.out rfl
          simp only [Prod.mk.injEq] at hq
          obtain ⟨rfl, rfl⟩ := hq
          go_wp2_with fail
          go_ret
          exact ⟨rfl, HK9.out⟩
        · have q2 : (rse != 0) = true := by rw [bne, beq_eq_false_iff_ne.2 hz2]; rfl
          go_wp2_with fail
          go_ret
          exact ⟨rfl, HK9.out⟩
      · have q1 : (rve != 0) = true := by rw [bne, beq_eq_false_iff_ne.2 hz]; rfl
        by_cases hz2 : rse = 0
        · subst hz2
          have hq := HTS.out rfl
          simp only [Prod.mk.injEq] at hq
          obtain ⟨rfl, rfl⟩ := hq
          go_wp2_with fail
          go_ret
          exact ⟨rfl, HK9.out⟩
        · have q2 : (rse != 0) = true := by rw [bne, beq_eq_false_iff_ne.2 hz2]; rfl
          go_wp2_with fail
          go_ret
          exact ⟨rfl, HK9.out⟩
theorem shelfBack_all (w : World) (v : Vt) (s : Sn) (t : ByteArray) (hsz : s.text.size ≤ maxLen) (hsz2 : t.size ≤ maxLen) : Calls Tryd.prog 6 #[.agg v.cells.toArray, .agg s.cells.toArray, .string t] w fun e w' => e = .returned (.bool true) ∧ Kept (fun _ => False) w w' := by
  have h : s.text.size ≤ 9223372036854775807 := hsz
  have h2 : t.size ≤ 9223372036854775807 := hsz2
  by_cases h1 : s.text.size ≤ 20000 ∧ t.size ≤ 20000
  · exact shelfBack_rest w v s t h1.1 h1.2
  · exact shelfBack_long w v s t (by omega) h h2
end Go.Proofs.YtjobmlnekpaagaaDoor
