/- The document's texts of votes and snapshots, walked. -/
import Derived.Test.YtjobmlnekpaagaaDoorPr
namespace Go.Proofs.YtjobmlnekpaagaaDoor
open Go Go.RowKit Go.Maps
set_option linter.unusedVariables false

theorem refNum_any (w : World) (n : Nat) (h : n < 18446744073709551616) : Calls Tryd.prog 76 #[.int .u64 n] w fun e w' => e = .returned (.string (numB n)) ∧ Kept (fun _ => False) w w' :=
  (PShelfReads.auspiceref01_Num.calls 24 n _ w (PR.num_f h (by decide))).mono fun e w' h => ⟨h.1, Kept.of_below_all h.2 _⟩
theorem refVoted_any (w : World) (v : Vt) : Calls Tryd.prog 38 #[.agg v.cells.toArray] w fun e w' => e = .returned (.bool v.may) ∧ Kept (fun _ => False) w w' :=
  (PShelfReads.auspiceref07_Voted.calls v.term v.to _ w (PR.voted_f v)).mono fun e w' h => ⟨h.1, Kept.of_below_all h.2 _⟩
theorem refMay_any (w : World) (v : Sn) : Calls Tryd.prog 39 #[.agg v.cells.toArray] w fun e w' => e = .returned (.bool v.may) ∧ Kept (fun _ => False) w w' :=
  (PShelfReads.auspiceref07_May.calls v.index v.term v.mask v.text _ w (PR.may_f v)).mono fun e w' h => ⟨h.1, Kept.of_below_all h.2 _⟩
set_option maxRecDepth 100000 in
set_option maxHeartbeats 800000 in
theorem refText_any (w : World) (s : ByteArray) (h : s.size ≤ 1099511627776) : Calls Tryd.prog 79 #[.string s] w fun e w' => e = .returned (.string (numB s.size ++ s)) ∧ Kept (fun _ => False) w w' := by
  have hadd := fun w => run_string_add_sum (P := Tryd.prog) (w := w) (numB s.size) s (by have := numB_size (n := s.size) (by omega); omega)
  have hc := refNum_any w s.size (by omega)
  go_enter Tryd.func79, Tryd.ntmps79
  go_wp2_with (go_at_call 76; refine hc.mono ?_; rintro e w1 ⟨rfl, hk⟩; have hadd1 := hadd w1; clear hadd)
  go_ret
  exact ⟨rfl, hk⟩
set_option maxRecDepth 100000 in
set_option maxHeartbeats 800000 in
theorem refInt_any (w : World) (n : Int) (h0 : -9223372036854775808 ≤ n) (h1 : n ≤ 9223372036854775807) : Calls Tryd.prog 77 #[.int .i64 n] w fun e w' => e = .returned (.string (numB (fold n))) ∧ Kept (fun _ => False) w w' := by
  have hc : ∀ m : Int, m = (fold n : Nat) → Calls Tryd.prog 76 #[.int .u64 m] w fun e w' => e = .returned (.string (numB (fold n))) ∧ Kept (fun _ => False) w w' := fun m e => by rw [e]; exact refNum_any w (fold n) (fold_lt h0 h1)
  have HC := Lib.hid hc
  clear hc
  by_cases h : 0 ≤ n
  · have g0 : decide (n ≥ 0) = true := decide_eq_true h
    have HF : Hid ((fold n : Nat) = (2 * n : Int)) := by unfold Hid fold; rw [if_pos h]; omega
    generalize fold n = x at *
    go_enter Tryd.func77, Tryd.ntmps77
    go_wp2_with fail
    refine (HC.out _ (by rw [HF.out])).mono ?_
    rintro e w1 ⟨rfl, hk⟩
    go_wp2_with fail
    go_ret
    exact ⟨rfl, hk⟩
  · have g0 : decide (n ≥ 0) = false := decide_eq_false h
    have HF : Hid ((fold n : Nat) = (2 * (-(n + 1)) + 1 : Int)) := by unfold Hid fold; rw [if_neg h]; omega
    generalize fold n = x at *
    go_enter Tryd.func77, Tryd.ntmps77
    go_wp2_with fail
    refine (HC.out _ (by rw [HF.out])).mono ?_
    rintro e w1 ⟨rfl, hk⟩
    go_wp2_with fail
    go_ret
    exact ⟨rfl, hk⟩
set_option maxRecDepth 100000 in
set_option maxHeartbeats 8000000 in
theorem refVote_bad (w : World) (v : Vt) (h : v.may = false) : Calls Tryd.prog 28 #[.agg v.cells.toArray] w fun e w' => e = .returned (.tuple #[.string .empty, .int .i64 1]) ∧ Kept (fun _ => False) w w' := by
  have HK := Lib.hid ((Kept.refl (fun _ => False) w).alloc (.cells v.cells.toArray 41))
  have hc := fun w => refVoted_any w v
  rw [h] at hc
  obtain ⟨t, f⟩ := v
  simp only [Vt.cells] at *
  go_enter Tryd.func28, Tryd.ntmps28
  go_wp2_with (first | (go_at_call 38; refine (hc _).mono ?_; rintro e w1 ⟨rfl, hk⟩))
  go_ret2
  exact ⟨rfl, HK.out.trans hk⟩
set_option maxRecDepth 100000 in
set_option maxHeartbeats 8000000 in
theorem refVote_good (w : World) (v : Vt) (h : v.may = true) : Calls Tryd.prog 28 #[.agg v.cells.toArray] w fun e w' => e = .returned (.tuple #[.string v.text, .int .i64 0]) ∧ Kept (fun _ => False) w w' := by
  have HK := Lib.hid ((Kept.refl (fun _ => False) w).alloc (.cells v.cells.toArray 41))
  have hc := fun w => refVoted_any w v
  rw [h] at hc
  obtain ⟨⟨ht0, ht1⟩, hf0, hf1⟩ := Vt.may_iff.1 h
  obtain ⟨t, f⟩ := v
  simp only [Vt.cells] at *
  have hb := block_new w (.cells #[.int .i64 t, .int .i64 f] 41)
  have hlt : w.heap.size < (w.alloc (.cells #[.int .i64 t, .int .i64 f] 41)).heap.size := (Array.getElem?_eq_some_iff.1 hb).1
  have HB := Lib.hid hb
  clear hb
  obtain ⟨n, rfl⟩ : ∃ n : Nat, t = n := ⟨t.toNat, by omega⟩
  have hn := fun w => refNum_any w n (by omega)
  have hi := fun w => refInt_any w f (by omega) (by omega)
  have hadd := fun w => run_string_add_sum (P := Tryd.prog) (w := w) (numB n) (numB (fold f)) (by have := numB_size (n := n) (by omega); have := numB_size (n := fold f) (fold_lt (by omega) (by omega)); omega)
  have HE : Hid (Vt.text ⟨n, f⟩ = numB n ++ numB (fold f)) := by unfold Hid Vt.text; simp
  clear h
  go_enter Tryd.func28, Tryd.ntmps28
  go_wp2_with fail
  refine (hc _).mono ?_
  rintro e w1 ⟨rfl, hk⟩
  have c0 : w1.cell? ⟨w.heap.size, 0, none⟩ = some (.int .i64 n) := by rw [hk.cell hlt (fun f => f), cell_of_block HB.out]; rfl
  have c1 : w1.cell? ⟨w.heap.size, 1, none⟩ = some (.int .i64 f) := by rw [hk.cell hlt (fun f => f), cell_of_block HB.out]; rfl
  have hlt1 := Nat.lt_of_lt_of_le hlt hk.size
  have HS : Hid (∀ w', Kept (fun _ => False) w1 w' → w'.cell? ⟨w.heap.size, 0, none⟩ = some (.int .i64 n) ∧ w'.cell? ⟨w.heap.size, 1, none⟩ = some (.int .i64 f) ∧ Kept (fun _ => False) w1 w') := fun w' h => ⟨by rw [h.cell hlt1 (fun f => f)]; exact c0, by rw [h.cell hlt1 (fun f => f)]; exact c1, h⟩
  have HN := Lib.hid hn
  have HI := Lib.hid hi
  clear hn hi
  have hw : IntKind.u64.wrap (n : Int) = n := u64_in n (by omega)
  go_wp2_with fail
  go_region_held3 (fun w' => w'.cell? ⟨w.heap.size, 0, none⟩ = some (.int .i64 n) ∧ w'.cell? ⟨w.heap.size, 1, none⟩ = some (.int .i64 f) ∧ Kept (fun _ => False) w1 w')
    (first | exact HS.out _ (Kept.refl _ _).drew | exact HS.out _ ((And.right (And.right (by assumption : _ ∧ _ ∧ Kept (fun _ => False) w1 _))).trans hk2))
    (first | (go_at_call 76; refine (HN.out _).mono ?_; rintro e w2 ⟨rfl, hk2⟩) | (go_at_call 77; refine (HI.out _).mono ?_; rintro e w2 ⟨rfl, hk2⟩))
  have hh : w2.cell? ⟨w.heap.size, 0, none⟩ = some (.int .i64 n) ∧ w2.cell? ⟨w.heap.size, 1, none⟩ = some (.int .i64 f) ∧ Kept (fun _ => False) w1 w2 := by assumption
  have HH := Lib.hid hh.2.2
  go_wp2_with fail
  go_ret2
  rw [HE.out]
  exact ⟨rfl, HK.out.trans (hk.trans HH.out)⟩
set_option maxRecDepth 100000 in
set_option maxHeartbeats 800000 in
theorem refSnap_bad (w : World) (v : Sn) (h : v.may = false) : Calls Tryd.prog 30 #[.agg v.cells.toArray] w fun e w' => e = .returned (.tuple #[.string .empty, .int .i64 1]) ∧ Kept (fun _ => False) w w' := by
  have HK := Lib.hid ((Kept.refl (fun _ => False) w).alloc (.cells v.cells.toArray 48))
  have hc := fun w => refMay_any w v
  rw [h] at hc
  obtain ⟨i, t, m, x⟩ := v
  simp only [Sn.cells] at *
  go_enter Tryd.func30, Tryd.ntmps30
  go_wp2_with (first | (go_at_call 39; refine (hc _).mono ?_; rintro e w1 ⟨rfl, hk⟩))
  go_ret2
  exact ⟨rfl, HK.out.trans hk⟩
set_option maxRecDepth 100000 in
set_option maxHeartbeats 8000000 in
theorem refSnap_good (w : World) (v : Sn) (h : v.may = true) : Calls Tryd.prog 30 #[.agg v.cells.toArray] w fun e w' => e = .returned (.tuple #[.string v.said, .int .i64 0]) ∧ Kept (fun _ => False) w w' := by
  have HK := Lib.hid ((Kept.refl (fun _ => False) w).alloc (.cells v.cells.toArray 48))
  have hc := fun w => refMay_any w v
  rw [h] at hc
  obtain ⟨⟨hi0, hi1⟩, ⟨ht0, ht1⟩, ⟨hm0, hm1⟩, hx⟩ := Sn.may_iff.1 h
  obtain ⟨i, t, m, x⟩ := v
  simp only [Sn.cells] at *
  have hb := block_new w (.cells #[.int .i64 i, .int .i64 t, .int .i64 m, .string x] 48)
  have hlt : w.heap.size < (w.alloc (.cells #[.int .i64 i, .int .i64 t, .int .i64 m, .string x] 48)).heap.size := (Array.getElem?_eq_some_iff.1 hb).1
  have HB := Lib.hid hb
  clear hb
  obtain ⟨i, rfl⟩ : ∃ n : Nat, i = n := ⟨i.toNat, by omega⟩
  obtain ⟨t, rfl⟩ : ∃ n : Nat, t = n := ⟨t.toNat, by omega⟩
  obtain ⟨m, rfl⟩ : ∃ n : Nat, m = n := ⟨m.toNat, by omega⟩
  have si := numB_size (n := i) (by omega)
  have st := numB_size (n := t) (by omega)
  have sm := numB_size (n := m) (by omega)
  have sx := numB_size (n := x.size) (by omega)
  have HT := Lib.hid (fun w => refText_any w x (by omega))
  have hadd1 := fun w => run_string_add_sum (P := Tryd.prog) (w := w) (numB i) (numB t) (by omega)
  have hadd2 := fun w => run_string_add_sum (P := Tryd.prog) (w := w) (numB i ++ numB t) (numB m) (by rw [ByteArray.size_append]; omega)
  have hadd3 := fun w => run_string_add_sum (P := Tryd.prog) (w := w) (numB i ++ numB t ++ numB m) (numB x.size ++ x) (by rw [ByteArray.size_append, ByteArray.size_append, ByteArray.size_append]; omega)
  have HE : Hid (Sn.said ⟨i, t, m, x⟩ = numB i ++ numB t ++ numB m ++ (numB x.size ++ x)) := by unfold Hid Sn.said; simp
  have hwi : IntKind.u64.wrap (i : Int) = i := u64_in i (by omega)
  have hwt : IntKind.u64.wrap (t : Int) = t := u64_in t (by omega)
  have hwm : IntKind.u64.wrap (m : Int) = m := u64_in m (by omega)
  clear h
  go_enter Tryd.func30, Tryd.ntmps30
  go_wp2_with fail
  refine (hc _).mono ?_
  rintro e w1 ⟨rfl, hk⟩
  clear hc
  have c0 : w1.cell? ⟨w.heap.size, 0, none⟩ = some (.int .i64 i) := by rw [hk.cell hlt (fun f => f), cell_of_block HB.out]; rfl
  have c1 : w1.cell? ⟨w.heap.size, 1, none⟩ = some (.int .i64 t) := by rw [hk.cell hlt (fun f => f), cell_of_block HB.out]; rfl
  have c2 : w1.cell? ⟨w.heap.size, 2, none⟩ = some (.int .i64 m) := by rw [hk.cell hlt (fun f => f), cell_of_block HB.out]; rfl
  have c3 : w1.cell? ⟨w.heap.size, 3, none⟩ = some (.string x) := by rw [hk.cell hlt (fun f => f), cell_of_block HB.out]; rfl
  have hlt1 := Nat.lt_of_lt_of_le hlt hk.size
  have HS : Hid (∀ w', Kept (fun _ => False) w1 w' → w'.cell? ⟨w.heap.size, 0, none⟩ = some (.int .i64 i) ∧ w'.cell? ⟨w.heap.size, 1, none⟩ = some (.int .i64 t) ∧ w'.cell? ⟨w.heap.size, 2, none⟩ = some (.int .i64 m) ∧ w'.cell? ⟨w.heap.size, 3, none⟩ = some (.string x) ∧ Kept (fun _ => False) w1 w') := fun w' h => ⟨by rw [h.cell hlt1 (fun f => f)]; exact c0, by rw [h.cell hlt1 (fun f => f)]; exact c1, by rw [h.cell hlt1 (fun f => f)]; exact c2, by rw [h.cell hlt1 (fun f => f)]; exact c3, h⟩
  clear c0 c1 c2 c3
  go_wp2_with fail
  go_region_held3 (fun w' => w'.cell? ⟨w.heap.size, 0, none⟩ = some (.int .i64 i) ∧ w'.cell? ⟨w.heap.size, 1, none⟩ = some (.int .i64 t) ∧ w'.cell? ⟨w.heap.size, 2, none⟩ = some (.int .i64 m) ∧ w'.cell? ⟨w.heap.size, 3, none⟩ = some (.string x) ∧ Kept (fun _ => False) w1 w')
    (first | exact HS.out _ (Kept.refl _ _).drew | exact HS.out _ ((And.right (And.right (And.right (And.right (by assumption : _ ∧ _ ∧ _ ∧ _ ∧ Kept (fun _ => False) w1 _))))).trans hk2))
    (first | (go_at_call 76; refine (refNum_any _ _ (by omega)).mono ?_; rintro e w2 ⟨rfl, hk2⟩) | (go_at_call 79; refine (HT.out _).mono ?_; rintro e w2 ⟨rfl, hk2⟩))
  have hh : w2.cell? ⟨w.heap.size, 0, none⟩ = some (.int .i64 i) ∧ w2.cell? ⟨w.heap.size, 1, none⟩ = some (.int .i64 t) ∧ w2.cell? ⟨w.heap.size, 2, none⟩ = some (.int .i64 m) ∧ w2.cell? ⟨w.heap.size, 3, none⟩ = some (.string x) ∧ Kept (fun _ => False) w1 w2 := by assumption
  have HH := Lib.hid hh.2.2.2.2
  go_wp2_with fail
  go_ret2
  rw [HE.out]
  exact ⟨rfl, HK.out.trans (hk.trans HH.out)⟩
end Go.Proofs.YtjobmlnekpaagaaDoor
