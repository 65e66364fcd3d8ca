/- Merged texts: savings, by plain laws and walked; layer 7's example. -/
import Derived.Test.YtjobmlnekpaagaaDoorME
import Derived.Test.YtjobmlnekpaagaaDoorMC
/-! ### shelf over a nil disk, walked. -/
namespace Go.Proofs.YtjobmlnekpaagaaDoor
open Go Go.RowKit Go.Maps
set_option linter.unusedVariables false

set_option maxRecDepth 100000 in
set_option maxHeartbeats 800000 in
theorem load_nil (w : World) (f : ByteArray) : Calls Tryd.prog 80 #[.pointer none, .string f] w fun e w' => e = .returned (.tuple #[.string .empty, .int .i64 1]) ∧ w = w' := by
  have hr := read_nil f w
  go_enter Tryd.func80, Tryd.ntmps80
  go_wp2_with fail
  refine hr.mono ?_
  rintro e w1 ⟨rfl, rfl⟩
  go_wp2_with fail
  go_ret2
  exact ⟨rfl, rfl⟩
set_option maxRecDepth 100000 in
set_option maxHeartbeats 800000 in
theorem saveVote_nil (w : World) (v : Vt) : Calls Tryd.prog 34 #[.pointer none, .agg v.cells.toArray] w fun e w' => e = .returned (.int .i64 1) ∧ Kept (fun _ => False) w w' := by
  cases hm : v.may with
  | true =>
    have hv := fun w => vote_good w v hm
    generalize v.text = t at *
    clear hm
    obtain ⟨a, c⟩ := v
    simp only [Vt.cells] at *
    have HV := Lib.hid hv
    clear hv
    go_enter Tryd.func34, Tryd.ntmps34
    go_wp2_with fail
    refine (HV.out _).mono ?_
    rintro e w1 ⟨rfl, hk⟩
    go_wp2_with fail
    go_ret
    exact ⟨rfl, ((Kept.refl _ _).alloc _).trans hk⟩
  | false =>
    have hv := fun w => vote_bad w v hm
    clear hm
    obtain ⟨a, c⟩ := v
    simp only [Vt.cells] at *
    have HV := Lib.hid hv
    clear hv
    go_enter Tryd.func34, Tryd.ntmps34
    go_wp2_with fail
    refine (HV.out _).mono ?_
    rintro e w1 ⟨rfl, hk⟩
    go_wp2_with fail
    go_ret
    exact ⟨rfl, ((Kept.refl _ _).alloc _).trans hk⟩
set_option maxRecDepth 100000 in
set_option maxHeartbeats 800000 in
theorem saveSnap_nil (w : World) (v : Sn) : Calls Tryd.prog 35 #[.pointer none, .agg v.cells.toArray] w fun e w' => e = .returned (.int .i64 1) ∧ Kept (fun _ => False) w w' := by
  cases hm : v.may with
  | true =>
    have hv := fun w => snap_good w v hm
    generalize v.said = t at *
    clear hm
    obtain ⟨i, a, c, x⟩ := v
    simp only [Sn.cells] at *
    have HV := Lib.hid hv
    clear hv
    go_enter Tryd.func35, Tryd.ntmps35
    go_wp2_with fail
    refine (HV.out _).mono ?_
    rintro e w1 ⟨rfl, hk⟩
    go_wp2_with fail
    go_ret
    exact ⟨rfl, ((Kept.refl _ _).alloc _).trans hk⟩
  | false =>
    have hv := fun w => snap_bad w v hm
    clear hm
    obtain ⟨i, a, c, x⟩ := v
    simp only [Sn.cells] at *
    have HV := Lib.hid hv
    clear hv
    go_enter Tryd.func35, Tryd.ntmps35
    go_wp2_with fail
    refine (HV.out _).mono ?_
    rintro e w1 ⟨rfl, hk⟩
    go_wp2_with fail
    go_ret
    exact ⟨rfl, ((Kept.refl _ _).alloc _).trans hk⟩
end Go.Proofs.YtjobmlnekpaagaaDoor

/-! ### shelf.LoadVote over a nil disk, walked. -/
namespace Go.Proofs.YtjobmlnekpaagaaDoor
open Go Go.RowKit Go.Maps
set_option linter.unusedVariables false

set_option maxRecDepth 100000 in
set_option maxHeartbeats 800000 in
theorem loadVote_nil (w : World) : Calls Tryd.prog 31 #[.pointer none] w fun e w' => e = .returned (.tuple #[.agg #[.int .i64 0, .int .i64 0], .int .i64 1]) ∧ Kept (fun _ => False) w w' := by
  have HK := Lib.hid ((Kept.refl (fun _ => False) w).alloc (.cells #[.int .i64 0, .int .i64 0] 38))
  have hb0 := block_new w (.cells #[.int .i64 0, .int .i64 0] 38)
  have hl := load_nil (w.alloc (.cells #[.int .i64 0, .int .i64 0] 38)) ⟨#[118, 111, 116, 101]⟩
  generalize hW1 : w.alloc (.cells #[.int .i64 0, .int .i64 0] 38) = w1 at *
  have HB1 := Lib.hid hb0
  have z0 : w1.cell? ⟨w.heap.size, 0, none⟩ = some (.int .i64 0) := by rw [cell_of_block hb0]; rfl
  have z1 : w1.cell? ⟨w.heap.size, 1, none⟩ = some (.int .i64 0) := by rw [cell_of_block hb0]; rfl
  have f0 := frozen_of_block hb0 0
  have f1 := frozen_of_block hb0 1
  have HL := Lib.hid hl
  have HW := Lib.hid hW1
  clear hb0 hl hW1
  go_enter Tryd.func31, Tryd.ntmps31
  go_wp2_with fail
  rw [HW.out]
  refine HL.out.mono ?_
  rintro e w2 ⟨rfl, rfl⟩
  go_wp2_with fail
  have d0 : ((w1.setCell ⟨w.heap.size, 0, none⟩ (.int .i64 0)).setCell ⟨w.heap.size, 1, none⟩ (.int .i64 0)).heap[w.heap.size]? = some (.cells #[.int .i64 0, .int .i64 0] 38 (0, 0)) := by
    rw [setCell_block (setCell_block HB1.out 0 _) 1]
    rfl
  have hkw : Kept (fun _ => False) w ((w1.setCell ⟨w.heap.size, 0, none⟩ (.int .i64 0)).setCell ⟨w.heap.size, 1, none⟩ (.int .i64 0)) := Kept.setCell (F := fun _ => False) (p := ⟨w.heap.size, 1, none⟩) (Kept.setCell (F := fun _ => False) (p := ⟨w.heap.size, 0, none⟩) HK.out (fun h => by simp at h) _) (fun h => by simp at h) _
  generalize (w1.setCell ⟨w.heap.size, 0, none⟩ (.int .i64 0)).setCell ⟨w.heap.size, 1, none⟩ (.int .i64 0) = W at *
  have e0 : W.cell? ⟨w.heap.size, 0, none⟩ = some (.int .i64 0) := by rw [cell_of_block d0]; rfl
  have e1 : W.cell? ⟨w.heap.size, 1, none⟩ = some (.int .i64 0) := by rw [cell_of_block d0]; rfl
  refine bodyPost_ret (by simp [results, Tryd.results31, go_sem, e0, e1]; try rfl) rfl ?_
  exact ⟨rfl, hkw⟩
end Go.Proofs.YtjobmlnekpaagaaDoor

/-! ### shelf.LoadSnap over a nil disk, walked. -/
namespace Go.Proofs.YtjobmlnekpaagaaDoor
open Go Go.RowKit Go.Maps
set_option linter.unusedVariables false

set_option maxRecDepth 100000 in
set_option maxHeartbeats 800000 in
theorem loadSnap_nil (w : World) : Calls Tryd.prog 32 #[.pointer none] w fun e w' => e = .returned (.tuple #[.agg #[.int .i64 0, .int .i64 0, .int .i64 0, .string ⟨#[]⟩], .bool false, .int .i64 1]) ∧ Kept (fun _ => False) w w' := by
  have HK := Lib.hid ((Kept.refl (fun _ => False) w).alloc (.cells #[.int .i64 0, .int .i64 0, .int .i64 0, .string ⟨#[]⟩] 45))
  have hb0 := block_new w (.cells #[.int .i64 0, .int .i64 0, .int .i64 0, .string ⟨#[]⟩] 45)
  have hl := load_nil (w.alloc (.cells #[.int .i64 0, .int .i64 0, .int .i64 0, .string ⟨#[]⟩] 45)) ⟨#[115, 110, 97, 112]⟩
  generalize hW1 : w.alloc (.cells #[.int .i64 0, .int .i64 0, .int .i64 0, .string ⟨#[]⟩] 45) = w1 at *
  have HB1 := Lib.hid hb0
  have z0 : w1.cell? ⟨w.heap.size, 0, none⟩ = some (.int .i64 0) := by rw [cell_of_block hb0]; rfl
  have z1 : w1.cell? ⟨w.heap.size, 1, none⟩ = some (.int .i64 0) := by rw [cell_of_block hb0]; rfl
  have z2 : w1.cell? ⟨w.heap.size, 2, none⟩ = some (.int .i64 0) := by rw [cell_of_block hb0]; rfl
  have z3 : w1.cell? ⟨w.heap.size, 3, none⟩ = some (.string ⟨#[]⟩) := by rw [cell_of_block hb0]; rfl
  have f0 := frozen_of_block hb0 0
  have f1 := frozen_of_block hb0 1
  have f2 := frozen_of_block hb0 2
  have f3 := frozen_of_block hb0 3
  have HL := Lib.hid hl
  have HW := Lib.hid hW1
  clear hb0 hl hW1
  go_enter Tryd.func32, Tryd.ntmps32
  go_wp2_with fail
  rw [HW.out]
  refine HL.out.mono ?_
  rintro e w2 ⟨rfl, rfl⟩
  go_wp2_with fail
  have d0 : (((((((w1.setCell ⟨w.heap.size, 0, none⟩ (.int .i64 0))).setCell ⟨w.heap.size, 1, none⟩ (.int .i64 0))).setCell ⟨w.heap.size, 2, none⟩ (.int .i64 0))).setCell ⟨w.heap.size, 3, none⟩ (.string ⟨#[]⟩)).heap[w.heap.size]? = some (.cells #[.int .i64 0, .int .i64 0, .int .i64 0, .string ⟨#[]⟩] 45 (0, 0)) := by
    rw [setCell_block (setCell_block (setCell_block (setCell_block HB1.out 0 _) 1 _) 2 _) 3 _]
    rfl
  have hkw : Kept (fun _ => False) w (((((((w1.setCell ⟨w.heap.size, 0, none⟩ (.int .i64 0))).setCell ⟨w.heap.size, 1, none⟩ (.int .i64 0))).setCell ⟨w.heap.size, 2, none⟩ (.int .i64 0))).setCell ⟨w.heap.size, 3, none⟩ (.string ⟨#[]⟩)) := (Kept.setCell (F := fun _ => False) (p := ⟨w.heap.size, 3, none⟩) (Kept.setCell (F := fun _ => False) (p := ⟨w.heap.size, 2, none⟩) (Kept.setCell (F := fun _ => False) (p := ⟨w.heap.size, 1, none⟩) (Kept.setCell (F := fun _ => False) (p := ⟨w.heap.size, 0, none⟩) HK.out (fun h => by simp at h) _) (fun h => by simp at h) _) (fun h => by simp at h) _) (fun h => by simp at h) _)
  generalize (((((((w1.setCell ⟨w.heap.size, 0, none⟩ (.int .i64 0))).setCell ⟨w.heap.size, 1, none⟩ (.int .i64 0))).setCell ⟨w.heap.size, 2, none⟩ (.int .i64 0))).setCell ⟨w.heap.size, 3, none⟩ (.string ⟨#[]⟩)) = W at *
  have e0 : W.cell? ⟨w.heap.size, 0, none⟩ = some (.int .i64 0) := by rw [cell_of_block d0]; rfl
  have e1 : W.cell? ⟨w.heap.size, 1, none⟩ = some (.int .i64 0) := by rw [cell_of_block d0]; rfl
  have e2 : W.cell? ⟨w.heap.size, 2, none⟩ = some (.int .i64 0) := by rw [cell_of_block d0]; rfl
  have e3 : W.cell? ⟨w.heap.size, 3, none⟩ = some (.string ⟨#[]⟩) := by rw [cell_of_block d0]; rfl
  refine bodyPost_ret (by simp [results, Tryd.results32, go_sem, e0, e1, e2, e3]; try rfl) rfl ?_
  exact ⟨rfl, hkw⟩
end Go.Proofs.YtjobmlnekpaagaaDoor

/-! ### Plain laws: what is written is read as it was. -/
namespace Go.Proofs.YtjobmlnekpaagaaDoor
open Go Go.RowKit Go.Maps
set_option linter.unusedVariables false

theorem unfolded_fold {n : Int} : unfolded (fold n) = n := by
  unfold unfolded fold
  split <;> split <;> omega
theorem low_be : ∀ (k n a : Nat), (low k n).foldl (fun x b => x * 256 + b) a = a * 256 ^ k + n % 256 ^ k
  | 0, n, a => by simp [low, Nat.mod_one]
  | k + 1, n, a => by
    rw [low, List.foldl_cons, low_be k n]
    have h := Nat.div_add_mod n (256 ^ k)
    have e : n % 256 ^ (k + 1) = 256 ^ k * (n / 256 ^ k % 256) + n % 256 ^ k := by
      rw [Nat.pow_succ, Nat.mod_mul, Nat.add_comm]
    rw [e, Nat.pow_succ, Nat.add_mul, Nat.mul_assoc, Nat.mul_comm 256 (256 ^ k), Nat.mul_comm (n / 256 ^ k % 256) (256 ^ k), Nat.add_assoc]
theorem lt_blen : ∀ (k n : Nat), n < 256 ^ k → n < 256 ^ blen n
  | 0, n, h => by
    have : n = 0 := by simpa using h
    subst this
    rw [blen_zero]
    decide
  | k + 1, n, h => by
    by_cases h0 : n = 0
    · subst h0
      rw [blen_zero]
      decide
    · rw [blen_pos h0, Nat.pow_succ]
      have h1 : n / 256 < 256 ^ k := by rw [Nat.div_lt_iff_lt_mul (by decide)]; rw [Nat.pow_succ] at h; exact h
      have h2 := lt_blen k _ h1
      omega
theorem beOf_low {n : Nat} (h : n < 18446744073709551616) : beOf (low (blen n) n) = n := by
  unfold beOf
  have e8 : (256 : Nat) ^ 8 = 18446744073709551616 := by decide
  have h8 : n < 256 ^ 8 := by rw [e8]; exact h
  rw [low_be, Nat.zero_mul, Nat.zero_add, Nat.mod_eq_of_lt (lt_blen 8 n h8)]
end Go.Proofs.YtjobmlnekpaagaaDoor

/-! ### Plain laws: a number that is written is read as it was, whatever stands behind. -/
namespace Go.Proofs.YtjobmlnekpaagaaDoor
open Go Go.RowKit Go.Maps
set_option linter.unusedVariables false

theorem le_blen : ∀ (k n : Nat), blen n = k + 1 → 256 ^ k ≤ n
  | 0, n, h => by
    have : n ≠ 0 := fun e => by rw [e, blen_zero] at h; omega
    simp
    omega
  | k + 1, n, h => by
    have h0 : n ≠ 0 := fun e => by rw [e, blen_zero] at h; omega
    rw [blen_pos h0] at h
    have h1 := le_blen k (n / 256) (by omega)
    rw [Nat.pow_succ]
    have := Nat.mul_le_mul_right 256 h1
    omega
theorem bytesL_strN {l : List Nat} (h : ∀ x ∈ l, x < 256) : bytesL (strN l) = l := by
  unfold bytesL strN
  rw [strOfNums_data, List.map_map, List.map_map]
  conv => rhs; rw [← List.map_id l]
  refine List.map_congr_left fun x hx => ?_
  have := h x hx
  simp [Function.comp]
  omega
theorem bytesL_append (a b : ByteArray) : bytesL (a ++ b) = bytesL a ++ bytesL b := by
  unfold bytesL
  rw [ByteArray.data_append, Array.toList_append, List.map_append]
theorem numL_lt {n : Nat} (h : n < 18446744073709551616) : ∀ x ∈ numL n, x < 256 := by
  intro x hx
  unfold numL at hx
  split at hx
  · simp at hx; omega
  · have := blen_lt 8 n (by have e8 : (256 : Nat) ^ 8 = 18446744073709551616 := by decide
                            rw [e8]; exact h)
    rcases List.mem_cons.1 hx with e | e
    · omega
    · exact low_lt _ _ x e
theorem numOf_num {n : Nat} (h : n < 18446744073709551616) (r : ByteArray) : numOf (numB n ++ r) = (n, (numB n).size, 0) := by
  have hb : bytesL (numB n ++ r) = numL n ++ bytesL r := by rw [bytesL_append]; unfold numB; rw [bytesL_strN (numL_lt h)]
  have hs : (numB n ++ r).size = (numL n).length + r.size := by rw [ByteArray.size_append]; unfold numB; rw [strN_size]
  have hz : (numB n).size = (numL n).length := by unfold numB; rw [strN_size]
  rw [hz]
  have hB : ∀ i, byteAt (numB n ++ r) i = (numL n ++ bytesL r).getD i 0 := fun i => by unfold byteAt; rw [hb]
  unfold numOf
  rw [hB 0, hB 1, hb, hs]
  by_cases hn : n ≤ 247
  · have e : numL n = [n] := by unfold numL; rw [if_pos hn]
    rw [e]
    simp [hn]
  · have e : numL n = (247 + blen n) :: low (blen n) n := by unfold numL; rw [if_neg hn]
    obtain ⟨k, hk⟩ : ∃ k, blen n = k + 1 := ⟨blen (n / 256), blen_pos (by omega)⟩
    have h1 := le_blen k n hk
    have h2 := beOf_low h
    have h3 := lt_blen 8 n (by have e8 : (256 : Nat) ^ 8 = 18446744073709551616 := by decide
                               rw [e8]; exact h)
    rw [hk] at e h2 h3
    rw [e]
    have hd : n / 256 ^ k < 256 := by rw [Nat.div_lt_iff_lt_mul (Nat.pow_pos (by decide)), Nat.mul_comm, ← Nat.pow_succ]; exact h3
    have hp : 1 ≤ n / 256 ^ k := by rw [Nat.le_div_iff_mul_le (Nat.pow_pos (by decide))]; omega
    have hm : n / 256 ^ k % 256 = n / 256 ^ k := Nat.mod_eq_of_lt hd
    have ht : (((247 + (k + 1)) :: low (k + 1) n ++ bytesL r).drop 1).take (k + 1) = low (k + 1) n := by
      rw [List.cons_append, List.drop_succ_cons, List.drop_zero, List.take_append_of_le_length (by rw [low_length]; exact Nat.le_refl _), List.take_of_length_le (by rw [low_length]; exact Nat.le_refl _)]
    have g0 : ((247 + (k + 1)) :: low (k + 1) n ++ bytesL r).getD 0 0 = 247 + (k + 1) := rfl
    have g1 : ((247 + (k + 1)) :: low (k + 1) n ++ bytesL r).getD 1 0 = n / 256 ^ k % 256 := rfl
    rw [g0, g1, Nat.add_sub_cancel_left, ht, h2, List.length_cons, low_length]
    rw [if_neg (by omega), if_neg (by omega), if_neg (by omega), if_neg (by rw [hm]; omega)]
end Go.Proofs.YtjobmlnekpaagaaDoor

/-! ### Plain laws: what tapes read of what was written, and that what is read is what is written of it. -/
namespace Go.Proofs.YtjobmlnekpaagaaDoor
open Go Go.RowKit Go.Maps
set_option linter.unusedVariables false

theorem extract_right (a b : ByteArray) : (a ++ b).extract a.size (a ++ b).size = b := by
  refine Fm.data_inj ?_
  simp [ByteArray.size_append]
  rw [List.drop_of_length_le (by simp), List.take_nil, List.nil_append, List.take_of_length_le (by simp)]
theorem extract_left (a b : ByteArray) : (a ++ b).extract 0 a.size = a := by
  refine Fm.data_inj ?_
  simp
  rw [List.take_of_length_le (by simp)]
theorem extract_mid (a b c : ByteArray) : (a ++ b ++ c).extract a.size (a.size + b.size) = b := by
  refine Fm.data_inj ?_
  simp
  rw [List.drop_of_length_le (by simp), List.take_nil, List.nil_append, List.take_of_length_le (by simp)]
theorem append_empty (a : ByteArray) : a ++ ByteArray.empty = a := by
  refine Fm.data_inj ?_
  simp
theorem append_assoc (a b c : ByteArray) : a ++ b ++ c = a ++ (b ++ c) := by
  refine Fm.data_inj ?_
  simp
theorem split_at (s : ByteArray) (k : Nat) (h : k ≤ s.size) : s.extract 0 k ++ s.extract k s.size = s := by
  refine Fm.data_inj ?_
  have : k ≤ s.data.toList.length := by simpa using h
  simp
theorem bytesL_inj {a b : ByteArray} (h : bytesL a = bytesL b) : a = b := by
  refine Fm.data_inj ?_
  unfold bytesL at h
  have := congrArg (List.map UInt8.ofNat) h
  simpa [List.map_map, Function.comp_def] using this
theorem tapeNum_num {n : Nat} (h : n < 18446744073709551616) (r : ByteArray) : tapeNum (numB n ++ r) 0 = (r, 0, n) := by
  unfold tapeNum
  rw [if_pos rfl, numOf_num h]
  simp only
  rw [extract_right]
theorem tapeNum_last {n : Nat} (h : n < 18446744073709551616) : tapeNum (numB n) 0 = (.empty, 0, n) := by
  have := tapeNum_num h .empty
  rwa [append_empty] at this
theorem tapeText_text (x : ByteArray) (m : Nat) (h : x.size ≤ m) (hm : m < 18446744073709551616) : tapeText (numB x.size ++ x) 0 m = (.empty, 0, x) := by
  unfold tapeText
  rw [if_neg (by simp), numOf_num (by omega)]
  simp only
  rw [if_neg (by simp), if_neg (by omega), if_neg (by rw [ByteArray.size_append]; omega)]
  have e1 : (numB x.size ++ x).extract ((numB x.size).size + x.size) (numB x.size ++ x).size = .empty := by
    refine Fm.data_inj ?_
    simp [ByteArray.size_append]
  have e2 : (numB x.size ++ x).extract (numB x.size).size ((numB x.size).size + x.size) = x := by
    rw [← ByteArray.size_append, extract_right]
  rw [e1, e2]
theorem readVote_text {v : Vt} (h : v.may = true) : readVote v.text = (v, 0) := by
  obtain ⟨⟨h1, h2⟩, h3, h4⟩ := Vt.may_iff.1 h
  have hf : fold v.to < 18446744073709551616 := fold_lt (by omega) (by omega)
  have e : tapeVote v.text 0 = (.empty, 0, v) := by
    unfold tapeVote Vt.text
    rw [tapeNum_num (by omega)]
    simp only
    rw [tapeNum_last hf]
    simp only
    rw [unfolded_fold]
    have : numberOf v.term.toNat = v.term := by unfold numberOf; rw [if_neg (by omega)]; omega
    rw [this]
  unfold readVote
  rw [e, if_pos ⟨by simp [tapeEnd], h⟩]
theorem readSnap_text {v : Sn} (h : v.may = true) : readSnap v.said = (v, 0) := by
  obtain ⟨⟨h1, h2⟩, ⟨h3, h4⟩, ⟨h5, h6⟩, h7⟩ := Sn.may_iff.1 h
  have e : tapeSnap v.said 0 = (.empty, 0, v) := by
    unfold tapeSnap Sn.said
    rw [append_assoc, append_assoc, tapeNum_num (by omega)]
    simp only
    rw [tapeNum_num (by omega)]
    simp only
    rw [tapeNum_num (by omega)]
    simp only
    rw [tapeText_text _ _ h7 (by decide)]
    have a1 : numberOf v.index.toNat = v.index := by unfold numberOf; rw [if_neg (by omega)]; omega
    have a2 : numberOf v.term.toNat = v.term := by unfold numberOf; rw [if_neg (by omega)]; omega
    have a3 : numberOf v.mask.toNat = v.mask := by unfold numberOf; rw [if_neg (by omega)]; omega
    rw [a1, a2, a3]
  unfold readSnap
  rw [e, if_pos ⟨by simp [tapeEnd], h⟩]
/-! ### back -/
theorem beOf_cons (x : Nat) (l : List Nat) : beOf (x :: l) = x * 256 ^ l.length + beOf l := by
  have h : ∀ (l : List Nat) (a : Nat), l.foldl (fun n b => n * 256 + b) a = a * 256 ^ l.length + beOf l := by
    intro l
    induction l with
    | nil => intro a; simp [beOf]
    | cons y r ih =>
      intro a
      unfold beOf
      rw [List.foldl_cons, List.foldl_cons, ih, ih (0 * 256 + y), List.length_cons, Nat.pow_succ]
      rw [Nat.add_mul, Nat.zero_mul, Nat.zero_add, Nat.mul_assoc, Nat.mul_comm 256, Nat.add_assoc]
  unfold beOf
  rw [List.foldl_cons, h]
  simp [beOf]
theorem beOf_lt : ∀ {l : List Nat}, (∀ x ∈ l, x < 256) → beOf l < 256 ^ l.length
  | [], _ => by simp [beOf]
  | x :: l, h => by
    have h1 := beOf_lt fun y hy => h y (List.mem_cons_of_mem _ hy)
    have h2 := h x (by simp)
    rw [beOf_cons, List.length_cons, Nat.pow_succ]
    have : x * 256 ^ l.length + 256 ^ l.length ≤ 256 * 256 ^ l.length := by
      rw [← Nat.succ_mul]
      exact Nat.mul_le_mul_right _ (by omega)
    omega
theorem low_beOf : ∀ {l : List Nat}, (∀ x ∈ l, x < 256) → ∀ m, low l.length (m * 256 ^ l.length + beOf l) = l
  | [], _, _ => rfl
  | x :: l, h, m => by
    have hl := beOf_lt fun y hy => h y (List.mem_cons_of_mem _ hy)
    have h2 := h x (by simp)
    have e : m * 256 ^ (x :: l).length + beOf (x :: l) = (m * 256 + x) * 256 ^ l.length + beOf l := by
      rw [beOf_cons, List.length_cons, Nat.pow_succ, Nat.add_mul, Nat.mul_assoc, Nat.mul_comm (256 ^ l.length) 256, Nat.add_assoc]
    rw [e, List.length_cons, low, low_beOf (fun y hy => h y (List.mem_cons_of_mem _ hy))]
    have hp : 0 < 256 ^ l.length := Nat.pow_pos (by decide)
    rw [Nat.mul_comm (m * 256 + x), Nat.mul_add_div hp, Nat.div_eq_of_lt hl, Nat.add_zero]
    have : (m * 256 + x) % 256 = x := by omega
    rw [this]
theorem blen_of {n k : Nat} (h1 : 256 ^ k ≤ n) (h2 : n < 256 ^ (k + 1)) (h8 : n < 256 ^ 8) : blen n = k + 1 := by
  have a := blen_lt _ _ h2
  have b := lt_blen 8 n h8
  have c : 256 ^ k < 256 ^ blen n := Nat.lt_of_le_of_lt h1 b
  have d := (Nat.pow_lt_pow_iff_right (by decide : 1 < 256)).1 c
  omega
theorem numL_beOf {l : List Nat} (hl : ∀ x ∈ l, x < 256) (h0 : l.length ≤ 8) (h1 : l.head? ≠ some 0) (h2 : 247 < beOf l) : numL (beOf l) = (247 + l.length) :: l := by
  cases l with
  | nil => simp [beOf] at h2
  | cons x r =>
    have hr := beOf_lt fun y hy => hl y (List.mem_cons_of_mem _ hy)
    have hx : x ≠ 0 := fun e => h1 (by simp [e])
    have ha : 256 ^ r.length ≤ beOf (x :: r) := by
      rw [beOf_cons]
      have : 1 * 256 ^ r.length ≤ x * 256 ^ r.length := Nat.mul_le_mul_right _ (by omega)
      omega
    have hb := beOf_lt hl
    have h8 : beOf (x :: r) < 256 ^ 8 := Nat.lt_of_lt_of_le hb (Nat.pow_le_pow_right (by decide) h0)
    have hbl := blen_of ha hb h8
    unfold numL
    rw [if_neg (by omega), hbl]
    have hlow := low_beOf hl 0
    rw [Nat.zero_mul, Nat.zero_add] at hlow
    rw [List.length_cons] at hlow ⊢
    rw [hlow]
theorem byteAt_head {s : ByteArray} (h : s.size ≠ 0) : bytesL s = byteAt s 0 :: (bytesL s).drop 1 := by
  have hl := bytesL_length s
  unfold byteAt
  cases hb : bytesL s with
  | nil => rw [hb] at hl; simp at hl; omega
  | cons x r => simp
/-- What is read of a number is what is written of it. -/
theorem num_back {s : ByteArray} (h : (numOf s).2.2 = 0) : s = numB (numOf s).1 ++ s.extract (numOf s).2.1 s.size := by
  have key : bytesL (numB (numOf s).1) = (bytesL s).take (numOf s).2.1 := by
    unfold numOf at h ⊢
    split
    · rename_i h0; rw [if_pos h0] at h; simp at h
    · rename_i h0
      rw [if_neg h0] at h
      have hh := byteAt_head h0
      have hlt := bytesL_lt s
      split
      · rename_i h1
        simp only
        unfold numB numL
        rw [if_pos h1, bytesL_strN (by intro x hx; simp at hx; omega), hh]
        simp
      · rename_i h1
        rw [if_neg h1] at h
        split
        · rename_i h2; rw [if_pos h2] at h; simp at h
        · rename_i h2
          rw [if_neg h2] at h
          split
          · rename_i h3; rw [if_pos h3] at h; simp at h
          · rename_i h3
            have hb0 : byteAt s 0 < 256 := byteAt_lt s 0
            have hlen : (((bytesL s).drop 1).take (byteAt s 0 - 247)).length = byteAt s 0 - 247 := by
              rw [List.length_take, List.length_drop, bytesL_length]; omega
            have hall : ∀ x ∈ ((bytesL s).drop 1).take (byteAt s 0 - 247), x < 256 := fun x hx => hlt x (List.mem_of_mem_drop (List.mem_of_mem_take hx))
            have hhd : (((bytesL s).drop 1).take (byteAt s 0 - 247)).head? ≠ some 0 := by
              intro e
              have : byteAt s 1 = 0 := by
                unfold byteAt
                rw [List.head?_take, if_neg (by omega), List.head?_drop] at e
                rw [List.getD, e]; rfl
              exact h3 (.inl this)
            have hn := numL_beOf hall (by omega) hhd (by omega)
            simp only
            unfold numB
            rw [hn, hlen, bytesL_strN (by
              intro x hx
              rcases List.mem_cons.1 hx with e | e
              · omega
              · exact hall x e)]
            conv => rhs; rw [hh]
            rw [List.take_succ_cons, show 247 + (byteAt s 0 - 247) = byteAt s 0 by omega]
  have hle := numOf_le s
  have e := split_at s _ hle
  have e2 : s.extract 0 (numOf s).2.1 = numB (numOf s).1 := bytesL_inj (by rw [key, bytesL_extract]; simp)
  rw [e2] at e
  exact e.symm
theorem tapeNum_back {s : ByteArray} (h : (tapeNum s 0).2.1 = 0) : s = numB (tapeNum s 0).2.2 ++ (tapeNum s 0).1 := by
  unfold tapeNum at h ⊢
  rw [if_pos rfl] at h ⊢
  exact num_back h
theorem tapeNum_err {s : ByteArray} {t : Int} (h : t ≠ 0) : (tapeNum s t).2.1 = t := by unfold tapeNum; rw [if_neg h]
theorem fold_unfolded (n : Nat) : fold (unfolded n) = n := by
  unfold fold unfolded
  split <;> split <;> omega
theorem tapeText_back {s : ByteArray} {m : Nat} (h : (tapeText s 0 m).2.1 = 0) (h1 : (tapeText s 0 m).1.size = 0) : s = numB (tapeText s 0 m).2.2.size ++ (tapeText s 0 m).2.2 := by
  unfold tapeText at h h1 ⊢
  rw [if_neg (by simp)] at h h1 ⊢
  split
  · rename_i h2; rw [if_pos h2] at h; exact absurd h h2
  · rename_i h2
    rw [if_neg h2] at h h1
    split
    · rename_i h3; rw [if_pos h3] at h; simp at h
    · rename_i h3
      rw [if_neg h3] at h h1
      split
      · rename_i h4; rw [if_pos h4] at h; simp at h
      · rename_i h4
        rw [if_neg h4] at h h1
        simp only at h1 ⊢
        have hle := numOf_le s
        have hb := num_back (s := s) (by omega)
        have hz : (s.extract ((numOf s).2.1 + (numOf s).1) s.size).size = s.size - ((numOf s).2.1 + (numOf s).1) := by simp
        have he : (numOf s).2.1 + (numOf s).1 = s.size := by omega
        have hs : (s.extract (numOf s).2.1 s.size).size = (numOf s).1 := by simp; omega
        rw [he, hs]
        exact hb
theorem empty_of_size {s : ByteArray} (h : s.size = 0) : s = .empty := by
  refine Fm.data_inj ?_
  have : s.data.toList.length = 0 := by simpa using h
  rw [List.length_eq_zero_iff.1 this]
  rfl
theorem tapeEnd_zero {s : ByteArray} {t : Int} (h : tapeEnd s t = 0) : t = 0 ∧ s.size = 0 := by
  unfold tapeEnd at h
  split at h
  · simp at h
  · rename_i h1
    exact ⟨h, by by_cases e : s.size = 0; exact e; exact absurd ⟨h, e⟩ h1⟩
theorem readVote_back {t : ByteArray} (h : (readVote t).2 = 0) : (readVote t).1.may = true ∧ (readVote t).1.text = t := by
  unfold readVote at h ⊢
  split
  · rename_i h1
    refine ⟨h1.2, ?_⟩
    have hm := Vt.may_iff.1 h1.2
    obtain ⟨h2, h3⟩ := tapeEnd_zero h1.1
    simp only
    unfold tapeVote at h2 h3 hm ⊢
    simp only at h2 h3 hm ⊢
    have ha : (tapeNum t 0).2.1 = 0 := by
      by_cases e : (tapeNum t 0).2.1 = 0
      · exact e
      · rw [tapeNum_err e] at h2; exact absurd h2 e
    rw [ha] at h2 h3 hm ⊢
    have b1 := tapeNum_back ha
    have b2 := tapeNum_back h2
    rw [empty_of_size h3, append_empty] at b2
    unfold Vt.text
    simp only
    rw [fold_unfolded, ← b2]
    have : (numberOf (tapeNum t 0).2.2).toNat = (tapeNum t 0).2.2 := by
      have := hm.1.1
      unfold numberOf at this ⊢
      split at this
      · omega
      · rename_i h6; rw [if_neg h6]; omega
    rw [this, ← b1]
  · rename_i h1; rw [if_neg h1] at h; simp at h
theorem readSnap_back {t : ByteArray} (h : (readSnap t).2 = 0) : (readSnap t).1.may = true ∧ (readSnap t).1.said = t := by
  have hnum : ∀ n : Nat, 0 ≤ numberOf n → (numberOf n).toNat = n := by
    intro n h
    unfold numberOf at h ⊢
    split at h
    · omega
    · rename_i h6; rw [if_neg h6]; omega
  unfold readSnap at h ⊢
  split
  · rename_i h1
    refine ⟨h1.2, ?_⟩
    have hm := Sn.may_iff.1 h1.2
    obtain ⟨h2, h3⟩ := tapeEnd_zero h1.1
    simp only
    unfold tapeSnap at h2 h3 hm ⊢
    simp only at h2 h3 hm ⊢
    have htx : ∀ (s : ByteArray) (t : Int), t ≠ 0 → (tapeText s t 262144).2.1 = t := by intro s t h; unfold tapeText; rw [if_pos h]
    have h4 : (tapeNum (tapeNum (tapeNum t 0).1 (tapeNum t 0).2.1).1 (tapeNum (tapeNum t 0).1 (tapeNum t 0).2.1).2.1).2.1 = 0 := by
      refine Decidable.byContradiction fun e => ?_
      rw [htx _ _ e] at h2; exact e h2
    have h5 : (tapeNum (tapeNum t 0).1 (tapeNum t 0).2.1).2.1 = 0 := by
      refine Decidable.byContradiction fun e => ?_
      rw [tapeNum_err e] at h4; exact e h4
    have h6 : (tapeNum t 0).2.1 = 0 := by
      refine Decidable.byContradiction fun e => ?_
      rw [tapeNum_err e] at h5; exact e h5
    rw [h6] at h2 h3 h4 h5 hm ⊢
    rw [h5] at h2 h3 h4 hm ⊢
    rw [h4] at h2 h3 hm ⊢
    have b1 := tapeNum_back h6
    have b2 := tapeNum_back h5
    have b3 := tapeNum_back h4
    have b4 := tapeText_back h2 h3
    unfold Sn.said
    simp only
    rw [hnum _ hm.1.1, hnum _ hm.2.1.1, hnum _ hm.2.2.1.1, ← b4, append_assoc, append_assoc, ← b3, ← b2, ← b1]
  · rename_i h1; rw [if_neg h1] at h; simp at h
end Go.Proofs.YtjobmlnekpaagaaDoor

/-! ### Plain laws: a pack is unpacked as it was. -/
namespace Go.Proofs.YtjobmlnekpaagaaDoor
open Go Go.RowKit Go.Maps
set_option linter.unusedVariables false

theorem bytesL_packHead {n : Nat} (h : n ≤ 1048576) : bytesL (packHead n) = [n / 65536, n / 256 % 256, n % 256] := by
  unfold packHead
  refine bytesL_strN fun x hx => ?_
  simp at hx
  omega
theorem bytesL_packTail {c : Nat} (h : c < 4294967296) : bytesL (packTail c) = [c % 256, c / 256 % 256, c / 65536 % 256, c / 16777216] := by
  unfold packTail
  refine bytesL_strN fun x hx => ?_
  simp at hx
  omega
theorem byteAt_append_left {a b : ByteArray} {i : Nat} (h : i < a.size) : byteAt (a ++ b) i = byteAt a i := by
  unfold byteAt
  rw [bytesL_append, List.getD_eq_getElem?_getD, List.getD_eq_getElem?_getD, List.getElem?_append_left (by rw [bytesL_length]; exact h)]
theorem byteAt_append_right {a b : ByteArray} {i : Nat} : byteAt (a ++ b) (a.size + i) = byteAt b i := by
  unfold byteAt
  rw [bytesL_append, List.getD_eq_getElem?_getD, List.getD_eq_getElem?_getD, List.getElem?_append_right (by rw [bytesL_length]; omega), bytesL_length, Nat.add_sub_cancel_left]
theorem unpLen_packed {b : ByteArray} (h : b.size ≤ 1048576) (r : ByteArray) : unpLen (packHead b.size ++ b ++ r) = b.size := by
  have hl := packHead_size b.size
  have e : ∀ i, i < 3 → byteAt (packHead b.size ++ b ++ r) i = byteAt (packHead b.size) i := fun i hi => by
    rw [append_assoc, byteAt_append_left (by omega)]
  unfold unpLen
  rw [e 0 (by omega), e 1 (by omega), e 2 (by omega)]
  unfold byteAt
  rw [bytesL_packHead h]
  simp
  omega
theorem unpack_packed {b : ByteArray} (h : b.size ≤ 1048576) : unpack (packed b) = (b, .empty, 0) := by
  have hs := packed_size b
  have hl := packHead_size b.size
  have hn : unpLen (packed b) = b.size := unpLen_packed h _
  have hc := crcSum_lt (packHead b.size ++ b)
  have e0 : (packed b).extract 0 (b.size + 3) = packHead b.size ++ b := by
    unfold packed
    have : b.size + 3 = (packHead b.size ++ b).size := by rw [ByteArray.size_append]; omega
    rw [this, extract_left]
  have e1 : (packed b).extract 3 (b.size + 3) = b := by
    unfold packed
    have : b.size + 3 = (packHead b.size).size + b.size := by omega
    rw [this]
    conv => lhs; arg 2; rw [← hl]
    exact extract_mid _ _ _
  have e2 : (packed b).extract (b.size + 7) (packed b).size = .empty := by
    rw [hs]
    refine Fm.data_inj ?_
    simp
  have hb : ∀ i, i < 4 → byteAt (packed b) (b.size + 3 + i) = byteAt (packTail (crcSum (packHead b.size ++ b))) i := fun i hi => by
    unfold packed
    have : b.size + 3 + i = (packHead b.size ++ b).size + i := by rw [ByteArray.size_append]; omega
    rw [this, byteAt_append_right]
  have hs0 : ∀ i, i < 4 → sumAt (packed b) b.size (crcSum (packHead b.size ++ b)) i = true := by
    intro i hi
    unfold sumAt
    rw [hb i hi]
    unfold byteAt
    rw [bytesL_packTail hc]
    generalize crcSum (packHead b.size ++ b) = c at hc
    have : i = 0 ∨ i = 1 ∨ i = 2 ∨ i = 3 := by omega
    rcases this with e | e | e | e <;> subst e <;> simp <;> omega
  unfold unpack
  rw [if_neg (by omega), hn, if_neg (by omega), if_neg (by omega)]
  simp only
  rw [e0, hs0 0 (by omega), hs0 1 (by omega), hs0 2 (by omega), hs0 3 (by omega), e1, e2]
  rfl
theorem loadOf_packed {b : ByteArray} (h : b.size ≤ 1048576) : loadOf (packed b) 0 = (b, 0) := by
  unfold loadOf
  rw [if_neg (by simp), unpack_packed h]
  simp
end Go.Proofs.YtjobmlnekpaagaaDoor

/-! ### shelf.save, walked. -/
namespace Go.Proofs.YtjobmlnekpaagaaDoor
open Go Go.RowKit Go.Maps
set_option linter.unusedVariables false

def nNew : ByteArray := ⟨#[46, 110, 101, 119]⟩
/-- From the put on. -/
def Dk.saveEnd (r : Dk × Int) (f : ByteArray) : Dk × Int := if r.2 = 0 then r.1.sync else r
def Dk.saveMove (r : Dk × Int) (f : ByteArray) : Dk × Int := if r.2 = 0 then Dk.saveEnd (r.1.move (f ++ nNew) f) f else r
def Dk.savePut (r : Dk × Int) (f : ByteArray) (there : Bool) : Dk × Int :=
  if r.2 = 7 ∧ there = true then (if r.1.sync.2 ≠ 0 then r.1.sync else (r.1.sync.1, 7)) else Dk.saveMove r f
def Dk.saveDrop (r : Dk × Int) (f p : ByteArray) : Dk × Int := if r.2 ≠ 0 then r else Dk.savePut (r.1.put (f ++ nNew) 0 p) f true
/-- A text is put in the place of a file. -/
def Dk.save (d : Dk) (f t : ByteArray) : Dk × Int :=
  if (d.read (f ++ nNew)).2 = 0 then Dk.saveDrop (d.drop (f ++ nNew)) f (packed t) else Dk.savePut (d.put (f ++ nNew) 0 (packed t)) f false
theorem Dk.Ok.saveEnd {r : Dk × Int} {N : Nat} (ok : r.1.Ok N) (f : ByteArray) : (Dk.saveEnd r f).1.Ok N := by
  unfold Dk.saveEnd
  split
  · exact ok.sync
  · exact ok
theorem Dk.Ok.saveMove {r : Dk × Int} {N : Nat} (ok : r.1.Ok N) (f : ByteArray) : (Dk.saveMove r f).1.Ok (N + 1) := by
  unfold Dk.saveMove
  split
  · exact (ok.move _ _).saveEnd f
  · exact ok.mono (Nat.le_succ _)
theorem Dk.Ok.savePut {r : Dk × Int} {N : Nat} (ok : r.1.Ok N) (f : ByteArray) (there : Bool) : (Dk.savePut r f there).1.Ok (N + 1) := by
  unfold Dk.savePut
  split
  · split
    · exact ok.sync.mono (Nat.le_succ _)
    · exact ok.sync.mono (Nat.le_succ _)
  · exact ok.saveMove f
theorem Dk.Ok.saveDrop {r : Dk × Int} {N : Nat} (ok : r.1.Ok N) (f p : ByteArray) : (Dk.saveDrop r f p).1.Ok (N + 2) := by
  unfold Dk.saveDrop
  split
  · exact ok.mono (by omega)
  · exact (ok.put _ _ _).savePut f true
theorem Dk.Ok.save {d : Dk} {N : Nat} (ok : d.Ok N) (f t : ByteArray) : (d.save f t).1.Ok (N + 3) := by
  unfold Dk.save
  split
  · exact (ok.drop _).saveDrop f _
  · exact ((ok.put _ _ _).savePut f false).mono (by omega)
set_option maxRecDepth 100000 in
set_option maxHeartbeats 4000000 in
theorem own_save {F : Nat → Prop} {w w0 : World} {b N : Nat} {d : Dk} (h : OwnF F w w0 b d) (ok : d.Ok N) (hN : N + 4 ≤ 1099511627776) (f t : ByteArray) (hf : f.size ≤ 64) (ht : t.size ≤ 1048576) : Calls Tryd.prog 82 #[.pointer (some ⟨b, 0, none⟩), .string f, .string t] w0 fun e w' => e = .returned (.int .i64 (d.save f t).2) ∧ OwnF F w w' b (d.save f t).1 := by
  have hadd := fun w => run_string_add_sum (P := Tryd.prog) (w := w) f nNew (by have : nNew.size = 4 := rfl; omega)
  have hnf : (f ++ nNew).size ≤ 9223372036854775807 := by rw [ByteArray.size_append]; have : nNew.size = 4 := rfl; omega
  have hps : (packed t).size ≤ 9223372036854775807 := by rw [packed_size]; omega
  have HE : Hid (d.save f t = if (d.read (f ++ nNew)).2 = 0 then Dk.saveDrop (d.drop (f ++ nNew)) f (packed t) else Dk.savePut (d.put (f ++ nNew) 0 (packed t)) f false) := rfl
  have HR := Lib.hid (fun w1 (h : OwnF F w w1 b d) => own_read h (f ++ nNew) hnf)
  have HD := Lib.hid (fun w1 (h : OwnF F w w1 b d) => own_drop h ok (by omega) (f ++ nNew) hnf)
  have HP := Lib.hid (fun (N : Nat) (hN : N + 1 ≤ 1099511627776) (d : Dk) (ok : d.Ok N) w1 (h : OwnF F w w1 b d) => own_put h ok hN (f ++ nNew) 0 (packed t) hnf hps ⟨by decide, by decide⟩)
  have HM := Lib.hid (fun (N : Nat) (hN : N + 1 ≤ 1099511627776) (d : Dk) (ok : d.Ok N) w1 (h : OwnF F w w1 b d) => own_move h ok hN (f ++ nNew) f hnf (by omega))
  have HS := Lib.hid (fun (N : Nat) (hN : N + 1 ≤ 1099511627776) (d : Dk) (ok : d.Ok N) w1 (h : OwnF F w w1 b d) => own_sync h ok hN)
  have HPK := Lib.hid (fun w1 => pack_any w1 t ht)
  have H0 := Lib.hid h
  have OK0 := Lib.hid ok
  have OKD := Lib.hid (ok.drop (f ++ nNew))
  have OKP := Lib.hid (fun (N : Nat) (d : Dk) (ok : d.Ok N) => ok.put (f ++ nNew) 0 (packed t))
  have OKM := Lib.hid (fun (N : Nat) (d : Dk) (ok : d.Ok N) => ok.move (f ++ nNew) f)
  have HNN := Lib.hid hN
  clear h ok hnf hps
  generalize hnn : f ++ nNew = nf at *
  have HNF := Lib.hid hnn
  clear hnn
  unfold nNew at hadd
  generalize packed t = p at *
  generalize d.save f t = R at *
  go_enter Tryd.func82, Tryd.ntmps82
  go_wp2_with fail
  refine (HPK.out _).mono ?_
  rintro e w1 ⟨rfl, hk⟩
  have H1 := Lib.hid (H0.out.quiet hk)
  clear hk H0
  go_wp2_with fail
  refine (HR.out _ H1.out).mono ?_
  clear HR
  generalize d.read nf = rr at *
  obtain ⟨rs, re⟩ := rr
  rintro e w2 ⟨rfl, h2⟩
  have H2 := Lib.hid h2
  clear h2 H1

  by_cases hr : re = 0
  · subst hr
    have HE' : Hid (R = Dk.saveDrop (d.drop nf) f p) := by
      unfold Hid
      rw [HE.out, if_pos rfl]
    clear HE
    have HE := HE'
    clear HE'
    go_wp2_with fail
    refine (HD.out _ H2.out).mono ?_
    clear HD
    generalize Dk.drop d nf = rd at *
    obtain ⟨d1, e1⟩ := rd
    rintro e w3 ⟨rfl, h3⟩
    have H3 := Lib.hid h3
    clear h3 H2
    by_cases hd : e1 = 0
    · subst hd
      have HE' : Hid (R = Dk.savePut (d1.put nf 0 p) f true) := by
        unfold Hid
        rw [HE.out]
        unfold Dk.saveDrop
        rw [if_neg (by simp), HNF.out]
      clear HE
      have HE := HE'
      clear HE'
      go_wp2_with fail
      refine (HP.out _ (by have := HNN.out; omega) _ OKD.out _ H3.out).mono ?_
      have OK2 := Lib.hid (OKP.out _ _ OKD.out)
      generalize Dk.put d1 nf 0 p = rp at *
      obtain ⟨d2, e2⟩ := rp
      rintro e w4 ⟨rfl, h4⟩
      have H4 := Lib.hid h4
      clear h4
      by_cases hz2 : e2 = 0
      · subst hz2
        have HE' : Hid (R = Dk.saveEnd (d2.move nf f) f) := by
          unfold Hid
          rw [HE.out]
          unfold Dk.savePut
          rw [if_neg (by simp)]
          unfold Dk.saveMove
          rw [if_pos rfl, HNF.out]
        clear HE
        have HE := HE'
        clear HE'
        go_wp2_with fail
        refine (HM.out _ (by have := HNN.out; omega) _ OK2.out _ H4.out).mono ?_
        have OK3 := Lib.hid (OKM.out _ _ OK2.out)
        generalize Dk.move d2 nf f = rm at *
        obtain ⟨d3, e3⟩ := rm
        rintro e w5 ⟨rfl, h5⟩
        have H5 := Lib.hid h5
        clear h5
        by_cases hz3 : e3 = 0
        · subst hz3
          have HE' : Hid (R = d3.sync) := by
            unfold Hid
            rw [HE.out]
            unfold Dk.saveEnd
            rw [if_pos rfl]
          clear HE
          have HE := HE'
          clear HE'
          go_wp2_with fail
          refine (HS.out _ (by have := HNN.out; omega) _ OK3.out _ H5.out).mono ?_
          rintro e w6 ⟨rfl, h6⟩
          have H6 := Lib.hid h6
          clear h6
          go_wp2_with fail
          go_ret
          rw [HE.out]
          exact ⟨rfl, H6.out⟩
        · have g3 : (e3 == 0) = false := beq_eq_false_iff_ne.2 hz3
          have HE' : Hid (R = (d3, e3)) := by
            unfold Hid
            rw [HE.out]
            unfold Dk.saveEnd
            rw [if_neg hz3]
          clear HE
          have HE := HE'
          clear HE'
          go_wp2_with fail
          go_ret
          rw [HE.out]
          exact ⟨rfl, H5.out⟩
      · have g2 : (e2 == 0) = false := beq_eq_false_iff_ne.2 hz2
        by_cases hz7 : e2 = 7
        · subst hz7
          have HE' : Hid (R = if d2.sync.2 ≠ 0 then d2.sync else (d2.sync.1, 7)) := by
            unfold Hid
            rw [HE.out]
            unfold Dk.savePut
            rw [if_pos ⟨rfl, rfl⟩]
          clear HE
          have HE := HE'
          clear HE'
          go_wp2_with fail
          refine (HS.out _ (by have := HNN.out; omega) _ OK2.out _ H4.out).mono ?_
          generalize Dk.sync d2 = rs at *
          obtain ⟨ds, es⟩ := rs
          rintro e w6 ⟨rfl, h6⟩
          have H6 := Lib.hid h6
          clear h6
          by_cases hzs : es = 0
          · subst hzs
            have HE' : Hid (R = (ds, 7)) := by
              unfold Hid
              rw [HE.out, if_neg (by simp)]
            clear HE
            have HE := HE'
            clear HE'
            go_wp2_with fail
            go_ret
            rw [HE.out]
            exact ⟨rfl, H6.out⟩
          · have gs : (es != 0) = true := by rw [bne, beq_eq_false_iff_ne.2 hzs]; rfl
            have HE' : Hid (R = (ds, es)) := by
              unfold Hid
              rw [HE.out, if_pos hzs]
            clear HE
            have HE := HE'
            clear HE'
            go_wp2_with fail
            go_ret
            rw [HE.out]
            exact ⟨rfl, H6.out⟩
        · have g7 : (e2 == 7) = false := beq_eq_false_iff_ne.2 hz7
          have HE' : Hid (R = (d2, e2)) := by
            unfold Hid
            rw [HE.out]
            unfold Dk.savePut Dk.saveMove
            rw [if_neg (fun h => hz7 h.1), if_neg hz2]
          clear HE
          have HE := HE'
          clear HE'
          go_wp2_with fail
          go_ret
          rw [HE.out]
          exact ⟨rfl, H4.out⟩
    · have gd : (e1 != 0) = true := by rw [bne, beq_eq_false_iff_ne.2 hd]; rfl
      have HE' : Hid (R = (d1, e1)) := by
        unfold Hid
        rw [HE.out]
        unfold Dk.saveDrop
        rw [if_pos hd]
      clear HE
      have HE := HE'
      clear HE'
      go_wp2_with fail
      go_ret
      rw [HE.out]
      exact ⟨rfl, H3.out⟩
  · have gr : (re == 0) = false := beq_eq_false_iff_ne.2 hr
    have HE' : Hid (R = Dk.savePut (d.put nf 0 p) f false) := by
      unfold Hid
      rw [HE.out, if_neg hr]
    clear HE
    have HE := HE'
    clear HE'
    go_wp2_with fail
    refine (HP.out _ (by have := HNN.out; omega) _ OK0.out _ H2.out).mono ?_
    have OK2 := Lib.hid (OKP.out _ _ OK0.out)
    generalize Dk.put d nf 0 p = rp at *
    obtain ⟨d2, e2⟩ := rp
    rintro e w4 ⟨rfl, h4⟩
    have H4 := Lib.hid h4
    clear h4
    by_cases hz2 : e2 = 0
    · subst hz2
      have HE' : Hid (R = Dk.saveEnd (d2.move nf f) f) := by
        unfold Hid
        rw [HE.out]
        unfold Dk.savePut
        rw [if_neg (by simp)]
        unfold Dk.saveMove
        rw [if_pos rfl, HNF.out]
      clear HE
      have HE := HE'
      clear HE'
      go_wp2_with fail
      refine (HM.out _ (by have := HNN.out; omega) _ OK2.out _ H4.out).mono ?_
      have OK3 := Lib.hid (OKM.out _ _ OK2.out)
      generalize Dk.move d2 nf f = rm at *
      obtain ⟨d3, e3⟩ := rm
      rintro e w5 ⟨rfl, h5⟩
      have H5 := Lib.hid h5
      clear h5
      by_cases hz3 : e3 = 0
      · subst hz3
        have HE' : Hid (R = d3.sync) := by
          unfold Hid
          rw [HE.out]
          unfold Dk.saveEnd
          rw [if_pos rfl]
        clear HE
        have HE := HE'
        clear HE'
        go_wp2_with fail
        refine (HS.out _ (by have := HNN.out; omega) _ OK3.out _ H5.out).mono ?_
        rintro e w6 ⟨rfl, h6⟩
        have H6 := Lib.hid h6
        clear h6
        go_wp2_with fail
        go_ret
        rw [HE.out]
        exact ⟨rfl, H6.out⟩
      · have g3 : (e3 == 0) = false := beq_eq_false_iff_ne.2 hz3
        have HE' : Hid (R = (d3, e3)) := by
          unfold Hid
          rw [HE.out]
          unfold Dk.saveEnd
          rw [if_neg hz3]
        clear HE
        have HE := HE'
        clear HE'
        go_wp2_with fail
        go_ret
        rw [HE.out]
        exact ⟨rfl, H5.out⟩
    · have g2 : (e2 == 0) = false := beq_eq_false_iff_ne.2 hz2
      by_cases hz7 : e2 = 7
      · subst hz7
        have HE' : Hid (R = (d2, 7)) := by
          unfold Hid
          rw [HE.out]
          unfold Dk.savePut Dk.saveMove
          rw [if_neg (fun h => by simp at h), if_neg hz2]
        clear HE
        have HE := HE'
        clear HE'
        go_wp2_with fail
        go_ret
        rw [HE.out]
        exact ⟨rfl, H4.out⟩
      · have g7 : (e2 == 7) = false := beq_eq_false_iff_ne.2 hz7
        have HE' : Hid (R = (d2, e2)) := by
          unfold Hid
          rw [HE.out]
          unfold Dk.savePut Dk.saveMove
          rw [if_neg (fun h => hz7 h.1), if_neg hz2]
        clear HE
        have HE := HE'
        clear HE'
        go_wp2_with fail
        go_ret
        rw [HE.out]
        exact ⟨rfl, H4.out⟩
end Go.Proofs.YtjobmlnekpaagaaDoor

/-! ### shelf.LoadSnap, SaveVote, SaveSnap over a disk, walked. -/
namespace Go.Proofs.YtjobmlnekpaagaaDoor
open Go Go.RowKit Go.Maps
set_option linter.unusedVariables false

def nSnap : ByteArray := ⟨#[115, 110, 97, 112]⟩
/-- The snapshot that a disk says. -/
def loadSnapOf (r : ByteArray × Int) : Sn × Bool × Int := if r.2 = 4 then (⟨0, 0, 0, ⟨#[]⟩⟩, false, 0) else if r.2 ≠ 0 then (⟨0, 0, 0, ⟨#[]⟩⟩, false, r.2) else ((readSnap r.1).1, (readSnap r.1).2 == 0, (readSnap r.1).2)
def Dk.loadSnap (d : Dk) : Sn × Bool × Int := loadSnapOf (d.load nSnap)
set_option maxRecDepth 100000 in
set_option maxHeartbeats 4000000 in
theorem own_loadSnap {F : Nat → Prop} {w w0 : World} {b N : Nat} {d : Dk} (h : OwnF F w w0 b d) (ok : d.Ok N) : Calls Tryd.prog 32 #[.pointer (some ⟨b, 0, none⟩)] w0 fun e w' => e = .returned (.tuple #[.agg d.loadSnap.1.cells.toArray, .bool d.loadSnap.2.1, .int .i64 d.loadSnap.2.2]) ∧ OwnF F w w' b d := by
  have hal := (Kept.refl (fun _ => False) w0).alloc (.cells #[.int .i64 0, .int .i64 0, .int .i64 0, .string ⟨#[]⟩] 45)
  obtain ⟨G, hG, hG1, hG2⟩ := h.rebase_quiet hal
  have hwg : w.heap.size ≤ w0.heap.size := h.kept.size
  have hback : ∀ w1 w2, OwnF G (w0.alloc (.cells #[.int .i64 0, .int .i64 0, .int .i64 0, .string ⟨#[]⟩] 45)) w1 b d → Kept (fun k => k = w0.heap.size) w1 w2 → OwnF F w w2 b d := fun w1 w2 h1 h2 => OwnF.spare (h.kept.trans (hal.mono (fun _ _ f => f.elim))) (fun k e => hG1 k e) h1 w0.heap.size (by rw [alloc_size]; omega) (fun e => by have := hG2 _ e; omega) hwg h2
  have HBK := Lib.hid hback
  have HL := Lib.hid (own_load hG ok nSnap (by decide))
  have hs := load_size ok nSnap
  have hgG : ¬ G w0.heap.size := fun e => by have := hG2 _ e; omega
  have HG := Lib.hid hgG
  have hb0 := block_new w0 (.cells #[.int .i64 0, .int .i64 0, .int .i64 0, .string ⟨#[]⟩] 45)
  have hlt0 : w0.heap.size < (w0.alloc (.cells #[.int .i64 0, .int .i64 0, .int .i64 0, .string ⟨#[]⟩] 45)).heap.size := (Array.getElem?_eq_some_iff.1 hb0).1
  have HB0 := Lib.hid hb0
  have HE : Hid (d.loadSnap = loadSnapOf (d.load nSnap)) := rfl
  generalize d.loadSnap = R at *
  generalize d.load nSnap = r at *
  obtain ⟨s, e0⟩ := r
  simp only at HL hs HE
  clear h hal hG hG1 hG2 hback hgG hb0 ok
  go_enter Tryd.func32, Tryd.ntmps32
  go_wp2_with fail
  refine HL.out.mono ?_
  rintro e w1 ⟨rfl, h1⟩
  have HB1 : Hid (w1.heap[w0.heap.size]? = some (.cells #[.int .i64 0, .int .i64 0, .int .i64 0, .string ⟨#[]⟩] 45 (0, 0))) := by
    unfold Hid
    rw [h1.kept.block _ hlt0 HG.out]
    exact HB0.out
  have H1 := Lib.hid h1
  clear h1 hlt0
  by_cases h4 : e0 = 4
  · subst h4
    have HE' : Hid (R = (⟨0, 0, 0, ⟨#[]⟩⟩, false, 0)) := by
      unfold Hid
      rw [HE.out]
      unfold loadSnapOf
      rw [if_pos rfl]
    clear HE
    have HE := HE'
    clear HE'
    have z0 : w1.cell? ⟨w0.heap.size, 0, none⟩ = some (.int .i64 0) := by rw [cell_of_block HB1.out]; rfl
    have z1 : w1.cell? ⟨w0.heap.size, 1, none⟩ = some (.int .i64 0) := by rw [cell_of_block HB1.out]; rfl
    have z2 : w1.cell? ⟨w0.heap.size, 2, none⟩ = some (.int .i64 0) := by rw [cell_of_block HB1.out]; rfl
    have z3 : w1.cell? ⟨w0.heap.size, 3, none⟩ = some (.string ⟨#[]⟩) := by rw [cell_of_block HB1.out]; rfl
    have f0 := frozen_of_block HB1.out 0
    have f1 := frozen_of_block HB1.out 1
    have f2 := frozen_of_block HB1.out 2
    have f3 := frozen_of_block HB1.out 3
    go_wp2_with fail
    have d0 : ((((w1.setCell ⟨w0.heap.size, 0, none⟩ (.int .i64 0)).setCell ⟨w0.heap.size, 1, none⟩ (.int .i64 0)).setCell ⟨w0.heap.size, 2, none⟩ (.int .i64 0)).setCell ⟨w0.heap.size, 3, none⟩ (.string ⟨#[]⟩)).heap[w0.heap.size]? = some (.cells #[.int .i64 0, .int .i64 0, .int .i64 0, .string ⟨#[]⟩] 45 (0, 0)) := by
      rw [setCell_block (setCell_block (setCell_block (setCell_block HB1.out 0 _) 1 _) 2 _) 3 _]
      rfl
    have hkw : Kept (fun k => k = w0.heap.size) w1 ((((w1.setCell ⟨w0.heap.size, 0, none⟩ (.int .i64 0)).setCell ⟨w0.heap.size, 1, none⟩ (.int .i64 0)).setCell ⟨w0.heap.size, 2, none⟩ (.int .i64 0)).setCell ⟨w0.heap.size, 3, none⟩ (.string ⟨#[]⟩)) := (((Kept.own _ _ _ _).trans (Kept.own _ _ _ _)).trans (Kept.own _ _ _ _)).trans (Kept.own _ _ _ _)
    generalize ((((w1.setCell ⟨w0.heap.size, 0, none⟩ (.int .i64 0)).setCell ⟨w0.heap.size, 1, none⟩ (.int .i64 0)).setCell ⟨w0.heap.size, 2, none⟩ (.int .i64 0)).setCell ⟨w0.heap.size, 3, none⟩ (.string ⟨#[]⟩)) = WW at *
    have q0 : WW.cell? ⟨w0.heap.size, 0, none⟩ = some (.int .i64 0) := by rw [cell_of_block d0]; rfl
    have q1 : WW.cell? ⟨w0.heap.size, 1, none⟩ = some (.int .i64 0) := by rw [cell_of_block d0]; rfl
    have q2 : WW.cell? ⟨w0.heap.size, 2, none⟩ = some (.int .i64 0) := by rw [cell_of_block d0]; rfl
    have q3 : WW.cell? ⟨w0.heap.size, 3, none⟩ = some (.string ⟨#[]⟩) := by rw [cell_of_block d0]; rfl
    refine bodyPost_ret (by simp [results, Tryd.results32, go_sem, q0, q1, q2, q3]; try rfl) rfl ?_
    rw [HE.out]
    exact ⟨rfl, HBK.out _ _ H1.out hkw⟩
  have g4 : (e0 == 4) = false := beq_eq_false_iff_ne.2 h4
  by_cases hz : e0 = 0
  · subst hz
    have HE' : Hid (R = ((readSnap s).1, (readSnap s).2 == 0, (readSnap s).2)) := by
      unfold Hid
      rw [HE.out]
      unfold loadSnapOf
      rw [if_neg (by simp), if_neg (by simp)]
    clear HE
    have HE := HE'
    clear HE' g4
    have hv := fun w => readSnap_any w s hs
    generalize readSnap s = r2 at *
    obtain ⟨⟨vi, va, vc, vx⟩, vk⟩ := r2
    simp only [Sn.cells] at hv
    go_wp2_with fail
    refine (hv w1).mono ?_
    rintro e w2 ⟨rfl, hk2⟩
    have hb2 : w2.heap[w0.heap.size]? = some (.cells #[.int .i64 0, .int .i64 0, .int .i64 0, .string ⟨#[]⟩] 45 (0, 0)) := by
      rw [hk2.block _ ((Array.getElem?_eq_some_iff.1 HB1.out).1) (fun f => f)]
      exact HB1.out
    have hlt2 : w0.heap.size < w2.heap.size := (Array.getElem?_eq_some_iff.1 hb2).1
    have hk3 := hk2.alloc (.cells #[.int .i64 vi, .int .i64 va, .int .i64 vc, .string vx] 45)
    have hb3 : (w2.alloc (.cells #[.int .i64 vi, .int .i64 va, .int .i64 vc, .string vx] 45)).heap[w0.heap.size]? = some (.cells #[.int .i64 0, .int .i64 0, .int .i64 0, .string ⟨#[]⟩] 45 (0, 0)) := by
      rw [hk3.block _ ((Array.getElem?_eq_some_iff.1 HB1.out).1) (fun f => f)]
      exact HB1.out
    have hn3 := block_new w2 (.cells #[.int .i64 vi, .int .i64 va, .int .i64 vc, .string vx] 45)
    have H2 := Lib.hid (H1.out.quiet hk3)
    have HB3 := Lib.hid hb3
    have HN3 := Lib.hid hn3
    have m0 := cell_of_block hn3 0
    have m1 := cell_of_block hn3 1
    have m2 := cell_of_block hn3 2
    have m3 := cell_of_block hn3 3
    clear hk2 hv hb2 hk3 hlt2 hn3 hb3
    have z0 : (w2.alloc (.cells #[.int .i64 vi, .int .i64 va, .int .i64 vc, .string vx] 45)).cell? ⟨w0.heap.size, 0, none⟩ = some (.int .i64 0) := by rw [cell_of_block HB3.out]; rfl
    have z1 : (w2.alloc (.cells #[.int .i64 vi, .int .i64 va, .int .i64 vc, .string vx] 45)).cell? ⟨w0.heap.size, 1, none⟩ = some (.int .i64 0) := by rw [cell_of_block HB3.out]; rfl
    have z2 : (w2.alloc (.cells #[.int .i64 vi, .int .i64 va, .int .i64 vc, .string vx] 45)).cell? ⟨w0.heap.size, 2, none⟩ = some (.int .i64 0) := by rw [cell_of_block HB3.out]; rfl
    have z3 : (w2.alloc (.cells #[.int .i64 vi, .int .i64 va, .int .i64 vc, .string vx] 45)).cell? ⟨w0.heap.size, 3, none⟩ = some (.string ⟨#[]⟩) := by rw [cell_of_block HB3.out]; rfl
    have f0 := frozen_of_block HB3.out 0
    have f1 := frozen_of_block HB3.out 1
    have f2 := frozen_of_block HB3.out 2
    have f3 := frozen_of_block HB3.out 3
    go_wp2_with fail
    have d0 : (((((w2.alloc (.cells #[.int .i64 vi, .int .i64 va, .int .i64 vc, .string vx] 45)).setCell ⟨w0.heap.size, 0, none⟩ (.int .i64 vi)).setCell ⟨w0.heap.size, 1, none⟩ (.int .i64 va)).setCell ⟨w0.heap.size, 2, none⟩ (.int .i64 vc)).setCell ⟨w0.heap.size, 3, none⟩ (.string vx)).heap[w0.heap.size]? = some (.cells #[.int .i64 vi, .int .i64 va, .int .i64 vc, .string vx] 45 (0, 0)) := by
      rw [setCell_block (setCell_block (setCell_block (setCell_block HB3.out 0 _) 1 _) 2 _) 3 _]
      rfl
    have hkw : Kept (fun k => k = w0.heap.size) (w2.alloc (.cells #[.int .i64 vi, .int .i64 va, .int .i64 vc, .string vx] 45)) (((((w2.alloc (.cells #[.int .i64 vi, .int .i64 va, .int .i64 vc, .string vx] 45)).setCell ⟨w0.heap.size, 0, none⟩ (.int .i64 vi)).setCell ⟨w0.heap.size, 1, none⟩ (.int .i64 va)).setCell ⟨w0.heap.size, 2, none⟩ (.int .i64 vc)).setCell ⟨w0.heap.size, 3, none⟩ (.string vx)) := (((Kept.own _ _ _ _).trans (Kept.own _ _ _ _)).trans (Kept.own _ _ _ _)).trans (Kept.own _ _ _ _)
    generalize (((((w2.alloc (.cells #[.int .i64 vi, .int .i64 va, .int .i64 vc, .string vx] 45)).setCell ⟨w0.heap.size, 0, none⟩ (.int .i64 vi)).setCell ⟨w0.heap.size, 1, none⟩ (.int .i64 va)).setCell ⟨w0.heap.size, 2, none⟩ (.int .i64 vc)).setCell ⟨w0.heap.size, 3, none⟩ (.string vx)) = WW at *
    have q0 : WW.cell? ⟨w0.heap.size, 0, none⟩ = some (.int .i64 vi) := by rw [cell_of_block d0]; rfl
    have q1 : WW.cell? ⟨w0.heap.size, 1, none⟩ = some (.int .i64 va) := by rw [cell_of_block d0]; rfl
    have q2 : WW.cell? ⟨w0.heap.size, 2, none⟩ = some (.int .i64 vc) := by rw [cell_of_block d0]; rfl
    have q3 : WW.cell? ⟨w0.heap.size, 3, none⟩ = some (.string vx) := by rw [cell_of_block d0]; rfl
    refine bodyPost_ret (by simp [results, Tryd.results32, go_sem, q0, q1, q2, q3]; try rfl) rfl ?_
    rw [HE.out]
    exact ⟨rfl, HBK.out _ _ H2.out hkw⟩
  · have g0 : (e0 != 0) = true := by rw [bne, beq_eq_false_iff_ne.2 hz]; rfl
    have HE' : Hid (R = (⟨0, 0, 0, ⟨#[]⟩⟩, false, e0)) := by
      unfold Hid
      rw [HE.out]
      unfold loadSnapOf
      rw [if_neg h4, if_pos hz]
    clear HE
    have HE := HE'
    clear HE'
    have z0 : w1.cell? ⟨w0.heap.size, 0, none⟩ = some (.int .i64 0) := by rw [cell_of_block HB1.out]; rfl
    have z1 : w1.cell? ⟨w0.heap.size, 1, none⟩ = some (.int .i64 0) := by rw [cell_of_block HB1.out]; rfl
    have z2 : w1.cell? ⟨w0.heap.size, 2, none⟩ = some (.int .i64 0) := by rw [cell_of_block HB1.out]; rfl
    have z3 : w1.cell? ⟨w0.heap.size, 3, none⟩ = some (.string ⟨#[]⟩) := by rw [cell_of_block HB1.out]; rfl
    have f0 := frozen_of_block HB1.out 0
    have f1 := frozen_of_block HB1.out 1
    have f2 := frozen_of_block HB1.out 2
    have f3 := frozen_of_block HB1.out 3
    go_wp2_with fail
    have d0 : ((((w1.setCell ⟨w0.heap.size, 0, none⟩ (.int .i64 0)).setCell ⟨w0.heap.size, 1, none⟩ (.int .i64 0)).setCell ⟨w0.heap.size, 2, none⟩ (.int .i64 0)).setCell ⟨w0.heap.size, 3, none⟩ (.string ⟨#[]⟩)).heap[w0.heap.size]? = some (.cells #[.int .i64 0, .int .i64 0, .int .i64 0, .string ⟨#[]⟩] 45 (0, 0)) := by
      rw [setCell_block (setCell_block (setCell_block (setCell_block HB1.out 0 _) 1 _) 2 _) 3 _]
      rfl
    have hkw : Kept (fun k => k = w0.heap.size) w1 ((((w1.setCell ⟨w0.heap.size, 0, none⟩ (.int .i64 0)).setCell ⟨w0.heap.size, 1, none⟩ (.int .i64 0)).setCell ⟨w0.heap.size, 2, none⟩ (.int .i64 0)).setCell ⟨w0.heap.size, 3, none⟩ (.string ⟨#[]⟩)) := (((Kept.own _ _ _ _).trans (Kept.own _ _ _ _)).trans (Kept.own _ _ _ _)).trans (Kept.own _ _ _ _)
    generalize ((((w1.setCell ⟨w0.heap.size, 0, none⟩ (.int .i64 0)).setCell ⟨w0.heap.size, 1, none⟩ (.int .i64 0)).setCell ⟨w0.heap.size, 2, none⟩ (.int .i64 0)).setCell ⟨w0.heap.size, 3, none⟩ (.string ⟨#[]⟩)) = WW at *
    have q0 : WW.cell? ⟨w0.heap.size, 0, none⟩ = some (.int .i64 0) := by rw [cell_of_block d0]; rfl
    have q1 : WW.cell? ⟨w0.heap.size, 1, none⟩ = some (.int .i64 0) := by rw [cell_of_block d0]; rfl
    have q2 : WW.cell? ⟨w0.heap.size, 2, none⟩ = some (.int .i64 0) := by rw [cell_of_block d0]; rfl
    have q3 : WW.cell? ⟨w0.heap.size, 3, none⟩ = some (.string ⟨#[]⟩) := by rw [cell_of_block d0]; rfl
    refine bodyPost_ret (by simp [results, Tryd.results32, go_sem, q0, q1, q2, q3]; try rfl) rfl ?_
    rw [HE.out]
    exact ⟨rfl, HBK.out _ _ H1.out hkw⟩
end Go.Proofs.YtjobmlnekpaagaaDoor

/-! ### Plain laws: what is saved is there, whenever the power fails. -/
namespace Go.Proofs.YtjobmlnekpaagaaDoor
open Go Go.RowKit Go.Maps
set_option linter.unusedVariables false

/-- A file holds the pack of a text, or is not there. -/
def HoldsF (m : Fm) (f : ByteArray) (o : Option ByteArray) : Prop := m.find f = o.map fun t => (f, packed t)
theorem HoldsF.get {m : Fm} {f t : ByteArray} (h : HoldsF m f (some t)) : m.get f = packed t := by
  unfold HoldsF at h
  unfold Fm.get
  rw [h]
  rfl
theorem HoldsF.has {m : Fm} {f : ByteArray} {o : Option ByteArray} (h : HoldsF m f o) : m.has f = o.isSome := by
  unfold HoldsF at h
  rw [Fm.has_find, h]
  cases o <;> rfl
theorem read_there {d : Dk} {f : ByteArray} (hd : d.down = false) (hn : Dk.name f = true) {o : Option ByteArray} (h : HoldsF d.now f o) : d.load f = match o with | some t => loadOf (packed t) 0 | none => (.empty, 4) := by
  have hh := h.has
  unfold Dk.load Dk.read Dk.there
  cases o with
  | none =>
    simp [hd, hn, hh, loadOf]
  | some t =>
    simp [hd, hn, hh, h.get]
theorem name_vote : Dk.name nVote = true := by decide +kernel
theorem name_snap : Dk.name nSnap = true := by decide +kernel
def nVoteNew : ByteArray := ⟨#[118, 111, 116, 101, 46, 110, 101, 119]⟩
def nSnapNew : ByteArray := ⟨#[115, 110, 97, 112, 46, 110, 101, 119]⟩
theorem vote_new : nVote ++ nNew = nVoteNew := by decide +kernel
theorem snap_new : nSnap ++ nNew = nSnapNew := by decide +kernel
theorem name_vote_new : Dk.name nVoteNew = true := by decide +kernel
theorem name_snap_new : Dk.name nSnapNew = true := by decide +kernel

/-- What the vote's file holds, as a vote. -/
def VoteOk (o : Option ByteArray) (v : Vt) : Prop := (o = none ∧ v = ⟨0, -1⟩) ∨ (o = some v.text ∧ v.may = true)
def SnapOk (o : Option ByteArray) (s : Sn) (is : Bool) : Prop := (o = none ∧ s = ⟨0, 0, 0, .empty⟩ ∧ is = false) ∨ (o = some s.said ∧ s.may = true ∧ is = true)
theorem numB_size' {n : Int} (h0 : 0 ≤ n) (h1 : n < 18446744073709551616) : (numB n.toNat).size ≤ 9 := numB_size (by omega)
theorem Vt.text_size {v : Vt} (h : v.may = true) : v.text.size ≤ 18 := by
  obtain ⟨⟨h1, h2⟩, h3, h4⟩ := Vt.may_iff.1 h
  have hf : fold v.to < 18446744073709551616 := fold_lt (by omega) (by omega)
  have a := numB_size' h1 (by omega)
  have b := numB_size hf
  unfold Vt.text
  rw [ByteArray.size_append]
  omega
theorem Sn.said_size {s : Sn} (h : s.may = true) : s.said.size ≤ s.text.size + 36 := by
  obtain ⟨⟨h1, h2⟩, ⟨h3, h4⟩, ⟨h5, h6⟩, h7⟩ := Sn.may_iff.1 h
  have a := numB_size' h1 (by omega)
  have b := numB_size' h3 (by omega)
  have c := numB_size' h5 (by omega)
  have d := numB_size (n := s.text.size) (by omega)
  unfold Sn.said
  rw [ByteArray.size_append, ByteArray.size_append, ByteArray.size_append, ByteArray.size_append]
  omega
theorem Sn.said_long {s : Sn} (h : s.may = true) : s.said.size ≤ 1048576 := by
  have := Sn.said_size h
  obtain ⟨⟨h1, h2⟩, ⟨h3, h4⟩, ⟨h5, h6⟩, h7⟩ := Sn.may_iff.1 h
  omega
theorem loadVote_ok {d : Dk} (hd : d.down = false) {o : Option ByteArray} (h : HoldsF d.now nVote o) {v : Vt} (hv : VoteOk o v) : d.loadVote = (v, 0) := by
  have hl := read_there hd name_vote h
  unfold Dk.loadVote
  rw [hl]
  rcases hv with ⟨rfl, rfl⟩ | ⟨rfl, hm⟩
  · rfl
  · have h1 := Vt.text_size hm
    simp only
    rw [loadOf_packed (by omega), if_pos rfl, readVote_text hm]
theorem loadSnap_ok {d : Dk} (hd : d.down = false) {o : Option ByteArray} (h : HoldsF d.now nSnap o) {s : Sn} {is : Bool} (hv : SnapOk o s is) : d.loadSnap = (s, is, 0) := by
  have hl := read_there hd name_snap h
  unfold Dk.loadSnap
  rw [hl]
  rcases hv with ⟨rfl, rfl, rfl⟩ | ⟨rfl, hm, rfl⟩
  · rfl
  · have h1 := Sn.said_long hm
    simp only
    rw [loadOf_packed h1]
    unfold loadSnapOf
    rw [if_neg (by simp), if_neg (by simp), readSnap_text hm]
    rfl

/-! ### the changes of a saving -/
theorem laid_empty (s : ByteArray) : Ch.laid ByteArray.empty s 0 = s := by
  refine Fm.data_inj ?_
  unfold Ch.laid
  rw [if_neg (by simp)]
  simp
/-- Files that differ in nothing but a file that is on its way. -/
def Same (nf : ByteArray) (m m' : Fm) : Prop := ∀ x, x ≠ nf → m'.find x = m.find x
theorem Same.refl (nf : ByteArray) (m : Fm) : Same nf m m := fun _ _ => rfl
theorem Same.drop {nf : ByteArray} {m m' : Fm} (h : Same nf m m') : Same nf m ((Ch.drop nf).done m') := fun x hx => by
  rw [Ch.done_find (c := .drop nf) (x := x) (fun e => hx e)]
  exact h x hx
theorem Same.put {nf : ByteArray} {m m' : Fm} (h : Same nf m m') (s : ByteArray) (k : Int) : Same nf m ((Ch.put nf s k).done m') := fun x hx => by
  rw [Ch.done_find (c := .put nf s k) (x := x) (fun e => hx e)]
  exact h x hx
/-- The saving is done: the file holds the pack, the other files are as they were. -/
structure Saved (f nf p : ByteArray) (m m' : Fm) : Prop where
  file : m'.find f = some (f, p)
  gone : m'.find nf = none
  rest : ∀ x, x ≠ f → x ≠ nf → m'.find x = m.find x
theorem saved_move {f nf p : ByteArray} {m m' : Fm} (hne : f ≠ nf) (h : Same nf m m') (hg : m'.find nf = some (nf, p)) : Saved f nf p m ((Ch.move nf f).done m') := by
  have e : m'.get nf = p := by unfold Fm.get; rw [hg]
  refine ⟨?_, ?_, fun x h1 h2 => ?_⟩
  · show (Fm.put _ _ _).find _ = _
    rw [Fm.find_put_same, e]
  · show (Fm.put _ _ _).find _ = _
    rw [Fm.find_put_other (fun e => hne e.symm), Fm.find_del_same]
  · rw [Ch.done_find (c := .move nf f) (x := x) (fun e => e.elim h2 h1)]
    exact h x h2
theorem put_gone {nf p : ByteArray} {m : Fm} (h : m.find nf = none) : ((Ch.put nf p 0).done m).find nf = some (nf, p) := by
  have e : m.get nf = ByteArray.empty := by unfold Fm.get; rw [h]
  show (Fm.put _ _ _).find _ = _
  rw [Fm.find_put_same, e, laid_empty]
theorem drop_gone (nf : ByteArray) (m : Fm) : ((Ch.drop nf).done m).find nf = none := Fm.find_del_same _ _
/-- Files behind a loss of power in a saving: as they were, or saved. -/
def Either (f nf p : ByteArray) (m m' : Fm) : Prop := Same nf m m' ∨ Saved f nf p m m'
theorem failed_move {f nf p : ByteArray} {m m' : Fm} (hne : f ≠ nf) (h : Same nf m m') (hg : m'.find nf = some (nf, p)) (k : Int) : Either f nf p m (failed m' [.move nf f] k) := by
  unfold failed
  split
  · exact .inr (saved_move hne h hg)
  · exact .inl h
theorem failed_puts {f nf p : ByteArray} {m m' : Fm} (hne : f ≠ nf) (h : Same nf m m') (hg : m'.find nf = none) (k : Int) {row : List Ch} (hr : row = [] ∨ row = [.put nf p 0] ∨ row = [.put nf p 0, .move nf f]) : Either f nf p m (failed m' row k) := by
  rcases hr with rfl | rfl | rfl
  · exact .inl h
  · by_cases hc : (Ch.put nf p 0).cost ≤ k
    · rw [failed_le hc]
      exact .inl (h.put _ _)
    · by_cases h0 : 0 < k
      · rw [failed_torn hc h0]
        exact .inl (h.put _ _)
      · rw [failed_none hc h0]
        exact .inl h
  · by_cases hc : (Ch.put nf p 0).cost ≤ k
    · rw [failed_le hc]
      exact failed_move hne (h.put _ _) (put_gone hg) _
    · by_cases h0 : 0 < k
      · rw [failed_torn hc h0]
        exact .inl (h.put _ _)
      · rw [failed_none hc h0]
        exact .inl h
theorem failed_drops {f nf p : ByteArray} {m : Fm} (hne : f ≠ nf) (k : Int) {row : List Ch} (hr : row = [] ∨ row = [.put nf p 0] ∨ row = [.put nf p 0, .move nf f]) : Either f nf p m (failed m (.drop nf :: row) k) := by
  unfold failed
  split
  · exact failed_puts hne (Same.refl nf m).drop (drop_gone nf m) _ hr
  · exact .inl (Same.refl nf m)

/-! ### the calls -/
/-- A disk in use: up, nothing waits. -/
structure Calm (d : Dk) : Prop where
  up : d.down = false
  row : d.row = []
  now : d.now = d.sure
/-- Behind some changes that wait: the disk is up. -/
structure Mid (d0 d : Dk) (l : List Ch) : Prop where
  up : d.down = false
  row : d.row = l
  now : d.now = doneAll d0.sure l
  sure : d.sure = d0.sure
  room : d.room = d0.room
  keep : d.keep = d0.keep
  after : d0.after = 0 → d.after = 0
/-- The power has failed. -/
structure Fell (d0 d : Dk) (l : List Ch) : Prop where
  down : d.down = true
  row : d.row = []
  now : d.now = d.sure
  sure : d.sure = failed d0.sure l d0.keep
  after : d.after = 0
  room : d.room = d0.room
theorem Calm.mid {d : Dk} (h : Calm d) : Mid d d [] := ⟨h.up, h.row, h.now, rfl, rfl, rfl, id⟩
theorem lay_mids {d0 d : Dk} {row : List Ch} (h : Mid d0 d row) (c : Ch) : ((d.lay c).2 = 0 ∧ d.after ≠ 1 ∧ Mid d0 (d.lay c).1 (row ++ [c])) ∨ ((d.lay c).2 = 8 ∧ d.after = 1 ∧ Fell d0 (d.lay c).1 (row ++ [c])) := by
  unfold Dk.lay
  have hn : (d.laid c).now = doneAll d0.sure (row ++ [c]) := by rw [doneAll_snoc, ← h.now]; rfl
  have hr : (d.laid c).row = row ++ [c] := by rw [← h.row]; rfl
  by_cases ht : d.trips = true
  · rw [if_pos ht]
    have h1 : d.after = 1 := by unfold Dk.trips at ht; simpa using ht
    refine .inr ⟨rfl, h1, ?_⟩
    have hu : (d.laid c).down = false := h.up
    unfold Dk.fail
    rw [if_neg (by rw [hu]; simp), hr]
    have hs : (d.laid c).sure = d0.sure := h.sure
    exact ⟨rfl, rfl, rfl, by show failed _ _ _ = _; rw [hs, h.keep], rfl, h.room⟩
  · rw [if_neg ht]
    have h1 : d.after ≠ 1 := by unfold Dk.trips at ht; simpa using ht
    refine .inl ⟨rfl, h1, ⟨h.up, hr, hn, h.sure, h.room, h.keep, fun e => ?_⟩⟩
    show (if d.after = 0 then 0 else d.after - 1) = 0
    rw [h.after e]
    rfl
theorem sync_mid {d0 d : Dk} {row : List Ch} (h : Mid d0 d row) : (d.sync.2 = 0 ∧ d.after ≠ 1 ∧ Calm d.sync.1 ∧ d.sync.1.sure = doneAll d0.sure row ∧ d.sync.1.room = d0.room ∧ (d0.after = 0 → d.sync.1.after = 0)) ∨ (d.sync.2 = 8 ∧ d.after = 1 ∧ Fell d0 d.sync.1 row) := by
  unfold Dk.sync
  rw [if_neg (by rw [h.up]; simp)]
  by_cases ht : d.trips = true
  · rw [if_pos ht]
    have h1 : d.after = 1 := by unfold Dk.trips at ht; simpa using ht
    refine .inr ⟨rfl, h1, ?_⟩
    unfold Dk.fail
    have hu : d.counted.down = false := h.up
    have hr : d.counted.row = row := h.row
    have hs : d.counted.sure = d0.sure := h.sure
    simp only
    rw [if_neg (by rw [hu]; simp), hr, hs, h.keep]
    exact ⟨rfl, rfl, rfl, rfl, rfl, h.room⟩
  · rw [if_neg ht]
    have h1 : d.after ≠ 1 := by unfold Dk.trips at ht; simpa using ht
    refine .inl ⟨rfl, h1, ⟨h.up, rfl, rfl⟩, h.now, h.room, fun e => ?_⟩
    show (if d.after = 0 then 0 else d.after - 1) = 0
    rw [h.after e]
    rfl

theorem Mid.not_trips {d0 d : Dk} {l : List Ch} (h : Mid d0 d l) (h0 : d0.after = 0) : d.after ≠ 1 := by rw [h.after h0]; decide
/-- A file that may be put whole is put, if there is room. -/
theorem put_lay {d : Dk} {nf p : ByteArray} (hd : d.down = false) (hn : Dk.name nf = true) (hp : p.size ≤ 4194304) : d.put nf 0 p = if d.full (Dk.more (d.now.get nf) p 0) then (d, 7) else d.lay (.put nf p 0) := by
  have hb : d.putBad nf 0 p = false := by
    unfold Dk.putBad
    rw [hn]
    simp
    omega
  unfold Dk.put
  rw [if_neg (by rw [hd]; simp), if_neg (by rw [hb]; simp)]
theorem there_has {d : Dk} {nf : ByteArray} (hd : d.down = false) (hn : Dk.name nf = true) : d.there nf = if d.now.has nf then 0 else 4 := by
  unfold Dk.there
  rw [hd, hn]
  cases d.now.has nf <;> rfl
theorem move_lay {d : Dk} {nf f : ByteArray} (hd : d.down = false) (hn : Dk.name nf = true) (hf : Dk.name f = true) (hh : d.now.has nf = true) : d.move nf f = d.lay (.move nf f) := by
  unfold Dk.move
  rw [there_has hd hn, hh, hd, hf]
  rfl
theorem drop_lay {d : Dk} {nf : ByteArray} (hd : d.down = false) (hn : Dk.name nf = true) (hh : d.now.has nf = true) : d.drop nf = d.lay (.drop nf) := by
  unfold Dk.drop
  rw [there_has hd hn, hh]
  rfl
theorem read_has {d : Dk} {nf : ByteArray} (hd : d.down = false) (hn : Dk.name nf = true) : (d.read nf).2 = if d.now.has nf then 0 else 4 := by
  unfold Dk.read
  rw [there_has hd hn]
  cases d.now.has nf <;> rfl
/-- What a saving may answer, and what is there behind it. -/
structure Kept8 (f nf p : ByteArray) (d d' : Dk) : Prop where
  down : d'.down = true
  row : d'.row = []
  now : d'.now = d'.sure
  files : Either f nf p d.sure d'.sure
  after : d'.after = 0
  room : d'.room = d.room
structure Done0 (f nf p : ByteArray) (d d' : Dk) : Prop where
  calm : Calm d'
  files : Saved f nf p d.sure d'.sure
  room : d'.room = d.room
  after : d.after = 0 → d'.after = 0
/-- From the row with the put on. -/
theorem save_end {f nf p : ByteArray} {d d2 : Dk} {pre : List Ch} (hf : Dk.name f = true) (hn : Dk.name nf = true) (hne : f ≠ nf) (hnn : nf = f ++ nNew)
    (hpre : (pre = [] ∧ d.sure.find nf = none) ∨ pre = [.drop nf]) (h : Mid d d2 (pre ++ [.put nf p 0])) :
    ((Dk.saveMove (d2, 0) f).2 = 0 ∧ Done0 f nf p d (Dk.saveMove (d2, 0) f).1) ∨ ((Dk.saveMove (d2, 0) f).2 = 8 ∧ d.after ≠ 0 ∧ Kept8 f nf p d (Dk.saveMove (d2, 0) f).1) := by
  have hsame : Same nf d.sure (doneAll d.sure pre) ∧ (doneAll d.sure pre).find nf = none := by
    rcases hpre with ⟨rfl, h1⟩ | rfl
    · exact ⟨Same.refl _ _, h1⟩
    · exact ⟨(Same.refl _ _).drop, drop_gone _ _⟩
  have hnow : d2.now = (Ch.put nf p 0).done (doneAll d.sure pre) := by rw [h.now, doneAll_snoc]
  have hg : d2.now.find nf = some (nf, p) := by rw [hnow]; exact put_gone hsame.2
  have hh : d2.now.has nf = true := by rw [Fm.has_find, hg]; rfl
  have heither : ∀ k, Either f nf p d.sure (failed d.sure (pre ++ [.put nf p 0, .move nf f]) k) := by
    intro k
    rcases hpre with ⟨rfl, h1⟩ | rfl
    · exact failed_puts hne (Same.refl _ _) h1 _ (.inr (.inr rfl))
    · exact failed_drops hne _ (.inr (.inr rfl))
  unfold Dk.saveMove
  rw [if_pos rfl]
  simp only
  rw [← hnn, move_lay h.up hn hf hh]
  rcases lay_mids h (.move nf f) with ⟨e0, e1, hm⟩ | ⟨e0, e1, hm⟩
  · unfold Dk.saveEnd
    rw [if_pos e0]
    rcases sync_mid hm with ⟨g0, g1, g2, g3, g4, g5⟩ | ⟨g0, g1, g2⟩
    · refine .inl ⟨g0, g2, ?_, g4, g5⟩
      rw [g3, doneAll_snoc, doneAll_snoc]
      exact saved_move hne (hsame.1.put _ _) (put_gone hsame.2)
    · refine .inr ⟨g0, fun e => hm.not_trips e g1, g2.down, g2.row, g2.now, ?_, g2.after, g2.room⟩
      rw [g2.sure, List.append_assoc]
      exact heither _
  · unfold Dk.saveEnd
    rw [if_neg (by rw [e0]; decide)]
    refine .inr ⟨e0, fun e => h.not_trips e e1, hm.down, hm.row, hm.now, ?_, hm.after, hm.room⟩
    rw [hm.sure, List.append_assoc]
    exact heither _
/-- A saving on a disk of any room. -/
theorem save_falls {f t : ByteArray} {d : Dk} (h : Calm d) (hroom : d.room = -1) (hf : Dk.name f = true) (hn : Dk.name (f ++ nNew) = true) (ht : (packed t).size ≤ 4194304) :
    ((d.save f t).2 = 0 ∧ Done0 f (f ++ nNew) (packed t) d (d.save f t).1) ∨ ((d.save f t).2 = 8 ∧ d.after ≠ 0 ∧ Kept8 f (f ++ nNew) (packed t) d (d.save f t).1) := by
  have hne : f ≠ f ++ nNew := by
    intro e
    have h1 := congrArg ByteArray.size e
    rw [ByteArray.size_append] at h1
    have : nNew.size = 4 := rfl
    omega
  obtain ⟨nf, hnn⟩ : ∃ nf, nf = f ++ nNew := ⟨_, rfl⟩
  have hnotfull : ∀ (d : Dk) (m : Int), d.room = -1 → d.full m = false := by
    intro d m e
    unfold Dk.full
    rw [e]
    rfl
  have heither : ∀ k, Either f nf (packed t) d.sure (failed d.sure [.drop nf] k) := fun k => failed_drops (by rw [hnn]; exact hne) _ (.inl rfl)
  have heither2 : ∀ k, Either f nf (packed t) d.sure (failed d.sure [.drop nf, .put nf (packed t) 0] k) := fun k => failed_drops (by rw [hnn]; exact hne) _ (.inr (.inl rfl))
  unfold Dk.save
  rw [← hnn] at hn hne ⊢
  rw [read_has h.up hn]
  cases hh : d.now.has nf with
  | true =>
    rw [if_pos (by simp), drop_lay h.up hn hh]
    unfold Dk.saveDrop
    rcases lay_mids h.mid (.drop nf) with ⟨e0, e1, hm⟩ | ⟨e0, e1, hm⟩
    · rw [if_neg (by rw [e0]; decide), ← hnn, put_lay hm.up hn ht, if_neg (by rw [hnotfull _ _ (hm.room.trans hroom)]; decide)]
      have hm2 : Mid d (d.lay (.drop nf)).1 [.drop nf] := hm
      rcases lay_mids hm2 (.put nf (packed t) 0) with ⟨g0, g1, g2⟩ | ⟨g0, g1, g2⟩
      · unfold Dk.savePut
        rw [if_neg (by rw [g0]; decide)]
        have := save_end hf hn hne hnn (.inr rfl) g2
        have e : ((d.lay (.drop nf)).1.lay (.put nf (packed t) 0)) = (((d.lay (.drop nf)).1.lay (.put nf (packed t) 0)).1, 0) := Prod.ext rfl g0
        rw [e]
        exact this
      · unfold Dk.savePut Dk.saveMove
        rw [if_neg (by rw [g0]; decide), if_neg (by rw [g0]; decide)]
        refine .inr ⟨g0, fun e => hm2.not_trips e g1, g2.down, g2.row, g2.now, ?_, g2.after, g2.room⟩
        rw [g2.sure]
        exact heither2 _
    · rw [if_pos (by rw [e0]; decide)]
      refine .inr ⟨e0, fun e => h.mid.not_trips e e1, hm.down, hm.row, hm.now, ?_, hm.after, hm.room⟩
      rw [hm.sure]
      exact heither _
  | false =>
    rw [if_neg (by simp), put_lay h.up hn ht, if_neg (by rw [hnotfull _ _ hroom]; decide)]
    have hnone : d.sure.find nf = none := by
      rw [Fm.has_find, h.now] at hh
      cases hx : d.sure.find nf with
      | none => rfl
      | some x => rw [hx] at hh; cases hh
    rcases lay_mids h.mid (.put nf (packed t) 0) with ⟨g0, g1, g2⟩ | ⟨g0, g1, g2⟩
    · unfold Dk.savePut
      rw [if_neg (by rw [g0]; decide)]
      have := save_end hf hn hne hnn (.inl ⟨rfl, hnone⟩) g2
      have e : (d.lay (.put nf (packed t) 0)) = ((d.lay (.put nf (packed t) 0)).1, 0) := Prod.ext rfl g0
      rw [e]
      exact this
    · unfold Dk.savePut Dk.saveMove
      rw [if_neg (by rw [g0]; decide), if_neg (by rw [g0]; decide)]
      refine .inr ⟨g0, fun e => h.mid.not_trips e g1, g2.down, g2.row, g2.now, ?_, g2.after, g2.room⟩
      rw [g2.sure]
      exact failed_puts hne (Same.refl _ _) hnone _ (.inr (.inl rfl))
/-- A saving on a disk without a file on its way, with whatever room: it is saved, or all is as it was. -/
theorem save_full {f t : ByteArray} {d : Dk} (h : Calm d) (hnone : d.sure.find (f ++ nNew) = none) (h0 : d.after = 0) (hf : Dk.name f = true) (hn : Dk.name (f ++ nNew) = true) (ht : (packed t).size ≤ 4194304) :
    ((d.save f t).2 = 0 ∧ Done0 f (f ++ nNew) (packed t) d (d.save f t).1) ∨ ((d.save f t).2 = 7 ∧ 0 ≤ d.room ∧ (d.save f t).1 = d) := by
  have hne : f ≠ f ++ nNew := by
    intro e
    have h1 := congrArg ByteArray.size e
    rw [ByteArray.size_append] at h1
    have : nNew.size = 4 := rfl
    omega
  obtain ⟨nf, hnn⟩ : ∃ nf, nf = f ++ nNew := ⟨_, rfl⟩
  unfold Dk.save
  rw [← hnn] at hn hne hnone ⊢
  have hh : d.now.has nf = false := by rw [Fm.has_find, h.now, hnone]; rfl
  rw [read_has h.up hn, hh, if_neg (by simp), put_lay h.up hn ht]
  cases hfl : d.full (Dk.more (d.now.get nf) (packed t) 0) with
  | true =>
    rw [if_pos rfl]
    refine .inr ⟨?_, ?_, ?_⟩
    · unfold Dk.savePut Dk.saveMove
      simp
    · unfold Dk.full at hfl
      simp at hfl
      exact hfl.1.1
    · unfold Dk.savePut Dk.saveMove
      simp
  | false =>
    rw [if_neg (by simp)]
    rcases lay_mids h.mid (.put nf (packed t) 0) with ⟨g0, g1, g2⟩ | ⟨g0, g1, g2⟩
    · unfold Dk.savePut
      rw [if_neg (by rw [g0]; decide)]
      have := save_end hf hn hne hnn (.inl ⟨rfl, hnone⟩) g2
      have e : (d.lay (.put nf (packed t) 0)) = ((d.lay (.put nf (packed t) 0)).1, 0) := Prod.ext rfl g0
      rw [e]
      rcases this with h1 | h1
      · exact .inl h1
      · exact absurd h0 h1.2.1
    · exact absurd g1 (by rw [h0]; decide)
end Go.Proofs.YtjobmlnekpaagaaDoor

/-! ### shelf.SaveVote, SaveSnap over a disk, and layer 7's example, walked. -/
namespace Go.Proofs.YtjobmlnekpaagaaDoor
open Go Go.RowKit Go.Maps
set_option linter.unusedVariables false

/-- A vote is saved. -/
def Dk.saveVote (d : Dk) (v : Vt) : Dk × Int := if v.may then d.save nVote v.text else (d, 1)
def Dk.saveSnap (d : Dk) (s : Sn) : Dk × Int := if s.may then d.save nSnap s.said else (d, 1)
theorem Dk.Ok.saveVote {d : Dk} {N : Nat} (ok : d.Ok N) (v : Vt) : (d.saveVote v).1.Ok (N + 3) := by
  unfold Dk.saveVote
  split
  · exact ok.save _ _
  · exact ok.mono (by omega)
theorem Dk.Ok.saveSnap {d : Dk} {N : Nat} (ok : d.Ok N) (s : Sn) : (d.saveSnap s).1.Ok (N + 3) := by
  unfold Dk.saveSnap
  split
  · exact ok.save _ _
  · exact ok.mono (by omega)
set_option maxRecDepth 100000 in
set_option maxHeartbeats 800000 in
theorem own_saveVote {F : Nat → Prop} {w w0 : World} {b N : Nat} {d : Dk} (h : OwnF F w w0 b d) (ok : d.Ok N) (hN : N + 4 ≤ 1099511627776) (v : Vt) : Calls Tryd.prog 34 #[.pointer (some ⟨b, 0, none⟩), .agg v.cells.toArray] w0 fun e w' => e = .returned (.int .i64 (d.saveVote v).2) ∧ OwnF F w w' b (d.saveVote v).1 := by
  have HA := Lib.hid (h.quiet ((Kept.refl (fun _ => False) w0).alloc (.cells v.cells.toArray 38)))
  cases hm : v.may with
  | true =>
    have hv := fun w => vote_good w v hm
    have hs := Vt.text_size hm
    have HSV := Lib.hid (fun w1 (h : OwnF F w w1 b d) => own_save h ok hN nVote v.text (by decide) (by omega))
    have HE : Hid (d.saveVote v = d.save nVote v.text) := by unfold Hid Dk.saveVote; rw [if_pos hm]
    generalize v.text = t at *
    clear hm hs h ok hN
    generalize d.saveVote v = R at *
    obtain ⟨a, c⟩ := v
    simp only [Vt.cells] at *
    have HV := Lib.hid hv
    clear hv
    go_enter Tryd.func34, Tryd.ntmps34
    go_wp2_with fail
    refine (HV.out _).mono ?_
    rintro e w1 ⟨rfl, hk⟩
    have H1 := Lib.hid (HA.out.quiet hk)
    clear hk
    go_wp2_with fail
    refine (HSV.out _ H1.out).mono ?_
    rintro e w2 ⟨rfl, h2⟩
    have H2 := Lib.hid h2
    clear h2
    go_wp2_with fail
    go_ret
    rw [HE.out]
    exact ⟨rfl, H2.out⟩
  | false =>
    have hv := fun w => vote_bad w v hm
    have HE : Hid (d.saveVote v = (d, 1)) := by unfold Hid Dk.saveVote; rw [if_neg (by rw [hm]; decide)]
    clear hm h ok hN
    generalize d.saveVote v = R at *
    obtain ⟨a, c⟩ := v
    simp only [Vt.cells] at *
    have HV := Lib.hid hv
    clear hv
    go_enter Tryd.func34, Tryd.ntmps34
    go_wp2_with fail
    refine (HV.out _).mono ?_
    rintro e w1 ⟨rfl, hk⟩
    have H1 := Lib.hid (HA.out.quiet hk)
    clear hk
    go_wp2_with fail
    go_ret
    rw [HE.out]
    exact ⟨rfl, H1.out⟩
set_option maxRecDepth 100000 in
set_option maxHeartbeats 800000 in
theorem own_saveSnap {F : Nat → Prop} {w w0 : World} {b N : Nat} {d : Dk} (h : OwnF F w w0 b d) (ok : d.Ok N) (hN : N + 4 ≤ 1099511627776) (v : Sn) : Calls Tryd.prog 35 #[.pointer (some ⟨b, 0, none⟩), .agg v.cells.toArray] w0 fun e w' => e = .returned (.int .i64 (d.saveSnap v).2) ∧ OwnF F w w' b (d.saveSnap v).1 := by
  have HA := Lib.hid (h.quiet ((Kept.refl (fun _ => False) w0).alloc (.cells v.cells.toArray 45)))
  cases hm : v.may with
  | true =>
    have hv := fun w => snap_good w v hm
    have hs := Sn.said_long hm
    have HSV := Lib.hid (fun w1 (h : OwnF F w w1 b d) => own_save h ok hN nSnap v.said (by decide) hs)
    have HE : Hid (d.saveSnap v = d.save nSnap v.said) := by unfold Hid Dk.saveSnap; rw [if_pos hm]
    generalize v.said = t at *
    clear hm hs h ok hN
    generalize d.saveSnap v = R at *
    obtain ⟨i, a, c, x⟩ := v
    simp only [Sn.cells] at *
    have HV := Lib.hid hv
    clear hv
    go_enter Tryd.func35, Tryd.ntmps35
    go_wp2_with fail
    refine (HV.out _).mono ?_
    rintro e w1 ⟨rfl, hk⟩
    have H1 := Lib.hid (HA.out.quiet hk)
    clear hk
    go_wp2_with fail
    refine (HSV.out _ H1.out).mono ?_
    rintro e w2 ⟨rfl, h2⟩
    have H2 := Lib.hid h2
    clear h2
    go_wp2_with fail
    go_ret
    rw [HE.out]
    exact ⟨rfl, H2.out⟩
  | false =>
    have hv := fun w => snap_bad w v hm
    have HE : Hid (d.saveSnap v = (d, 1)) := by unfold Hid Dk.saveSnap; rw [if_neg (by rw [hm]; decide)]
    clear hm h ok hN
    generalize d.saveSnap v = R at *
    obtain ⟨i, a, c, x⟩ := v
    simp only [Sn.cells] at *
    have HV := Lib.hid hv
    clear hv
    go_enter Tryd.func35, Tryd.ntmps35
    go_wp2_with fail
    refine (HV.out _).mono ?_
    rintro e w1 ⟨rfl, hk⟩
    have H1 := Lib.hid (HA.out.quiet hk)
    clear hk
    go_wp2_with fail
    go_ret
    rw [HE.out]
    exact ⟨rfl, H1.out⟩
/-! ### the example -/
theorem calm_new : Calm Dk.new := ⟨rfl, rfl, rfl⟩
theorem ak7_may : (⟨3, 1⟩ : Vt).may = true := by decide
theorem holds_none {f : ByteArray} : HoldsF Dk.new.now f none := rfl
theorem ak7_vote0 : Dk.new.loadVote = (⟨0, -1⟩, 0) := loadVote_ok rfl holds_none (.inl ⟨rfl, rfl⟩)
theorem ak7_snap0 : Dk.new.loadSnap = (⟨0, 0, 0, .empty⟩, false, 0) := loadSnap_ok rfl holds_none (.inl ⟨rfl, rfl, rfl⟩)
theorem Vt.pack_size {v : Vt} (h : v.may = true) : (packed v.text).size ≤ 4194304 := by
  rw [packed_size]
  have := Vt.text_size h
  omega
theorem Sn.pack_size {s : Sn} (h : s.may = true) : (packed s.said).size ≤ 4194304 := by
  rw [packed_size]
  have := Sn.said_long h
  omega
theorem ak7_save : (Dk.new.saveVote ⟨3, 1⟩).2 = 0 ∧ (Dk.new.saveVote ⟨3, 1⟩).1.loadVote = (⟨3, 1⟩, 0) := by
  have e : Dk.new.saveVote ⟨3, 1⟩ = Dk.new.save nVote (⟨3, 1⟩ : Vt).text := by unfold Dk.saveVote; rw [if_pos ak7_may]
  rw [e]
  rcases save_full (f := nVote) (t := (⟨3, 1⟩ : Vt).text) calm_new rfl rfl name_vote (by rw [vote_new]; exact name_vote_new) (Vt.pack_size ak7_may) with ⟨h1, h2⟩ | ⟨h1, h2, h3⟩
  · refine ⟨h1, loadVote_ok (o := some _) h2.calm.up ?_ (.inr ⟨rfl, ak7_may⟩)⟩
    unfold HoldsF
    rw [h2.calm.now, h2.files.file]
    rfl
  · exact absurd h2 (by decide)
/-- A block of the call's own is laid beside the disk. -/
theorem OwnF.box {F : Nat → Prop} {w w1 : World} {b : Nat} {d : Dk} (h : OwnF F w w1 b d) (o : Obj) :
    ∃ G : Nat → Prop, OwnF G (w1.alloc o) (w1.alloc o) b d ∧ (∀ w2 d', OwnF G (w1.alloc o) w2 b d' → OwnF F w w2 b d') ∧ (∀ k, G k → (F k ∨ w.heap.size ≤ k) ∧ k < w1.heap.size) := by
  have hal := (Kept.refl (fun _ => False) w1).alloc o
  obtain ⟨G, hG, hG1, hG2⟩ := h.rebase_quiet hal
  exact ⟨G, hG, fun w2 d' h2 => OwnF.back (h.kept.trans (hal.mono (fun _ _ f => f.elim))) hG1 h2, fun k hk => ⟨hG1 k hk, hG2 k hk⟩⟩
theorem vote_cells {W : World} {g : Nat} {a c : Int} {t : TypeId} (h : W.heap[g]? = some (.cells #[.int .i64 a, .int .i64 c] t (0, 0))) : W.cell? ⟨g, 0, none⟩ = some (.int .i64 a) ∧ W.cell? ⟨g, 1, none⟩ = some (.int .i64 c) := ⟨by rw [cell_of_block h]; rfl, by rw [cell_of_block h]; rfl⟩
set_option maxRecDepth 100000 in
set_option maxHeartbeats 1600000 in
theorem awake7 (w : World) : Calls Tryd.prog 22 #[] w fun e w' => e = .returned (.bool true) ∧ Kept (fun _ => False) w w' := by
  go_enter Tryd.func22, Tryd.ntmps22
  go_wp2_with fail
  refine (own_new (Kept.refl (fun _ => False) w)).mono ?_
  rintro e w1 ⟨b, rfl, h1⟩
  have H1 := Lib.hid h1
  clear h1
  go_wp2_with fail
  have hc := own_loadVote H1.out Dk.ok_new
  rw [ak7_vote0] at hc
  simp only [Vt.cells] at hc
  refine hc.mono ?_
  clear hc
  rintro e w2 ⟨rfl, h2⟩
  obtain ⟨G, hG, hGB, hGk⟩ := h2.box (.cells #[.int .i64 0, .int .i64 (-1)] 38)
  have hb := block_new w2 (.cells #[.int .i64 0, .int .i64 (-1)] 38)
  have hg : ¬ G w2.heap.size := fun e => by have := (hGk _ e).2; omega
  have HG := Lib.hid hG
  have HGB := Lib.hid hGB
  have HGG := Lib.hid hg
  have HGK := Lib.hid hGk
  have HB := Lib.hid hb
  clear h2 hG hGB hGk hb hg
  go_wp2_with fail
  have hc := own_loadSnap HG.out Dk.ok_new
  rw [ak7_snap0] at hc
  simp only [Sn.cells] at hc
  refine hc.mono ?_
  clear hc
  rintro e w3 ⟨rfl, h3⟩
  have H3 := Lib.hid (h3.quiet ((Kept.refl (fun _ => False) w3).alloc (.cells #[.int .i64 0, .int .i64 0, .int .i64 0, .string .empty] 45)))
  clear h3
  go_wp2_with fail
  have hc := own_saveVote H3.out Dk.ok_new (by decide) ⟨3, 1⟩
  rw [ak7_save.1] at hc
  simp only [Vt.cells] at hc
  refine hc.mono ?_
  clear hc
  rintro e w4 ⟨rfl, h4⟩
  have H4 := Lib.hid h4
  clear h4
  go_wp2_with fail
  have hc := own_loadVote H4.out (Dk.ok_new.saveVote _)
  rw [ak7_save.2] at hc
  simp only [Vt.cells] at hc
  refine hc.mono ?_
  clear hc
  rintro e w5 ⟨rfl, h5⟩
  have hk6 := h5.kept.alloc (.cells #[.int .i64 3, .int .i64 1] 38)
  have hb6 := block_new w5 (.cells #[.int .i64 3, .int .i64 1] 38)
  have hb7 := (hk6.block _ (Array.getElem?_eq_some_iff.1 HB.out).1 HGG.out).trans HB.out
  have H5 := Lib.hid h5
  obtain ⟨x0, x1⟩ := vote_cells hb6
  obtain ⟨y0, y1⟩ := vote_cells hb7
  clear h5 hk6 hb6 hb7
  go_wp2_with fail
  go_ret
  exact ⟨rfl, (HGB.out _ _ H5.out).kept.alloc _⟩
end Go.Proofs.YtjobmlnekpaagaaDoor

/-! ### The document's sum of bytes, walked: it is crc's. -/
namespace Go.Proofs.YtjobmlnekpaagaaDoor
open Go Go.RowKit Go.Maps
set_option linter.unusedVariables false

/-- A bit's round. -/
def refBit (r bit : Nat) : Nat := if (r % 2) ^^^ bit = 1 then r / 2 ^^^ 2197175160 else r / 2
def refN (r b : Nat) : Nat → Nat
  | 0 => r
  | k + 1 => refBit (refN r b k) (b / 2 ^ k % 2)
theorem xor_mod_two (a b : Nat) : (a ^^^ b) % 2 = (a % 2) ^^^ (b % 2) := by
  have := Nat.xor_mod_two_pow (a := a) (b := b) (n := 1)
  simpa using this
theorem xor_div_two (a b : Nat) : (a ^^^ b) / 2 = a / 2 ^^^ b / 2 := Nat.xor_div_two
theorem refN_crc (c b : Nat) : ∀ k, refN c b k ^^^ (b / 2 ^ k) = crcN k (c ^^^ b)
  | 0 => by simp [refN, crcN]
  | k + 1 => by
    have ih := refN_crc c b k
    have e2 : b / 2 ^ (k + 1) = b / 2 ^ k / 2 := by rw [Nat.pow_succ, Nat.div_div_eq_div_mul]
    unfold refN
    rw [crcN, ← ih, e2]
    generalize refN c b k = r
    generalize b / 2 ^ k = q
    unfold refBit crcBit
    rw [xor_mod_two, xor_div_two]
    split
    · rw [Nat.xor_assoc, Nat.xor_assoc, Nat.xor_comm 2197175160]
    · rfl
theorem refN_more {c b : Nat} (hb : b < 256) : refN c b 8 = crcMore c b := by
  have := refN_crc c b 8
  rw [show b / 2 ^ 8 = 0 by omega, Nat.xor_zero] at this
  exact this
theorem refBit_lt {r bit : Nat} (h : r < 4294967296) : refBit r bit < 4294967296 := by
  unfold refBit
  split
  · exact Nat.xor_lt_two_pow (n := 32) (by omega) (by decide)
  · omega
theorem refN_lt {r b : Nat} (h : r < 4294967296) : ∀ k, refN r b k < 4294967296
  | 0 => h
  | k + 1 => refBit_lt (refN_lt h k)
theorem and_one (x : Nat) (h : x < 4294967296) : bits .and .u32 (x : Int) 1 = ((x % 2 : Nat) : Int) := by
  have := u32_and_nat x 1 h (by decide)
  rw [Nat.and_one_is_mod] at this
  exact this
theorem ref_test (r x j : Nat) (hr : r < 4294967296) (hx : x < 256) : (bits .xor .u32 (bits .and .u32 (r : Int) 1) (bits .and .u32 ((x : Int) / 2 ^ j % 4294967296) 1) == 1) = decide ((r % 2) ^^^ (x / 2 ^ j % 2) = 1) := by
  have h1 : x / 2 ^ j ≤ x := Nat.div_le_self _ _
  have e1 : (x : Int) / 2 ^ j % 4294967296 = ((x / 2 ^ j : Nat) : Int) := by
    have : ((2 : Int) ^ j) = ((2 ^ j : Nat) : Int) := by simp
    rw [this, ← Int.natCast_ediv]
    generalize x / 2 ^ j = q at h1
    omega
  rw [e1, and_one _ hr, and_one _ (by omega), u32_xor_nat _ _ (by omega) (by omega)]
  generalize (r % 2) ^^^ (x / 2 ^ j % 2) = z
  by_cases h : z = 1
  · subst h; rfl
  · rw [decide_eq_false h]
    simp
    omega
set_option maxRecDepth 100000 in
set_option maxHeartbeats 1600000 in
theorem refSum_any (w : World) (s : ByteArray) (h : s.size ≤ 1099511627776) : Calls Tryd.prog 81 #[.string s] w fun e w' => e = .returned (.int .u32 (crcSum s)) ∧ w = w' := by
  go_enter Tryd.func81, Tryd.ntmps81
  go_wp2_with fail
  go_loopw [3, 4, 5, 6, 7] (fun v3 v4 v5 v6 v7 wr => ∃ k : Nat, k ≤ s.size ∧ v4 = .int .i64 k ∧ v3 = .int .u32 (crcGo ((bytesL s).take k) 4294967295) ∧ w = wr) (fun _ v4 _ _ _ _ => s.size - (intOf v4).toNat)
  case atStart => exact ⟨0, by omega, rfl, rfl, rfl⟩
  case round =>
    obtain ⟨k, hk, rfl, rfl, rfl⟩ := hrel
    have hlt : crcGo ((bytesL s).take k) 4294967295 < 4294967296 := crcGo_lt _ _ (fun x hx => bytesL_lt s x (List.mem_of_mem_take hx)) (by decide)
    by_cases h8 : k < s.size
    · have hd : decide ((k : Int) < s.size) = true := decide_eq_true (by omega)
      have HST := Lib.hid (crcGo_step s k h8 4294967295)
      have hb := s[k].toNat_lt
      have HMO := Lib.hid (refN_more (c := crcGo ((bytesL s).take k) 4294967295) hb)
      generalize crcGo ((bytesL s).take k) 4294967295 = c at *
      go_wp2_with fail
      go_loopw [3, 5, 6, 7] (fun v3 v5 v6 v7 wr => ∃ j : Nat, j ≤ 8 ∧ v5 = .int .i64 j ∧ v3 = .int .u32 (refN c s[k].toNat j) ∧ w = wr) (fun _ v5 _ _ _ => 8 - (intOf v5).toNat)
      case atStart => exact ⟨0, by omega, rfl, rfl, rfl⟩
      case round =>
        obtain ⟨j, hj, rfl, rfl, rfl⟩ := hrel
        by_cases hj8 : j = 8
        · subst hj8
          go_wp2_with fail
          go_roundw
          case rel => exact ⟨k + 1, by omega, by simp, by rw [HST.out, HMO.out], trivial⟩
          case measure => simp [intOf]; omega
        · have hj8 : j < 8 := by omega
          have hr := refN_lt (b := s[k].toNat) hlt j
          have ht := ref_test (refN c s[k].toNat j) s[k].toNat j hr (by omega)
          have HS : Hid (refN c s[k].toNat (j + 1) = refBit (refN c s[k].toNat j) (s[k].toNat / 2 ^ j % 2)) := rfl
          by_cases hc : (refN c s[k].toNat j % 2) ^^^ (s[k].toNat / 2 ^ j % 2) = 1
          · rw [decide_eq_true hc] at ht
            have HB : Hid (refBit (refN c s[k].toNat j) (s[k].toNat / 2 ^ j % 2) = refN c s[k].toNat j / 2 ^^^ 2197175160) := by unfold Hid refBit; rw [if_pos hc]
            clear hc
            generalize refN c s[k].toNat j = x at *
            have hxr : bits .xor .u32 ((x : Int) / 2) 2197175160 = ((x / 2 ^^^ 2197175160 : Nat) : Int) := u32_xor_nat (x / 2) 2197175160 (by omega) (by decide)
            go_wp2_with fail
            go_roundw
            case rel => exact ⟨j + 1, by omega, by simp, by rw [HS.out, HB.out], trivial⟩
            case measure => simp [intOf]; omega
          · rw [decide_eq_false hc] at ht
            have HB : Hid (refBit (refN c s[k].toNat j) (s[k].toNat / 2 ^ j % 2) = refN c s[k].toNat j / 2) := by unfold Hid refBit; rw [if_neg hc]
            clear hc
            generalize refN c s[k].toNat j = x at *
            go_wp2_with fail
            go_roundw
            case rel => exact ⟨j + 1, by omega, by simp, by rw [HS.out, HB.out]; simp, trivial⟩
            case measure => simp [intOf]; omega
    · have hd : decide ((k : Int) < s.size) = false := decide_eq_false (by omega)
      have he : k = s.size := by omega
      subst he
      rw [List.take_of_length_le (by rw [bytesL_length]; exact Nat.le_refl _)]
      rw [List.take_of_length_le (by rw [bytesL_length]; exact Nat.le_refl _)] at hlt
      have hx : bits .xor .u32 ((crcGo (bytesL s) 4294967295 : Nat) : Int) 4294967295 = ((crcSum s : Nat) : Int) := by
        have e := u32_xor_nat (crcGo (bytesL s) 4294967295) 4294967295 hlt (by decide)
        rw [Nat.xor_comm, xor_ones32 hlt] at e
        exact e
      go_wp2_with fail
      go_ret
      exact ⟨rfl, rfl⟩
set_option maxRecDepth 100000 in
set_option maxHeartbeats 800000 in
theorem refPack_any (w : World) (b : ByteArray) (h : b.size ≤ 1048576) : Calls Tryd.prog 33 #[.string b] w fun e w' => e = .returned (.tuple #[.string (packed b), .int .i64 0]) ∧ Kept (fun _ => False) w w' := by
  have g0 : decide ((b.size : Int) > 1048576) = false := decide_eq_false (by omega)
  have hcv := conv_list w [b.size / 65536, b.size / 256 % 256, b.size % 256]
  have hps := packHead_size b.size
  have HP : Hid (packed b = packHead b.size ++ b ++ packTail (crcSum (packHead b.size ++ b))) := rfl
  have hadd := fun w => run_string_add_sum (P := Tryd.prog) (w := w) (packHead b.size) b (by omega)
  have e1 : strN [b.size / 65536, b.size / 256 % 256, b.size % 256] = packHead b.size := rfl
  rw [e1] at hcv
  simp only [List.map_cons, List.map_nil, List.length_cons, List.length_nil, Int.natCast_ediv, Int.natCast_emod, Int.cast_ofNat_Int, Nat.reduceAdd] at hcv
  generalize packHead b.size = hd at *
  have hsum := fun w => refSum_any w (hd ++ b) (by rw [ByteArray.size_append]; omega)
  have hcl := crcSum_lt (hd ++ b)
  generalize crcSum (hd ++ b) = c at *
  have HS := Lib.hid hsum
  have hpt := packTail_size c
  have hadd2 := fun w => run_string_add_sum (P := Tryd.prog) (w := w) (hd ++ b) (packTail c) (by rw [ByteArray.size_append]; omega)
  have HK := Lib.hid ((Kept.refl (fun _ => False) w).alloc (.cells #[.int .u8 ((b.size : Int) / 65536), .int .u8 ((b.size : Int) / 256 % 256), .int .u8 ((b.size : Int) % 256)] 5))
  clear hsum
  have hcv2 := conv_list (w.alloc (.cells #[.int .u8 ((b.size : Int) / 65536), .int .u8 ((b.size : Int) / 256 % 256), .int .u8 ((b.size : Int) % 256)] 5)) [c % 256, c / 256 % 256, c / 65536 % 256, c / 16777216]
  have e2 : strN [c % 256, c / 256 % 256, c / 65536 % 256, c / 16777216] = packTail c := rfl
  rw [e2, alloc_size] at hcv2
  simp only [List.map_cons, List.map_nil, List.length_cons, List.length_nil, Int.natCast_ediv, Int.natCast_emod, Int.cast_ofNat_Int, Nat.reduceAdd] at hcv2
  go_enter Tryd.func33, Tryd.ntmps33
  go_wp2_with (go_at_call 81; refine (HS.out _).mono ?_; rintro e w1 ⟨rfl, rfl⟩)
  go_ret2
  rw [HP.out]
  exact ⟨rfl, HK.out.alloc _⟩
end Go.Proofs.YtjobmlnekpaagaaDoor
