/- Merged texts: numbers and texts as bytes; shelf's texts; sums and packs. -/
import Derived.Test.YtjobmlnekpaagaaDoorMA
import Derived.Laws.BytesArg
import Derived.Laws.BitsAllLaws
import Derived.Laws.Concat
import Derived.Test.YtjobmlnekpaagaaDoorMC
/-! ### Numbers as bytes: what is written, in plain Lean. -/
namespace Go.Proofs.YtjobmlnekpaagaaDoor
open Go Go.RowKit Go.Maps
set_option linter.unusedVariables false

/-- A number's last k bytes, the greatest first. -/
def low : Nat → Nat → List Nat
  | 0, _ => []
  | k + 1, n => (n / 256 ^ k % 256) :: low k n
theorem low_length : ∀ k n, (low k n).length = k
  | 0, _ => rfl
  | k + 1, n => by simp [low, low_length k n]
theorem low_lt : ∀ k n, ∀ x ∈ low k n, x < 256
  | 0, _, x, h => by cases h
  | k + 1, n, x, h => by
    rcases List.mem_cons.1 h with e | e
    · rw [e]; exact Nat.mod_lt _ (by decide)
    · exact low_lt k n x e
/-- How many bytes a number wants. -/
def blen (n : Nat) : Nat := if h : n = 0 then 0 else blen (n / 256) + 1
termination_by n
decreasing_by omega
theorem blen_zero : blen 0 = 0 := by unfold blen; rfl
theorem blen_pos {n : Nat} (h : n ≠ 0) : blen n = blen (n / 256) + 1 := by
  conv => lhs; unfold blen
  rw [dif_neg h]
theorem blen_lt : ∀ (k n : Nat), n < 256 ^ k → blen n ≤ k
  | 0, n, h => by
    have : n = 0 := by simpa using h
    rw [this, blen_zero]
    exact Nat.le_refl 0
  | k + 1, n, h => by
    by_cases h0 : n = 0
    · rw [h0, blen_zero]; omega
    · rw [blen_pos h0]
      have : n / 256 < 256 ^ k := by rw [Nat.div_lt_iff_lt_mul (by decide)]; rw [Nat.pow_succ] at h; omega
      have := blen_lt k _ this
      omega
/-- k rounds of dividing. -/
theorem blen_div : ∀ (k n : Nat), (∀ j, j < k → n / 256 ^ j ≠ 0) → n / 256 ^ k = 0 → blen n = k
  | 0, n, _, h => by
    have : n = 0 := by simpa using h
    rw [this, blen_zero]
  | k + 1, n, hj, h => by
    have h0 : n ≠ 0 := by simpa using hj 0 (by omega)
    rw [blen_pos h0, blen_div k (n / 256) (fun j hlt => by
      rw [Nat.div_div_eq_div_mul, Nat.mul_comm, ← Nat.pow_succ]
      exact hj (j + 1) (by omega)) (by rw [Nat.div_div_eq_div_mul, Nat.mul_comm, ← Nat.pow_succ]; exact h)]
/-- A number's bytes, as numbers. -/
def numL (n : Nat) : List Nat := if n ≤ 247 then [n] else (247 + blen n) :: low (blen n) n
/-- Bytes out of numbers. -/
def strN (l : List Nat) : ByteArray := strOfNums (l.map Int.ofNat)
def numB (n : Nat) : ByteArray := strN (numL n)
theorem strN_size (l : List Nat) : (strN l).size = l.length := by unfold strN; rw [strOfNums_size]; simp
theorem numB_size {n : Nat} (h : n < 18446744073709551616) : (numB n).size ≤ 9 := by
  unfold numB
  rw [strN_size]
  unfold numL
  split
  · simp
  · have := blen_lt 8 n h
    simp [low_length]
    omega
end Go.Proofs.YtjobmlnekpaagaaDoor

/-! ### bits.Num, walked. -/
namespace Go.Proofs.YtjobmlnekpaagaaDoor
open Go Go.RowKit Go.Maps
set_option linter.unusedVariables false

theorem uT_bytes : Tryd.prog.underlying 124 = some (.slice 5) := by kernel_rfl
theorem uT_byte : Tryd.prog.underlying 5 = some (.int .u8) := by kernel_rfl
set_option maxRecDepth 100000 in
set_option maxHeartbeats 4000000 in
theorem num_small (w : World) (n : Nat) (h : n ≤ 247) : Calls Tryd.prog 74 #[.int .u64 n] w fun e w' => e = .returned (.string (numB n)) ∧ Kept (fun _ => False) w w' := by
  have g0 : decide ((n : Int) ≤ 247) = true := decide_eq_true (by omega)
  have hcv := run_convert_bytes_arg (P := Tryd.prog) (w.alloc (.cells #[.int .u8 n] 5)) 124 5 uT_bytes uT_byte w.heap.size 0 1 1 [(n : Int)] rfl (fun i hi => by
    have : i = 0 := by omega
    subst this
    rw [cell_of_block (block_new w _)]
    rfl) 9 uT_str
  have HE : Hid (numB n = strOfNums [(n : Int)]) := by unfold Hid numB strN numL; rw [if_pos h]; rfl
  go_enter Tryd.func74, Tryd.ntmps74
  go_wp2_with fail
  go_ret
  rw [HE.out]
  exact ⟨rfl, (Kept.refl _ _).alloc _⟩
def cellsN (k n : Nat) : List Value := List.replicate (9 - k) (Value.int .u8 0) ++ (low k n).map fun x => Value.int .u8 ((x : Nat) : Int)
theorem cellsN_at {k n : Nat} (h : k ≤ 8) : (cellsN k n).toArray[8 - k]? = some (.int .u8 0) := by
  unfold cellsN
  simp only [List.getElem?_toArray]
  rw [List.getElem?_append_left (by simp; omega), List.getElem?_replicate, if_pos (by omega)]
theorem cellsN_split {k n : Nat} (h : k ≤ 8) : cellsN k n = List.replicate (8 - k) (Value.int .u8 0) ++ Value.int .u8 0 :: (low k n).map fun x => Value.int .u8 ((x : Nat) : Int) := by
  unfold cellsN
  rw [show 9 - k = (8 - k) + 1 by omega, List.replicate_succ']
  simp
theorem cellsN_put {k n : Nat} (h : k ≤ 8) (v : Value) : (cellsN k n).toArray.setIfInBounds (8 - k) v = (List.replicate (8 - k) (Value.int .u8 0) ++ v :: (low k n).map fun x => Value.int .u8 ((x : Nat) : Int)).toArray := by
  rw [cellsN_split h, List.setIfInBounds_toArray]
  congr 1
  rw [List.set_append_right _ _ (by simp)]
  simp
theorem cellsN_set {k n : Nat} (h : k < 8) : (cellsN k n).toArray.setIfInBounds (8 - k) (.int .u8 ((n / 256 ^ k % 256 : Nat) : Int)) = (cellsN (k + 1) n).toArray := by
  rw [cellsN_put (by omega)]
  unfold cellsN
  rw [show 9 - (k + 1) = 8 - k by omega]
  rfl
/-- What is behind the last round laid, is the number's text. -/
theorem num_text {W : World} {g k n : Nat} (h : ¬ n ≤ 247) (hk : k ≤ 8) (hl : blen n = k) (hb : W.heap[g]? = some (.cells (List.replicate (8 - k) (Value.int .u8 0) ++ Value.int .u8 (247 + k : Nat) :: (low k n).map fun x => Value.int .u8 ((x : Nat) : Int)).toArray 157 (0, 0))) :
    (convert 124 9 (.slice (some ⟨g, 8 - k, none⟩) (k + 1) (k + 1))).run Tryd.prog W = .ok (.string (numB n)) W := by
  have hn : numB n = strOfNums (((247 + k) :: low k n).map Int.ofNat) := by unfold numB strN numL; rw [if_neg h, hl]
  rw [hn]
  refine run_convert_bytes_arg (P := Tryd.prog) W 124 5 uT_bytes uT_byte g (8 - k) (k + 1) (k + 1) _ (by simp [low_length]) (fun i hi => ?_) 9 uT_str
  rw [cell_of_block hb]
  simp only [List.getElem?_toArray]
  rw [List.getElem?_append_right (by simp), List.length_replicate, show 8 - k + i - (8 - k) = i by omega]
  have e : (Value.int .u8 (247 + k : Nat) :: (low k n).map fun x => Value.int .u8 ((x : Nat) : Int)) = ((247 + k) :: low k n).map fun x => Value.int .u8 ((x : Nat) : Int) := rfl
  rw [e, List.getElem?_map, List.getD, List.getElem?_map]
  have hil : i < ((247 + k) :: low k n).length := by simp [low_length]; omega
  rw [List.getElem?_eq_getElem hil]
  rfl
set_option maxRecDepth 100000 in
set_option maxHeartbeats 4000000 in
theorem num_large (w : World) (n : Nat) (h : ¬ n ≤ 247) (h2 : n < 18446744073709551616) : Calls Tryd.prog 74 #[.int .u64 n] w fun e w' => e = .returned (.string (numB n)) ∧ Kept (fun _ => False) w w' := by
  have g0 : decide ((n : Int) ≤ 247) = false := decide_eq_false (by omega)
  have hk0 := (Kept.refl (fun _ => False) w).alloc (.cells (cellsN 0 n).toArray 157)
  have hb0 := block_new w (.cells (cellsN 0 n).toArray 157)
  go_enter Tryd.func74, Tryd.ntmps74
  go_wp2_with fail
  go_loopw [4, 5] (fun v4 v5 wr => ∃ k : Nat, k ≤ 8 ∧ v4 = .int .i64 k ∧ v5 = .int .u64 (n / 256 ^ k : Nat) ∧ (∀ j, j < k → n / 256 ^ j ≠ 0) ∧ wr.heap[w.heap.size]? = some (.cells (cellsN k n).toArray 157 (0, 0)) ∧ Kept (fun _ => False) w wr) (fun v4 _ _ => 8 - (intOf v4).toNat)
  case atStart => exact ⟨0, by omega, rfl, by simp, fun j hj => by omega, hb0, hk0⟩
  case round =>
    obtain ⟨k, hk, rfl, rfl, hnz, hbl, hkp⟩ := hrel
    by_cases hz : n / 256 ^ k = 0
    · have hlen := blen_div k n hnz hz
      have HLEN := Lib.hid hlen
      have hkpos : 1 ≤ k := by
        rcases Nat.eq_zero_or_pos k with e | e
        · rw [e] at hz; simp at hz; omega
        · exact e
      have c8 : wr.cell? ⟨w.heap.size, 8 - k, none⟩ = some (.int .u8 0) := by rw [cell_of_block hbl]; exact cellsN_at hk
      have f8 : wr.frozen? ⟨w.heap.size, 8 - k, none⟩ = false := frozen_of_block hbl _
      have HBL := Lib.hid hbl
      have HKP := Lib.hid hkp
      rw [hz]
      clear hbl hnz hz hkp hlen
      have HT : Hid (∀ W : World, W.heap[w.heap.size]? = some (.cells (List.replicate (8 - k) (Value.int .u8 0) ++ Value.int .u8 (247 + k : Nat) :: (low k n).map fun x => Value.int .u8 ((x : Nat) : Int)).toArray 157 (0, 0)) → (convert 124 9 (.slice (some ⟨w.heap.size, 8 - k, none⟩) (k + 1) (k + 1))).run Tryd.prog W = .ok (.string (numB n)) W) := fun W hW => num_text h hk HLEN.out hW
      have HS : Hid ((wr.setCell ⟨w.heap.size, 8 - k, none⟩ (.int .u8 (247 + k : Nat))).heap[w.heap.size]? = some (.cells (List.replicate (8 - k) (Value.int .u8 0) ++ Value.int .u8 (247 + k : Nat) :: (low k n).map fun x => Value.int .u8 ((x : Nat) : Int)).toArray 157 (0, 0))) := by
        unfold Hid
        rw [setCell_block HBL.out, cellsN_put hk]
      have hcv := HT.out _ HS.out
      clear HT HS HLEN HBL
      rcases (by omega : k = 1 ∨ k = 2 ∨ k = 3 ∨ k = 4 ∨ k = 5 ∨ k = 6 ∨ k = 7 ∨ k = 8) with rfl | rfl | rfl | rfl | rfl | rfl | rfl | rfl
      all_goals
        simp only [Nat.reduceSub, Nat.reduceAdd, Int.cast_ofNat_Int] at hcv c8 f8
        go_wp2_with fail
        go_ret
        exact ⟨rfl, HKP.out.setCell (p := ⟨w.heap.size, _, none⟩) (fun h => by simp at h) _⟩
    · obtain ⟨m, hm⟩ : ∃ m, m = n / 256 ^ k := ⟨_, rfl⟩
      have hmp : 0 < m := by rw [hm]; exact Nat.pos_of_ne_zero hz
      have hml : m < 18446744073709551616 := by rw [hm]; exact Nat.lt_of_le_of_lt (Nat.div_le_self _ _) h2
      have HM := Lib.hid hm
      have g1 : decide ((m : Int) > 0) = true := decide_eq_true (by omega)
      have hk7 : k ≠ 8 := fun e => hz (by rw [e]; exact Nat.div_eq_of_lt (by omega))
      have c8 : wr.cell? ⟨w.heap.size, 8 - k, none⟩ = some (.int .u8 0) := by rw [cell_of_block hbl]; exact cellsN_at hk
      have f8 : wr.frozen? ⟨w.heap.size, 8 - k, none⟩ = false := frozen_of_block hbl _
      have HBL := Lib.hid hbl
      have HNZ := Lib.hid hnz
      have HZ := Lib.hid hz
      have HKP := Lib.hid hkp
      rw [← hm]
      clear hbl hnz hz hkp hm
      have hlt8 : k < 8 := by omega
      go_wp2_with fail
      go_roundw
      case rel =>
        refine ⟨k + 1, by omega, by simp, ?_, ?_, ?_, ?_⟩
        · rw [Nat.pow_succ, ← Nat.div_div_eq_div_mul, ← HM.out]
          simp
        · intro j hj
          rcases Nat.lt_succ_iff_lt_or_eq.1 hj with e | e
          · exact HNZ.out j e
          · rw [e]; exact HZ.out
        · rw [setCell_block HBL.out, ← cellsN_set hlt8, ← HM.out]
          simp
        · exact HKP.out.setCell (p := ⟨w.heap.size, 8 - k, none⟩) (fun h => by simp at h) _
      case measure => simp [intOf]; omega
theorem num_any (w : World) (n : Nat) (h : n < 18446744073709551616) : Calls Tryd.prog 74 #[.int .u64 n] w fun e w' => e = .returned (.string (numB n)) ∧ Kept (fun _ => False) w w' := by
  by_cases h0 : n ≤ 247
  · exact num_small w n h0
  · exact num_large w n h0 h
end Go.Proofs.YtjobmlnekpaagaaDoor

/-! ### bits.folded, Int, Text, walked. -/
namespace Go.Proofs.YtjobmlnekpaagaaDoor
open Go Go.RowKit Go.Maps
set_option linter.unusedVariables false

theorem ret_u64 {a b : Int} (h : a = b) : Ending.returned (.int .u64 a) = .returned (.int .u64 b) := by rw [h]
def fold (n : Int) : Nat := if 0 ≤ n then (2 * n).toNat else (-2 * n - 1).toNat
theorem fold_lt {n : Int} (h0 : -9223372036854775808 ≤ n) (h1 : n ≤ 9223372036854775807) : fold n < 18446744073709551616 := by unfold fold; split <;> omega
theorem xor_ones {x : Nat} (h : x < 18446744073709551616) : x ^^^ 18446744073709551615 = 18446744073709551615 - x := by
  have h1 : (BitVec.ofNat 64 x ^^^ BitVec.allOnes 64).toNat = 2 ^ 64 - 1 - (BitVec.ofNat 64 x).toNat := by
    rw [BitVec.xor_allOnes, BitVec.toNat_not]
  rw [BitVec.toNat_xor, BitVec.toNat_ofNat, BitVec.toNat_allOnes, Nat.mod_eq_of_lt (by simpa using h)] at h1
  simpa using h1
theorem fold_up {n : Int} (h0 : 0 ≤ n) (h1 : n ≤ 9223372036854775807) : bits .xor .u64 (n * 2) (n / 9223372036854775808) = fold n := by
  rw [show n / 9223372036854775808 = 0 by omega, u64_xor _ _ (by omega) (by omega) (by omega) (by omega)]
  unfold fold
  rw [if_pos h0]
  simp
  omega
theorem u64_wrap (n : Int) : IntKind.u64.wrap n = n % 18446744073709551616 := rfl
theorem fold_down {n : Int} (h0 : n < 0) (h1 : -9223372036854775808 ≤ n) : bits .xor .u64 (IntKind.u64.wrap (IntKind.u64.wrap n * 2)) (IntKind.u64.wrap (n / 9223372036854775808)) = fold n := by
  rw [show n / 9223372036854775808 = -1 by omega, u64_wrap, u64_wrap, u64_wrap, show (-1 : Int) % 18446744073709551616 = 18446744073709551615 by decide,
    u64_xor _ _ (by omega) (by omega) (by omega) (by omega)]
  rw [show (18446744073709551615 : Int).toNat = 18446744073709551615 from rfl, xor_ones (by omega)]
  unfold fold
  rw [if_neg (by omega)]
  omega
set_option maxRecDepth 100000 in
set_option maxHeartbeats 800000 in
theorem folded_up (w : World) (n : Int) (h0 : 0 ≤ n) (h1 : n ≤ 9223372036854775807) : Calls Tryd.prog 98 #[.int .i64 n] w fun e w' => e = .returned (.int .u64 (fold n)) ∧ w = w' := by
  go_enter Tryd.func98, Tryd.ntmps98
  go_wp2
  go_ret
  exact ⟨ret_u64 (fold_up h0 h1), rfl⟩
set_option maxRecDepth 100000 in
set_option maxHeartbeats 800000 in
theorem folded_down (w : World) (n : Int) (h0 : n < 0) (h1 : -9223372036854775808 ≤ n) : Calls Tryd.prog 98 #[.int .i64 n] w fun e w' => e = .returned (.int .u64 (fold n)) ∧ w = w' := by
  go_enter Tryd.func98, Tryd.ntmps98
  go_wp2
  go_ret
  exact ⟨ret_u64 (fold_down h0 h1), rfl⟩
set_option maxRecDepth 100000 in
set_option maxHeartbeats 800000 in
theorem text_any (w : World) (s : ByteArray) (h : s.size ≤ 1099511627776) : Calls Tryd.prog 78 #[.string s] w fun e w' => e = .returned (.string (numB s.size ++ s)) ∧ Kept (fun _ => False) w w' := by
  have hadd := fun w => run_string_add_sum (P := Tryd.prog) (w := w) (numB s.size) s (by have := numB_size (n := s.size) (by omega); omega)
  have hc := num_any w s.size (by omega)
  go_enter Tryd.func78, Tryd.ntmps78
  go_wp2_with (go_at_call 74; refine hc.mono ?_; rintro e w1 ⟨rfl, hk⟩; have hadd1 := hadd w1; clear hadd)
  go_ret
  exact ⟨rfl, hk⟩
theorem folded_any (w : World) (n : Int) (h0 : -9223372036854775808 ≤ n) (h1 : n ≤ 9223372036854775807) : Calls Tryd.prog 98 #[.int .i64 n] w fun e w' => e = .returned (.int .u64 (fold n)) ∧ w = w' := by
  by_cases h : 0 ≤ n
  · exact folded_up w n h h1
  · exact folded_down w n (by omega) h0
set_option maxRecDepth 100000 in
set_option maxHeartbeats 800000 in
theorem int_any (w : World) (n : Int) (h0 : -9223372036854775808 ≤ n) (h1 : n ≤ 9223372036854775807) : Calls Tryd.prog 75 #[.int .i64 n] w fun e w' => e = .returned (.string (numB (fold n))) ∧ Kept (fun _ => False) w w' := by
  have hf := folded_any w n h0 h1
  have hc := num_any w (fold n) (fold_lt h0 h1)
  go_enter Tryd.func75, Tryd.ntmps75
  go_wp2_with (first | (go_at_call 98; refine hf.mono ?_; rintro e w1 ⟨rfl, rfl⟩) | (go_at_call 74; refine hc.mono ?_; rintro e w1 ⟨rfl, hk⟩))
  go_ret
  exact ⟨rfl, hk⟩
end Go.Proofs.YtjobmlnekpaagaaDoor

/-! ### shelf: what may be, and its text, walked. -/
namespace Go.Proofs.YtjobmlnekpaagaaDoor
open Go Go.RowKit Go.Maps
set_option linter.unusedVariables false

/-- A vote. -/
structure Vt where
  term : Int
  to : Int
/-- A snapshot. -/
structure Sn where
  index : Int
  term : Int
  mask : Int
  text : ByteArray
def Vt.cells (v : Vt) : List Value := [.int .i64 v.term, .int .i64 v.to]
def Sn.cells (s : Sn) : List Value := [.int .i64 s.index, .int .i64 s.term, .int .i64 s.mask, .string s.text]
def within (n most : Int) : Bool := decide (0 ≤ n) && decide (n ≤ most)
def Vt.may (v : Vt) : Bool := within v.term 549755813888 && (decide (-1 ≤ v.to) && decide (v.to < 7))
def Sn.may (s : Sn) : Bool := within s.index 549755813888 && (within s.term 549755813888 && (within s.mask 127 && decide (s.text.size ≤ 262144)))
theorem within_iff {n m : Int} : within n m = true ↔ 0 ≤ n ∧ n ≤ m := by unfold within; simp
theorem Vt.may_iff {v : Vt} : v.may = true ↔ (0 ≤ v.term ∧ v.term ≤ 549755813888) ∧ -1 ≤ v.to ∧ v.to < 7 := by unfold Vt.may; simp [within_iff]
theorem Sn.may_iff {s : Sn} : s.may = true ↔ (0 ≤ s.index ∧ s.index ≤ 549755813888) ∧ (0 ≤ s.term ∧ s.term ≤ 549755813888) ∧ (0 ≤ s.mask ∧ s.mask ≤ 127) ∧ s.text.size ≤ 262144 := by unfold Sn.may; simp [within_iff]
def Vt.text (v : Vt) : ByteArray := numB v.term.toNat ++ numB (fold v.to)
def Sn.said (s : Sn) : ByteArray := numB s.index.toNat ++ numB s.term.toNat ++ numB s.mask.toNat ++ (numB s.text.size ++ s.text)

set_option maxRecDepth 100000 in
set_option maxHeartbeats 800000 in
theorem within_any (w : World) (n m : Int) : Calls Tryd.prog 93 #[.int .i64 n, .int .i64 m] w fun e w' => e = .returned (.bool (within n m)) ∧ w = w' := by
  cases h0 : decide (0 ≤ n) with
  | true =>
    have g0 : decide (n ≥ 0) = true := h0
    have he : within n m = decide (n ≤ m) := by unfold within; rw [h0]; rfl
    rw [he]
    clear he
    go_enter Tryd.func93, Tryd.ntmps93
    go_wp2
    go_ret
    exact ⟨rfl, rfl⟩
  | false =>
    have g0 : decide (n ≥ 0) = false := h0
    have he : within n m = false := by unfold within; rw [h0]; rfl
    rw [he]
    clear he
    go_enter Tryd.func93, Tryd.ntmps93
    go_wp2
    go_ret
    exact ⟨rfl, rfl⟩
set_option maxRecDepth 100000 in
set_option maxHeartbeats 800000 in
theorem voted_any (w : World) (v : Vt) : Calls Tryd.prog 64 #[.agg v.cells.toArray] w fun e w' => e = .returned (.bool v.may) ∧ Kept (fun _ => False) w w' := by
  obtain ⟨t, f⟩ := v
  simp only [Vt.cells]
  have hc := fun w => within_any w t 549755813888
  have HK := Lib.hid ((Kept.refl (fun _ => False) w).alloc (.cells #[.int .i64 t, .int .i64 f] 38))
  have he : Vt.may ⟨t, f⟩ = (within t 549755813888 && (decide (-1 ≤ f) && decide (f < 7))) := rfl
  rw [he]
  clear he
  cases h0 : within t 549755813888 with
  | false =>
    rw [h0] at hc
    clear h0
    go_enter Tryd.func64, Tryd.ntmps64
    go_wp2_with (first | (go_at_call 93; refine (hc _).mono ?_; rintro e w1 ⟨rfl, rfl⟩))
    go_ret
    exact ⟨rfl, HK.out⟩
  | true =>
    rw [h0] at hc
    clear h0
    cases h1 : decide (-1 ≤ f) with
    | false =>
      have g1 : decide (f ≥ -1) = false := h1
      go_enter Tryd.func64, Tryd.ntmps64
      go_wp2_with (first | (go_at_call 93; refine (hc _).mono ?_; rintro e w1 ⟨rfl, rfl⟩))
      go_ret
      exact ⟨rfl, HK.out⟩
    | true =>
      have g1 : decide (f ≥ -1) = true := h1
      go_enter Tryd.func64, Tryd.ntmps64
      go_wp2_with (first | (go_at_call 93; refine (hc _).mono ?_; rintro e w1 ⟨rfl, rfl⟩))
      go_ret
      exact ⟨rfl, HK.out⟩
set_option maxRecDepth 100000 in
set_option maxHeartbeats 800000 in
theorem may_any (w : World) (s : Sn) : Calls Tryd.prog 72 #[.agg s.cells.toArray] w fun e w' => e = .returned (.bool s.may) ∧ Kept (fun _ => False) w w' := by
  obtain ⟨i, t, m, x⟩ := s
  simp only [Sn.cells]
  have hc := fun w n m => within_any w n m
  have HK := Lib.hid ((Kept.refl (fun _ => False) w).alloc (.cells #[.int .i64 i, .int .i64 t, .int .i64 m, .string x] 45))
  have he : Sn.may ⟨i, t, m, x⟩ = (within i 549755813888 && (within t 549755813888 && (within m 127 && decide (x.size ≤ 262144)))) := rfl
  rw [he]
  clear he
  cases h0 : within i 549755813888 with
  | false =>
    have c0 := fun w => hc w i 549755813888
    rw [h0] at c0
    clear h0 hc
    go_enter Tryd.func72, Tryd.ntmps72
    go_wp2_with (first | (go_at_call 93; refine (c0 _).mono ?_; rintro e w1 ⟨rfl, rfl⟩))
    go_ret
    exact ⟨rfl, HK.out⟩
  | true =>
    have c0 := fun w => hc w i 549755813888
    rw [h0] at c0
    clear h0
    cases h1 : within t 549755813888 with
    | false =>
      have c1 := fun w => hc w t 549755813888
      rw [h1] at c1
      clear h1 hc
      go_enter Tryd.func72, Tryd.ntmps72
      go_wp2_with fail
      refine (c0 _).mono ?_
      rintro e w1 ⟨rfl, rfl⟩
      go_wp2_with fail
      refine (c1 _).mono ?_
      rintro e w1 ⟨rfl, rfl⟩
      go_wp2_with fail
      go_ret
      exact ⟨rfl, HK.out⟩
    | true =>
      have c1 := fun w => hc w t 549755813888
      rw [h1] at c1
      clear h1
      cases h2 : within m 127 with
      | false =>
        have c2 := fun w => hc w m 127
        rw [h2] at c2
        clear h2 hc
        go_enter Tryd.func72, Tryd.ntmps72
        go_wp2_with fail
        refine (c0 _).mono ?_
        rintro e w1 ⟨rfl, rfl⟩
        go_wp2_with fail
        refine (c1 _).mono ?_
        rintro e w1 ⟨rfl, rfl⟩
        go_wp2_with fail
        refine (c2 _).mono ?_
        rintro e w1 ⟨rfl, rfl⟩
        go_wp2_with fail
        go_ret
        exact ⟨rfl, HK.out⟩
      | true =>
        have c2 := fun w => hc w m 127
        rw [h2] at c2
        clear h2 hc
        go_enter Tryd.func72, Tryd.ntmps72
        go_wp2_with fail
        refine (c0 _).mono ?_
        rintro e w1 ⟨rfl, rfl⟩
        go_wp2_with fail
        refine (c1 _).mono ?_
        rintro e w1 ⟨rfl, rfl⟩
        go_wp2_with fail
        refine (c2 _).mono ?_
        rintro e w1 ⟨rfl, rfl⟩
        go_wp2_with fail
        go_ret
        exact ⟨ret_bool (by simp only [Bool.true_and]; exact decide_eq_decide.2 (by omega)), HK.out⟩
end Go.Proofs.YtjobmlnekpaagaaDoor

/-! ### shelf.Vote, shelf.Snap, walked. -/
namespace Go.Proofs.YtjobmlnekpaagaaDoor
open Go Go.RowKit Go.Maps
set_option linter.unusedVariables false

theorem u64_in (n : Nat) (h : n < 18446744073709551616) : IntKind.u64.wrap (n : Int) = n := by rw [u64_wrap]; omega
set_option maxRecDepth 100000 in
set_option maxHeartbeats 8000000 in
theorem vote_bad (w : World) (v : Vt) (h : v.may = false) : Calls Tryd.prog 27 #[.agg v.cells.toArray] w fun e w' => e = .returned (.tuple #[.string .empty, .int .i64 1]) ∧ Kept (fun _ => False) w w' := by
  have HK := Lib.hid ((Kept.refl (fun _ => False) w).alloc (.cells v.cells.toArray 38))
  have hc := fun w => voted_any w v
  rw [h] at hc
  obtain ⟨t, f⟩ := v
  simp only [Vt.cells] at *
  go_enter Tryd.func27, Tryd.ntmps27
  go_wp2_with (first | (go_at_call 64; refine (hc _).mono ?_; rintro e w1 ⟨rfl, hk⟩))
  go_ret2
  exact ⟨rfl, HK.out.trans hk⟩
set_option maxRecDepth 100000 in
set_option maxHeartbeats 8000000 in
theorem vote_good (w : World) (v : Vt) (h : v.may = true) : Calls Tryd.prog 27 #[.agg v.cells.toArray] w fun e w' => e = .returned (.tuple #[.string v.text, .int .i64 0]) ∧ Kept (fun _ => False) w w' := by
  have HK := Lib.hid ((Kept.refl (fun _ => False) w).alloc (.cells v.cells.toArray 38))
  have hc := fun w => voted_any w v
  rw [h] at hc
  obtain ⟨⟨ht0, ht1⟩, hf0, hf1⟩ := Vt.may_iff.1 h
  obtain ⟨t, f⟩ := v
  simp only [Vt.cells] at *
  have hb := block_new w (.cells #[.int .i64 t, .int .i64 f] 38)
  have hlt : w.heap.size < (w.alloc (.cells #[.int .i64 t, .int .i64 f] 38)).heap.size := (Array.getElem?_eq_some_iff.1 hb).1
  have HB := Lib.hid hb
  clear hb
  obtain ⟨n, rfl⟩ : ∃ n : Nat, t = n := ⟨t.toNat, by omega⟩
  have hn := fun w => num_any w n (by omega)
  have hi := fun w => int_any w f (by omega) (by omega)
  have hadd := fun w => run_string_add_sum (P := Tryd.prog) (w := w) (numB n) (numB (fold f)) (by have := numB_size (n := n) (by omega); have := numB_size (n := fold f) (fold_lt (by omega) (by omega)); omega)
  have HE : Hid (Vt.text ⟨n, f⟩ = numB n ++ numB (fold f)) := by unfold Hid Vt.text; simp
  clear h
  go_enter Tryd.func27, Tryd.ntmps27
  go_wp2_with fail
  refine (hc _).mono ?_
  rintro e w1 ⟨rfl, hk⟩
  have c0 : w1.cell? ⟨w.heap.size, 0, none⟩ = some (.int .i64 n) := by rw [hk.cell hlt (fun f => f), cell_of_block HB.out]; rfl
  have c1 : w1.cell? ⟨w.heap.size, 1, none⟩ = some (.int .i64 f) := by rw [hk.cell hlt (fun f => f), cell_of_block HB.out]; rfl
  have hlt1 := Nat.lt_of_lt_of_le hlt hk.size
  have HS : Hid (∀ w', Kept (fun _ => False) w1 w' → w'.cell? ⟨w.heap.size, 0, none⟩ = some (.int .i64 n) ∧ w'.cell? ⟨w.heap.size, 1, none⟩ = some (.int .i64 f) ∧ Kept (fun _ => False) w1 w') := fun w' h => ⟨by rw [h.cell hlt1 (fun f => f)]; exact c0, by rw [h.cell hlt1 (fun f => f)]; exact c1, h⟩
  have HN := Lib.hid hn
  have HI := Lib.hid hi
  clear hn hi
  have hw : IntKind.u64.wrap (n : Int) = n := u64_in n (by omega)
  go_wp2_with fail
  go_region_held3 (fun w' => w'.cell? ⟨w.heap.size, 0, none⟩ = some (.int .i64 n) ∧ w'.cell? ⟨w.heap.size, 1, none⟩ = some (.int .i64 f) ∧ Kept (fun _ => False) w1 w')
    (first | exact HS.out _ (Kept.refl _ _).drew | exact HS.out _ ((And.right (And.right (by assumption : _ ∧ _ ∧ Kept (fun _ => False) w1 _))).trans hk2))
    (first | (go_at_call 74; refine (HN.out _).mono ?_; rintro e w2 ⟨rfl, hk2⟩) | (go_at_call 75; refine (HI.out _).mono ?_; rintro e w2 ⟨rfl, hk2⟩))
  have hh : w2.cell? ⟨w.heap.size, 0, none⟩ = some (.int .i64 n) ∧ w2.cell? ⟨w.heap.size, 1, none⟩ = some (.int .i64 f) ∧ Kept (fun _ => False) w1 w2 := by assumption
  have HH := Lib.hid hh.2.2
  go_wp2_with fail
  go_ret2
  rw [HE.out]
  exact ⟨rfl, HK.out.trans (hk.trans HH.out)⟩
set_option maxRecDepth 100000 in
set_option maxHeartbeats 800000 in
theorem snap_bad (w : World) (v : Sn) (h : v.may = false) : Calls Tryd.prog 29 #[.agg v.cells.toArray] w fun e w' => e = .returned (.tuple #[.string .empty, .int .i64 1]) ∧ Kept (fun _ => False) w w' := by
  have HK := Lib.hid ((Kept.refl (fun _ => False) w).alloc (.cells v.cells.toArray 45))
  have hc := fun w => may_any w v
  rw [h] at hc
  obtain ⟨i, t, m, x⟩ := v
  simp only [Sn.cells] at *
  go_enter Tryd.func29, Tryd.ntmps29
  go_wp2_with (first | (go_at_call 72; refine (hc _).mono ?_; rintro e w1 ⟨rfl, hk⟩))
  go_ret2
  exact ⟨rfl, HK.out.trans hk⟩
set_option maxRecDepth 100000 in
set_option maxHeartbeats 8000000 in
theorem snap_good (w : World) (v : Sn) (h : v.may = true) : Calls Tryd.prog 29 #[.agg v.cells.toArray] w fun e w' => e = .returned (.tuple #[.string v.said, .int .i64 0]) ∧ Kept (fun _ => False) w w' := by
  have HK := Lib.hid ((Kept.refl (fun _ => False) w).alloc (.cells v.cells.toArray 45))
  have hc := fun w => may_any w v
  rw [h] at hc
  obtain ⟨⟨hi0, hi1⟩, ⟨ht0, ht1⟩, ⟨hm0, hm1⟩, hx⟩ := Sn.may_iff.1 h
  obtain ⟨i, t, m, x⟩ := v
  simp only [Sn.cells] at *
  have hb := block_new w (.cells #[.int .i64 i, .int .i64 t, .int .i64 m, .string x] 45)
  have hlt : w.heap.size < (w.alloc (.cells #[.int .i64 i, .int .i64 t, .int .i64 m, .string x] 45)).heap.size := (Array.getElem?_eq_some_iff.1 hb).1
  have HB := Lib.hid hb
  clear hb
  obtain ⟨i, rfl⟩ : ∃ n : Nat, i = n := ⟨i.toNat, by omega⟩
  obtain ⟨t, rfl⟩ : ∃ n : Nat, t = n := ⟨t.toNat, by omega⟩
  obtain ⟨m, rfl⟩ : ∃ n : Nat, m = n := ⟨m.toNat, by omega⟩
  have si := numB_size (n := i) (by omega)
  have st := numB_size (n := t) (by omega)
  have sm := numB_size (n := m) (by omega)
  have sx := numB_size (n := x.size) (by omega)
  have HT := Lib.hid (fun w => text_any w x (by omega))
  have hadd1 := fun w => run_string_add_sum (P := Tryd.prog) (w := w) (numB i) (numB t) (by omega)
  have hadd2 := fun w => run_string_add_sum (P := Tryd.prog) (w := w) (numB i ++ numB t) (numB m) (by rw [ByteArray.size_append]; omega)
  have hadd3 := fun w => run_string_add_sum (P := Tryd.prog) (w := w) (numB i ++ numB t ++ numB m) (numB x.size ++ x) (by rw [ByteArray.size_append, ByteArray.size_append, ByteArray.size_append]; omega)
  have HE : Hid (Sn.said ⟨i, t, m, x⟩ = numB i ++ numB t ++ numB m ++ (numB x.size ++ x)) := by unfold Hid Sn.said; simp
  have hwi : IntKind.u64.wrap (i : Int) = i := u64_in i (by omega)
  have hwt : IntKind.u64.wrap (t : Int) = t := u64_in t (by omega)
  have hwm : IntKind.u64.wrap (m : Int) = m := u64_in m (by omega)
  clear h
  go_enter Tryd.func29, Tryd.ntmps29
  go_wp2_with fail
  refine (hc _).mono ?_
  rintro e w1 ⟨rfl, hk⟩
  clear hc
  have c0 : w1.cell? ⟨w.heap.size, 0, none⟩ = some (.int .i64 i) := by rw [hk.cell hlt (fun f => f), cell_of_block HB.out]; rfl
  have c1 : w1.cell? ⟨w.heap.size, 1, none⟩ = some (.int .i64 t) := by rw [hk.cell hlt (fun f => f), cell_of_block HB.out]; rfl
  have c2 : w1.cell? ⟨w.heap.size, 2, none⟩ = some (.int .i64 m) := by rw [hk.cell hlt (fun f => f), cell_of_block HB.out]; rfl
  have c3 : w1.cell? ⟨w.heap.size, 3, none⟩ = some (.string x) := by rw [hk.cell hlt (fun f => f), cell_of_block HB.out]; rfl
  have hlt1 := Nat.lt_of_lt_of_le hlt hk.size
  have HS : Hid (∀ w', Kept (fun _ => False) w1 w' → w'.cell? ⟨w.heap.size, 0, none⟩ = some (.int .i64 i) ∧ w'.cell? ⟨w.heap.size, 1, none⟩ = some (.int .i64 t) ∧ w'.cell? ⟨w.heap.size, 2, none⟩ = some (.int .i64 m) ∧ w'.cell? ⟨w.heap.size, 3, none⟩ = some (.string x) ∧ Kept (fun _ => False) w1 w') := fun w' h => ⟨by rw [h.cell hlt1 (fun f => f)]; exact c0, by rw [h.cell hlt1 (fun f => f)]; exact c1, by rw [h.cell hlt1 (fun f => f)]; exact c2, by rw [h.cell hlt1 (fun f => f)]; exact c3, h⟩
  clear c0 c1 c2 c3
  go_wp2_with fail
  go_region_held3 (fun w' => w'.cell? ⟨w.heap.size, 0, none⟩ = some (.int .i64 i) ∧ w'.cell? ⟨w.heap.size, 1, none⟩ = some (.int .i64 t) ∧ w'.cell? ⟨w.heap.size, 2, none⟩ = some (.int .i64 m) ∧ w'.cell? ⟨w.heap.size, 3, none⟩ = some (.string x) ∧ Kept (fun _ => False) w1 w')
    (first | exact HS.out _ (Kept.refl _ _).drew | exact HS.out _ ((And.right (And.right (And.right (And.right (by assumption : _ ∧ _ ∧ _ ∧ _ ∧ Kept (fun _ => False) w1 _))))).trans hk2))
    (first | (go_at_call 74; refine (num_any _ _ (by omega)).mono ?_; rintro e w2 ⟨rfl, hk2⟩) | (go_at_call 78; refine (HT.out _).mono ?_; rintro e w2 ⟨rfl, hk2⟩))
  have hh : w2.cell? ⟨w.heap.size, 0, none⟩ = some (.int .i64 i) ∧ w2.cell? ⟨w.heap.size, 1, none⟩ = some (.int .i64 t) ∧ w2.cell? ⟨w.heap.size, 2, none⟩ = some (.int .i64 m) ∧ w2.cell? ⟨w.heap.size, 3, none⟩ = some (.string x) ∧ Kept (fun _ => False) w1 w2 := by assumption
  have HH := Lib.hid hh.2.2.2.2
  go_wp2_with fail
  go_ret2
  rw [HE.out]
  exact ⟨rfl, HK.out.trans (hk.trans HH.out)⟩
end Go.Proofs.YtjobmlnekpaagaaDoor

/-! ### crc: the sum, walked. -/
namespace Go.Proofs.YtjobmlnekpaagaaDoor
open Go Go.RowKit Go.Maps
set_option linter.unusedVariables false

def crcBit (c : Nat) : Nat := if c % 2 = 1 then c / 2 ^^^ 2197175160 else c / 2
def crcN : Nat → Nat → Nat
  | 0, c => c
  | k + 1, c => crcBit (crcN k c)
def crcMore (c b : Nat) : Nat := crcN 8 (c ^^^ b)
theorem crcBit_lt {c : Nat} (h : c < 4294967296) : crcBit c < 4294967296 := by
  unfold crcBit
  split
  · exact Nat.xor_lt_two_pow (n := 32) (by omega) (by decide)
  · omega
theorem crcN_lt : ∀ (k c : Nat), c < 4294967296 → crcN k c < 4294967296
  | 0, _, h => h
  | k + 1, c, h => crcBit_lt (crcN_lt k c h)
theorem xor_lt {c b : Nat} (h : c < 4294967296) (h2 : b < 256) : c ^^^ b < 4294967296 := Nat.xor_lt_two_pow (n := 32) h (by omega)
theorem crcMore_lt {c b : Nat} (h : c < 4294967296) (h2 : b < 256) : crcMore c b < 4294967296 := crcN_lt 8 _ (xor_lt h h2)
set_option maxRecDepth 100000 in
set_option maxHeartbeats 800000 in
theorem more_any (w : World) (c b : Nat) (hc : c < 4294967296) (hb : b < 256) : Calls Tryd.prog 120 #[.int .u32 c, .int .u8 b] w fun e w' => e = .returned (.int .u32 (crcMore c b)) ∧ w = w' := by
  have hx : bits .xor .u32 (c : Int) (b : Int) = ((c ^^^ b : Nat) : Int) := u32_xor_nat c b hc (by omega)
  have hx2 : IntKind.u32.wrap (b : Int) = b := by
    have : IntKind.u32.wrap (b : Int) = (b : Int) % 4294967296 := rfl
    omega
  go_enter Tryd.func120, Tryd.ntmps120
  go_wp2_with fail
  go_loopw [0, 9] (fun v0 v9 wr => ∃ k : Nat, k ≤ 8 ∧ v9 = .int .i64 k ∧ v0 = .int .u32 (crcN k (c ^^^ b)) ∧ w = wr) (fun _ v9 _ => 8 - (intOf v9).toNat)
  case atStart => exact ⟨0, by omega, rfl, rfl, rfl⟩
  case round =>
    obtain ⟨k, hk, rfl, rfl, rfl⟩ := hrel
    have hlt := crcN_lt k _ (xor_lt hc hb)
    have hs : crcN (k + 1) (c ^^^ b) = crcBit (crcN k (c ^^^ b)) := rfl
    by_cases h8 : k = 8
    · subst h8
      go_wp2_with fail
      go_ret
      exact ⟨rfl, rfl⟩
    · have hk8 : k < 8 := by omega
      have HS := Lib.hid hs
      clear hs hx hx2
      generalize crcN k (c ^^^ b) = x at *
      by_cases ho : x % 2 = 1
      · have ha : bits .and .u32 (x : Int) 1 = 1 := by
          have := u32_and_nat x 1 hlt (by decide)
          rw [Nat.and_one_is_mod, ho] at this
          exact this
        have hxr : bits .xor .u32 ((x : Int) / 2) 2197175160 = ((x / 2 ^^^ 2197175160 : Nat) : Int) := u32_xor_nat (x / 2) 2197175160 (by omega) (by decide)
        have HB : Hid (crcBit x = x / 2 ^^^ 2197175160) := by unfold Hid crcBit; rw [if_pos ho]
        clear ho
        go_wp2_with fail
        go_roundw
        case rel => exact ⟨k + 1, by omega, by simp, by rw [HS.out, HB.out], trivial⟩
        case measure => simp [intOf]; omega
      · have ha : bits .and .u32 (x : Int) 1 = 0 := by
          have := u32_and_nat x 1 hlt (by decide)
          rw [Nat.and_one_is_mod, show x % 2 = 0 by omega] at this
          exact this
        have HB : Hid (crcBit x = x / 2) := by unfold Hid crcBit; rw [if_neg ho]
        clear ho
        go_wp2_with fail
        go_roundw
        case rel => exact ⟨k + 1, by omega, by simp, by rw [HS.out, HB.out]; simp, trivial⟩
        case measure => simp [intOf]; omega
/-- The sum of bytes, on from c. -/
def crcGo (l : List Nat) (c : Nat) : Nat := l.foldl crcMore c
def bytesL (s : ByteArray) : List Nat := s.data.toList.map UInt8.toNat
def crcSum (s : ByteArray) : Nat := 4294967295 - crcGo (bytesL s) 4294967295
theorem bytesL_length (s : ByteArray) : (bytesL s).length = s.size := by unfold bytesL; rw [List.length_map, Array.length_toList]; rfl
theorem bytesL_lt (s : ByteArray) : ∀ x ∈ bytesL s, x < 256 := by
  intro x hx
  unfold bytesL at hx
  obtain ⟨y, _, rfl⟩ := List.mem_map.1 hx
  exact y.toNat_lt
theorem crcGo_lt : ∀ (l : List Nat) (c : Nat), (∀ x ∈ l, x < 256) → c < 4294967296 → crcGo l c < 4294967296
  | [], _, _, h => h
  | b :: l, c, hl, h => crcGo_lt l _ (fun x hx => hl x (List.mem_cons_of_mem _ hx)) (crcMore_lt h (hl b (by simp)))
theorem crcSum_lt (s : ByteArray) : crcSum s < 4294967296 := by unfold crcSum; omega
theorem bytesL_at (s : ByteArray) (k : Nat) (h : k < s.size) : (bytesL s)[k]? = some s[k].toNat := by
  unfold bytesL
  rw [List.getElem?_map, Array.getElem?_toList, Array.getElem?_eq_getElem h]
  rfl
theorem crcGo_step (s : ByteArray) (k : Nat) (h : k < s.size) (c : Nat) : crcGo ((bytesL s).take (k + 1)) c = crcMore (crcGo ((bytesL s).take k) c) s[k].toNat := by
  rw [List.take_add_one, bytesL_at s k h]
  unfold crcGo
  rw [List.foldl_append]
  rfl
theorem xor_ones32 {x : Nat} (h : x < 4294967296) : 4294967295 ^^^ x = 4294967295 - x := by
  have h1 : (BitVec.ofNat 32 x ^^^ BitVec.allOnes 32).toNat = 2 ^ 32 - 1 - (BitVec.ofNat 32 x).toNat := by
    rw [BitVec.xor_allOnes, BitVec.toNat_not]
  rw [BitVec.toNat_xor, BitVec.toNat_ofNat, BitVec.toNat_allOnes, Nat.mod_eq_of_lt (by simpa using h)] at h1
  rw [Nat.xor_comm]
  simpa using h1
theorem u32_not {x : Nat} (h : x < 4294967296) : bits .xor .u32 IntKind.u32.max (x : Int) = ((4294967295 - x : Nat) : Int) := by
  have := u32_xor_nat 4294967295 x (by decide) h
  rw [xor_ones32 h] at this
  exact this
theorem ret_u32 {a b : Int} (h : a = b) : Ending.returned (.int .u32 a) = .returned (.int .u32 b) := by rw [h]
set_option maxRecDepth 100000 in
set_option maxHeartbeats 800000 in
theorem sum_any (w : World) (s : ByteArray) (h : s.size ≤ 1099511627776) : Calls Tryd.prog 112 #[.string s] w fun e w' => e = .returned (.int .u32 (crcSum s)) ∧ w = w' := by
  go_enter Tryd.func112, Tryd.ntmps112
  go_wp2_with fail
  go_loopw [3, 4, 7] (fun v3 v4 v7 wr => ∃ k : Nat, k ≤ s.size ∧ v7 = .int .i64 k ∧ v3 = .int .u32 (crcGo ((bytesL s).take k) 4294967295) ∧ w = wr) (fun _ _ v7 _ => s.size - (intOf v7).toNat)
  case atStart => exact ⟨0, by omega, rfl, rfl, rfl⟩
  case round =>
    obtain ⟨k, hk, rfl, rfl, rfl⟩ := hrel
    have hlt : crcGo ((bytesL s).take k) 4294967295 < 4294967296 := crcGo_lt _ _ (fun x hx => bytesL_lt s x (List.mem_of_mem_take hx)) (by decide)
    by_cases h8 : k < s.size
    · have hd : decide ((k : Int) < s.size) = true := decide_eq_true (by omega)
      have HST := Lib.hid (crcGo_step s k h8 4294967295)
      have HM := Lib.hid (more_any w _ _ hlt (s[k].toNat_lt))
      clear hlt
      go_wp2_with fail
      refine HM.out.mono ?_
      rintro e w1 ⟨rfl, rfl⟩
      go_wp2_with fail
      go_roundw
      case rel => exact ⟨k + 1, by omega, by simp, by rw [HST.out], trivial⟩
      case measure => simp [intOf]; omega
    · have hd : decide ((k : Int) < s.size) = false := decide_eq_false (by omega)
      have he : k = s.size := by omega
      subst he
      rw [List.take_of_length_le (by rw [bytesL_length]; exact Nat.le_refl _)]
      rw [List.take_of_length_le (by rw [bytesL_length]; exact Nat.le_refl _)] at hlt
      go_wp2_with fail
      go_ret
      exact ⟨ret_u32 (u32_not hlt), rfl⟩
end Go.Proofs.YtjobmlnekpaagaaDoor

/-! ### crc.Pack, walked. -/
namespace Go.Proofs.YtjobmlnekpaagaaDoor
open Go Go.RowKit Go.Maps
set_option linter.unusedVariables false

def packHead (n : Nat) : ByteArray := strN [n / 65536, n / 256 % 256, n % 256]
def packTail (c : Nat) : ByteArray := strN [c % 256, c / 256 % 256, c / 65536 % 256, c / 16777216]
def packed (b : ByteArray) : ByteArray := packHead b.size ++ b ++ packTail (crcSum (packHead b.size ++ b))
theorem packHead_size (n : Nat) : (packHead n).size = 3 := strN_size _
theorem packTail_size (n : Nat) : (packTail n).size = 4 := strN_size _
theorem packed_size (b : ByteArray) : (packed b).size = b.size + 7 := by
  unfold packed
  rw [ByteArray.size_append, ByteArray.size_append, packHead_size, packTail_size]
  omega
set_option maxRecDepth 100000 in
set_option maxHeartbeats 800000 in
theorem pack_long (w : World) (b : ByteArray) (h : 1048576 < b.size) (h2 : b.size ≤ 9223372036854775807) : Calls Tryd.prog 100 #[.string b] w fun e w' => e = .returned (.tuple #[.string .empty, .int .i64 2]) ∧ w = w' := by
  have g0 : decide ((b.size : Int) > 1048576) = true := decide_eq_true (by omega)
  go_enter Tryd.func100, Tryd.ntmps100
  go_wp2
  go_ret2
  exact ⟨rfl, rfl⟩
theorem alloc_size (w : World) (o : Obj) : (w.alloc o).heap.size = w.heap.size + 1 := by show (w.heap.push o).size = _; simp
/-- Bytes that have just been laid, as a text. -/
theorem conv_list (w : World) (L : List Nat) : (convert 124 9 (.slice (some ⟨w.heap.size, 0, none⟩) L.length L.length)).run Tryd.prog (w.alloc (.cells (L.map fun x => Value.int .u8 ((x : Nat) : Int)).toArray 5)) = .ok (.string (strN L)) (w.alloc (.cells (L.map fun x => Value.int .u8 ((x : Nat) : Int)).toArray 5)) := by
  refine run_convert_bytes_arg (P := Tryd.prog) _ 124 5 uT_bytes uT_byte w.heap.size 0 L.length L.length (L.map Int.ofNat) (by simp) (fun i hi => ?_) 9 uT_str
  rw [cell_of_block (block_new w _)]
  simp only [List.getElem?_toArray, Nat.zero_add]
  rw [List.getElem?_map, List.getD, List.getElem?_map, List.getElem?_eq_getElem hi]
  rfl
set_option maxRecDepth 100000 in
set_option maxHeartbeats 800000 in
theorem pack_any (w : World) (b : ByteArray) (h : b.size ≤ 1048576) : Calls Tryd.prog 100 #[.string b] w fun e w' => e = .returned (.tuple #[.string (packed b), .int .i64 0]) ∧ Kept (fun _ => False) w w' := by
  have g0 : decide ((b.size : Int) > 1048576) = false := decide_eq_false (by omega)
  have hcv := conv_list w [b.size / 65536, b.size / 256 % 256, b.size % 256]
  have hps := packHead_size b.size
  have HP : Hid (packed b = packHead b.size ++ b ++ packTail (crcSum (packHead b.size ++ b))) := rfl
  have hadd := fun w => run_string_add_sum (P := Tryd.prog) (w := w) (packHead b.size) b (by omega)
  have e1 : strN [b.size / 65536, b.size / 256 % 256, b.size % 256] = packHead b.size := rfl
  rw [e1] at hcv
  simp only [List.map_cons, List.map_nil, List.length_cons, List.length_nil, Int.natCast_ediv, Int.natCast_emod, Int.cast_ofNat_Int, Nat.reduceAdd] at hcv
  generalize packHead b.size = hd at *
  have hsum := fun w => sum_any w (hd ++ b) (by rw [ByteArray.size_append]; omega)
  have hcl := crcSum_lt (hd ++ b)
  generalize crcSum (hd ++ b) = c at *
  have HS := Lib.hid hsum
  have hpt := packTail_size c
  have hadd2 := fun w => run_string_add_sum (P := Tryd.prog) (w := w) (hd ++ b) (packTail c) (by rw [ByteArray.size_append]; omega)
  have HK := Lib.hid ((Kept.refl (fun _ => False) w).alloc (.cells #[.int .u8 ((b.size : Int) / 65536), .int .u8 ((b.size : Int) / 256 % 256), .int .u8 ((b.size : Int) % 256)] 5))
  clear hsum
  have hcv2 := conv_list (w.alloc (.cells #[.int .u8 ((b.size : Int) / 65536), .int .u8 ((b.size : Int) / 256 % 256), .int .u8 ((b.size : Int) % 256)] 5)) [c % 256, c / 256 % 256, c / 65536 % 256, c / 16777216]
  have e2 : strN [c % 256, c / 256 % 256, c / 65536 % 256, c / 16777216] = packTail c := rfl
  rw [e2, alloc_size] at hcv2
  simp only [List.map_cons, List.map_nil, List.length_cons, List.length_nil, Int.natCast_ediv, Int.natCast_emod, Int.cast_ofNat_Int, Nat.reduceAdd] at hcv2
  go_enter Tryd.func100, Tryd.ntmps100
  go_wp2_with (go_at_call 112; refine (HS.out _).mono ?_; rintro e w1 ⟨rfl, rfl⟩)
  go_ret2
  rw [HP.out]
  exact ⟨rfl, HK.out.alloc _⟩
end Go.Proofs.YtjobmlnekpaagaaDoor

/-! ### crc.Unpack, walked. -/
namespace Go.Proofs.YtjobmlnekpaagaaDoor
open Go Go.RowKit Go.Maps
set_option linter.unusedVariables false

/-- Byte number i of a text, or 0. -/
def byteAt (s : ByteArray) (i : Nat) : Nat := (bytesL s).getD i 0
def unpLen (s : ByteArray) : Nat := byteAt s 0 * 65536 + byteAt s 1 * 256 + byteAt s 2
def sumAt (s : ByteArray) (n c i : Nat) : Bool := byteAt s (n + 3 + i) == c / 256 ^ i % 256
theorem byteAt_eq {s : ByteArray} {i : Nat} (h : i < s.size) : s[i].toNat = byteAt s i := by
  unfold byteAt
  rw [List.getD, bytesL_at s i h]
  rfl
theorem byteAt_lt (s : ByteArray) (i : Nat) : byteAt s i < 256 := by
  by_cases h : i < s.size
  · rw [← byteAt_eq h]; exact s[i].toNat_lt
  · unfold byteAt
    rw [List.getD, List.getElem?_eq_none (by rw [bytesL_length]; omega)]
    decide
theorem cmp_nat (x y : Nat) : ((x : Int) != (y : Int)) = !(x == y) := by
  by_cases h : x = y
  · subst h; rw [bne_self_eq_false, beq_self_eq_true]; rfl
  · have : (x : Int) ≠ (y : Int) := by omega
    rw [bne, beq_eq_false_iff_ne.2 this, beq_eq_false_iff_ne.2 h]
theorem i64_or_nat (a b : Nat) (ha : a < 9223372036854775808) (hb : b < 9223372036854775808) : bits .or .i64 (a : Int) (b : Int) = ((a ||| b : Nat) : Int) := by
  show IntKind.i64.wrap ((BitVec.ofInt 64 (a : Int) ||| BitVec.ofInt 64 (b : Int)).toNat : Int) = _
  rw [BitVec.toNat_or, ofInt_u64 a (by omega), ofInt_u64 b (by omega)]
  have h : a ||| b < 2 ^ 63 := Nat.or_lt_two_pow ha hb
  simp [IntKind.wrap, IntKind.bits, IntKind.signed]
  omega
theorem or_three (a b c : Nat) (ha : a < 256) (hb : b < 256) (hc : c < 256) : (a * 65536 ||| b * 256) ||| c = a * 65536 + b * 256 + c := by
  have e16 : (2 : Nat) ^ 16 = 65536 := by decide
  have e8 : (2 : Nat) ^ 8 = 256 := by decide
  have h1 := Nat.shiftLeft_add_eq_or_of_lt (b := b * 256) (i := 16) (by rw [e16]; omega) a
  rw [Nat.shiftLeft_eq, e16] at h1
  rw [← h1]
  have h2 := Nat.shiftLeft_add_eq_or_of_lt (b := c) (i := 8) (by rw [e8]; omega) (a * 256 + b)
  rw [Nat.shiftLeft_eq, e8] at h2
  rw [show a * 65536 + b * 256 = (a * 256 + b) * 256 by rw [Nat.add_mul, Nat.mul_assoc], ← h2]
theorem head_or (a b c : Nat) (ha : a < 256) (hb : b < 256) (hc : c < 256) : bits .or .i64 (bits .or .i64 (wrap64 (wrap64 (a : Int) * 65536)) (wrap64 (wrap64 (b : Int) * 256))) (wrap64 (c : Int)) = ((a * 65536 + b * 256 + c : Nat) : Int) := by
  have e1 : wrap64 (wrap64 (a : Int) * 65536) = ((a * 65536 : Nat) : Int) := by unfold wrap64; omega
  have e2 : wrap64 (wrap64 (b : Int) * 256) = ((b * 256 : Nat) : Int) := by unfold wrap64; omega
  have e3 : wrap64 (c : Int) = (c : Int) := by unfold wrap64; omega
  have h40 : (a * 65536) ||| (b * 256) < 2 ^ 40 := Nat.or_lt_two_pow (by omega) (by omega)
  rw [e1, e2, e3, i64_or_nat _ _ (by omega) (by omega), i64_or_nat _ _ (by omega) (by omega), or_three a b c ha hb hc]
def unpack (s : ByteArray) : ByteArray × ByteArray × Int :=
  if s.size < 3 then (.empty, .empty, 5)
  else if 1048576 < unpLen s then (.empty, .empty, 2)
  else if s.size < unpLen s + 7 then (.empty, .empty, 5)
  else
    let n := unpLen s
    let c := crcSum (s.extract 0 (n + 3))
    if sumAt s n c 0 && (sumAt s n c 1 && (sumAt s n c 2 && sumAt s n c 3)) then (s.extract 3 (n + 3), s.extract (n + 7) s.size, 0) else (.empty, .empty, 6)
set_option maxRecDepth 100000 in
set_option maxHeartbeats 800000 in
theorem unpack_short (w : World) (s : ByteArray) (h : s.size < 3) : Calls Tryd.prog 99 #[.string s] w fun e w' => e = .returned (.tuple #[.string .empty, .string .empty, .int .i64 5]) ∧ Kept (fun _ => False) w w' := by
  have g0 : decide ((s.size : Int) < 3) = true := decide_eq_true (by omega)
  go_enter Tryd.func99, Tryd.ntmps99
  go_wp2
  go_ret3
  exact ⟨rfl, Kept.refl _ _⟩
set_option maxRecDepth 100000 in
set_option maxHeartbeats 4000000 in
theorem unpack_rest (w : World) (s : ByteArray) (h : ¬ s.size < 3) (hs : s.size ≤ 1099511627776) : Calls Tryd.prog 99 #[.string s] w fun e w' => e = .returned (.tuple #[.string (unpack s).1, .string (unpack s).2.1, .int .i64 (unpack s).2.2]) ∧ Kept (fun _ => False) w w' := by
  have g0 : decide ((s.size : Int) < 3) = false := decide_eq_false (by omega)
  have p0 : (0 : Int) < (s.size : Int) := by omega
  have p1 : (1 : Int) < (s.size : Int) := by omega
  have p2 : (2 : Int) < (s.size : Int) := by omega
  have q0 : 0 < s.size := by omega
  have q1 : 1 < s.size := by omega
  have q2 : 2 < s.size := by omega
  go_enter Tryd.func99, Tryd.ntmps99
  go_wp2_with fail
  go_quiet (fail)
  rw [head_or _ _ _ (s[0].toNat_lt) (s[1].toNat_lt) (s[2].toNat_lt), byteAt_eq q0, byteAt_eq q1, byteAt_eq q2]
  have hlen : byteAt s 0 * 65536 + byteAt s 1 * 256 + byteAt s 2 = unpLen s := rfl
  have HU : Hid (unpack s = if 1048576 < unpLen s then (.empty, .empty, 5 - 3) else if s.size < unpLen s + 7 then (.empty, .empty, 5) else if sumAt s (unpLen s) (crcSum (s.extract 0 (unpLen s + 3))) 0 && (sumAt s (unpLen s) (crcSum (s.extract 0 (unpLen s + 3))) 1 && (sumAt s (unpLen s) (crcSum (s.extract 0 (unpLen s + 3))) 2 && sumAt s (unpLen s) (crcSum (s.extract 0 (unpLen s + 3))) 3)) then (s.extract 3 (unpLen s + 3), s.extract (unpLen s + 7) s.size, 0) else (.empty, .empty, 6)) := by
    unfold Hid unpack
    rw [if_neg h]
    rfl
  rw [hlen]
  clear hlen
  generalize unpLen s = n at *
  by_cases hn : 1048576 < n
  · have g1 : decide ((n : Int) > 1048576) = true := decide_eq_true (by omega)
    go_wp2_with fail
    go_ret3
    rw [HU.out, if_pos hn]
    exact ⟨rfl, (Kept.refl _ _).drewN _⟩
  have g1 : decide ((n : Int) > 1048576) = false := decide_eq_false (by omega)
  by_cases hsz : s.size < n + 7
  · have g2 : decide ((s.size : Int) - 7 < (n : Int)) = true := decide_eq_true (by omega)
    go_wp2_with fail
    go_ret3
    rw [HU.out, if_neg hn, if_pos hsz]
    exact ⟨rfl, (Kept.refl _ _).drewN _⟩
  have g2 : decide ((s.size : Int) - 7 < (n : Int)) = false := decide_eq_false (by omega)
  have hsum := fun w => sum_any w (s.extract 0 (n + 3)) (by simp; omega)
  rw [if_neg hn, if_neg hsz] at HU
  have HS := Lib.hid hsum
  clear hsum
  have p3 : (n : Int) + 3 < (s.size : Int) := by omega
  have q3 : n + 3 < s.size := by omega
  have p4 : (n : Int) + 4 < (s.size : Int) := by omega
  have q4 : n + 4 < s.size := by omega
  have p5 : (n : Int) + 5 < (s.size : Int) := by omega
  have q5 : n + 5 < s.size := by omega
  have p6 : (n : Int) + 6 < (s.size : Int) := by omega
  have q6 : n + 6 < s.size := by omega
  have hcl := crcSum_lt (s.extract 0 (n + 3))
  generalize crcSum (s.extract 0 (n + 3)) = c at *
  go_wp2_with fail
  refine (HS.out _).mono ?_
  rintro e w1 ⟨rfl, hw1⟩
  have hk1 : Kept (fun _ => False) w w1 := hw1 ▸ (Kept.refl _ _).drewN _
  have HK1 := Lib.hid hk1
  clear hw1 hk1
  go_wp2_with fail
  clear p3 p4 p5 p6 q3 q4 q5 q6
  obtain ⟨m3, hm3⟩ : ∃ m, m = n + 3 := ⟨_, rfl⟩
  obtain ⟨m4, hm4⟩ : ∃ m, m = n + 4 := ⟨_, rfl⟩
  obtain ⟨m5, hm5⟩ : ∃ m, m = n + 5 := ⟨_, rfl⟩
  obtain ⟨m6, hm6⟩ : ∃ m, m = n + 6 := ⟨_, rfl⟩
  have hw3 : IntKind.i64.wrap ((n : Int) + 3) = m3 := by rw [IntWalk.i64_in _ (by omega)]; omega
  have hw3' : IntKind.i64.wrap ((m3 : Int)) = m3 := by rw [IntWalk.i64_in _ (by omega)]
  have hw4 : IntKind.i64.wrap ((m3 : Int) + 1) = m4 := by rw [IntWalk.i64_in _ (by omega)]; omega
  have hw5 : IntKind.i64.wrap ((m3 : Int) + 2) = m5 := by rw [IntWalk.i64_in _ (by omega)]; omega
  have hw6 : IntKind.i64.wrap ((m3 : Int) + 3) = m6 := by rw [IntWalk.i64_in _ (by omega)]; omega
  have p3 : (m3 : Int) < (s.size : Int) := by omega
  have q3 : m3 < s.size := by omega
  have p4 : (m4 : Int) < (s.size : Int) := by omega
  have q4 : m4 < s.size := by omega
  have p5 : (m5 : Int) < (s.size : Int) := by omega
  have q5 : m5 < s.size := by omega
  have p6 : (m6 : Int) < (s.size : Int) := by omega
  have q6 : m6 < s.size := by omega
  obtain ⟨m7, hm7⟩ : ∃ m, m = n + 7 := ⟨_, rfl⟩
  have hw7 : IntKind.i64.wrap ((n : Int) + 7) = m7 := by rw [IntWalk.i64_in _ (by omega)]; omega
  have r1 : (3 : Int) ≤ (m3 : Int) := by omega
  have r1' : 3 ≤ m3 := by omega
  have r2 : (m3 : Int) ≤ (s.size : Int) := by omega
  have r2' : m3 ≤ s.size := by omega
  have r3 : (m7 : Int) ≤ (s.size : Int) := by omega
  have r3' : m7 ≤ s.size := by omega
  have HM7 := Lib.hid hm7
  clear hm7
  have HM3 := Lib.hid hm3
  have HM4 := Lib.hid hm4
  have HM5 := Lib.hid hm5
  have HM6 := Lib.hid hm6
  clear hm3 hm4 hm5 hm6
  have t3 : ((s[m3].toNat : Int) != (c : Int) % 256) = !(sumAt s n c 0) := by
    have := cmp_nat s[m3].toNat (c % 256)
    rw [byteAt_eq q3] at this ⊢
    unfold sumAt
    rw [HM3.out] at this ⊢
    simpa using this
  have t4 : ((s[m4].toNat : Int) != (c : Int) / 256 % 256) = !(sumAt s n c 1) := by
    have := cmp_nat s[m4].toNat (c / 256 % 256)
    rw [byteAt_eq q4] at this ⊢
    unfold sumAt
    rw [HM4.out] at this ⊢
    simpa using this
  have t5 : ((s[m5].toNat : Int) != (c : Int) / 65536 % 256) = !(sumAt s n c 2) := by
    have := cmp_nat s[m5].toNat (c / 65536 % 256)
    rw [byteAt_eq q5] at this ⊢
    unfold sumAt
    rw [HM5.out] at this ⊢
    simpa using this
  have t6 : ((s[m6].toNat : Int) != (c : Int) / 16777216 % 256) = !(sumAt s n c 3) := by
    have := cmp_nat s[m6].toNat (c / 16777216 % 256)
    rw [byteAt_eq q6] at this ⊢
    unfold sumAt
    rw [HM6.out] at this ⊢
    simpa using this
  have t6' : ((s[m6].toNat : Int) != (c : Int) / 16777216) = !(sumAt s n c 3) := by
    rw [← t6, show (c : Int) / 16777216 % 256 = (c : Int) / 16777216 by omega]
  have HUU := Lib.hid HU.out
  clear HU
  generalize sumAt s n c 0 = b0 at *
  generalize sumAt s n c 1 = b1 at *
  generalize sumAt s n c 2 = b2 at *
  generalize sumAt s n c 3 = b3 at *
  cases b0 with
  | false =>
    refine wp_loop_rounds 5 ?_
    rw [rounds_succ]
    go_wp2_with fail
    go_quiet (fail)
    go_wp2_with fail
    go_ret3
    rw [HUU.out]
    exact ⟨rfl, by first | exact HK1.out.drewN _ | exact (HK1.out.drewN _).drewN _⟩
  | true =>
    cases b1 with
    | false =>
      refine wp_loop_rounds 5 ?_
      rw [rounds_succ]
      go_wp2_with fail
      go_quiet (fail)
      go_wp2_with fail
      rw [rounds_succ]
      go_wp2_with fail
      go_quiet (fail)
      go_wp2_with fail
      go_ret3
      rw [HUU.out]
      exact ⟨rfl, by first | exact HK1.out.drewN _ | exact (HK1.out.drewN _).drewN _⟩
    | true =>
      cases b2 with
      | false =>
        refine wp_loop_rounds 5 ?_
        rw [rounds_succ]
        go_wp2_with fail
        go_quiet (fail)
        go_wp2_with fail
        rw [rounds_succ]
        go_wp2_with fail
        go_quiet (fail)
        go_wp2_with fail
        rw [rounds_succ]
        go_wp2_with fail
        go_quiet (fail)
        go_wp2_with fail
        go_ret3
        rw [HUU.out]
        exact ⟨rfl, by first | exact HK1.out.drewN _ | exact (HK1.out.drewN _).drewN _⟩
      | true =>
        cases b3 with
        | false =>
          refine wp_loop_rounds 5 ?_
          rw [rounds_succ]
          go_wp2_with fail
          go_quiet (fail)
          go_wp2_with fail
          rw [rounds_succ]
          go_wp2_with fail
          go_quiet (fail)
          go_wp2_with fail
          rw [rounds_succ]
          go_wp2_with fail
          go_quiet (fail)
          go_wp2_with fail
          rw [rounds_succ]
          go_wp2_with fail
          go_quiet (fail)
          go_wp2_with fail
          go_ret3
          rw [HUU.out]
          exact ⟨rfl, by first | exact HK1.out.drewN _ | exact (HK1.out.drewN _).drewN _⟩
        | true =>
          refine wp_loop_rounds 5 ?_
          rw [rounds_succ]
          go_wp2_with fail
          go_quiet (fail)
          go_wp2_with fail
          rw [rounds_succ]
          go_wp2_with fail
          go_quiet (fail)
          go_wp2_with fail
          rw [rounds_succ]
          go_wp2_with fail
          go_quiet (fail)
          go_wp2_with fail
          rw [rounds_succ]
          go_wp2_with fail
          go_quiet (fail)
          go_wp2_with fail
          rw [rounds_succ]
          go_wp2_with fail
          go_quiet (fail)
          go_wp2_with fail
          go_ret3
          rw [HUU.out, ← HM3.out, ← HM7.out]
          exact ⟨rfl, by first | exact HK1.out.drewN _ | exact (HK1.out.drewN _).drewN _⟩
theorem unpack_any (w : World) (s : ByteArray) (hs : s.size ≤ 1099511627776) : Calls Tryd.prog 99 #[.string s] w fun e w' => e = .returned (.tuple #[.string (unpack s).1, .string (unpack s).2.1, .int .i64 (unpack s).2.2]) ∧ Kept (fun _ => False) w w' := by
  by_cases h : s.size < 3
  · have he : unpack s = (.empty, .empty, 5) := by unfold unpack; rw [if_pos h]
    rw [he]
    exact unpack_short w s h
  · exact unpack_rest w s h hs
end Go.Proofs.YtjobmlnekpaagaaDoor

/-! ### bits.Tape: the small calls, walked. -/
namespace Go.Proofs.YtjobmlnekpaagaaDoor
open Go Go.RowKit Go.Maps
set_option linter.unusedVariables false

/-- A tape: what is left, and the error. -/
def TapeAt (w : World) (b : Nat) (s : ByteArray) (e : Int) : Prop := w.heap[b]? = some (.cells #[.string s, .int .i64 e] 155 (0, 0))
theorem TapeAt.lt {w : World} {b : Nat} {s : ByteArray} {e : Int} (h : TapeAt w b s e) : b < w.heap.size := (Array.getElem?_eq_some_iff.1 h).1
theorem TapeAt.c0 {w : World} {b : Nat} {s : ByteArray} {e : Int} (h : TapeAt w b s e) : w.cell? ⟨b, 0, none⟩ = some (.string s) := by rw [cell_of_block h]; rfl
theorem TapeAt.c1 {w : World} {b : Nat} {s : ByteArray} {e : Int} (h : TapeAt w b s e) : w.cell? ⟨b, 1, none⟩ = some (.int .i64 e) := by rw [cell_of_block h]; rfl
theorem TapeAt.fz {w : World} {b : Nat} {s : ByteArray} {e : Int} (h : TapeAt w b s e) (i : Nat) : w.frozen? ⟨b, i, none⟩ = false := frozen_of_block h i
theorem TapeAt.kept {F : Nat → Prop} {w w' : World} {b : Nat} {s : ByteArray} {e : Int} (h : TapeAt w b s e) (hk : Kept F w w') (hF : ¬ F b) : TapeAt w' b s e := by
  unfold TapeAt
  rw [hk.block b h.lt hF]
  exact h
set_option maxRecDepth 100000 in
set_option maxHeartbeats 800000 in
theorem at_any (w : World) (s : ByteArray) : Calls Tryd.prog 90 #[.string s] w fun e w' => e = .returned (.pointer (some ⟨w.heap.size, 0, none⟩)) ∧ TapeAt w' w.heap.size s 0 ∧ Kept (fun _ => False) w w' := by
  have HB := Lib.hid (block_new w (.cells #[.string s, .int .i64 0] 155))
  have HK := Lib.hid ((Kept.refl (fun _ => False) w).alloc (.cells #[.string s, .int .i64 0] 155))
  go_enter Tryd.func90, Tryd.ntmps90
  go_wp2
  go_ret
  exact ⟨rfl, HB.out, HK.out⟩
set_option maxRecDepth 100000 in
set_option maxHeartbeats 800000 in
theorem stuck_any {w : World} {b : Nat} {s : ByteArray} {t : Int} (h : TapeAt w b s t) : Calls Tryd.prog 95 #[.pointer (some ⟨b, 0, none⟩)] w fun e w' => e = .returned (.bool (t != 0)) ∧ w = w' := by
  have c1 := h.c1
  clear h
  go_enter Tryd.func95, Tryd.ntmps95
  go_wp2
  go_ret
  exact ⟨rfl, rfl⟩
set_option maxRecDepth 100000 in
set_option maxHeartbeats 800000 in
theorem tfail_any {w : World} {b : Nat} {s : ByteArray} {t : Int} (h : TapeAt w b s t) (k : Int) : Calls Tryd.prog 97 #[.pointer (some ⟨b, 0, none⟩), .int .i64 k] w fun e w' => e = .returned (.tuple #[]) ∧ TapeAt w' b s k ∧ Kept (fun j => j = b) w w' := by
  have c1 := h.c1
  have f1 := h.fz 1
  have H := Lib.hid h
  clear h
  go_enter Tryd.func97, Tryd.ntmps97
  go_wp2
  go_end0
  refine ⟨rfl, ?_, Kept.own _ _ _ _⟩
  unfold TapeAt
  rw [setCell_block H.out]
  rfl
set_option maxRecDepth 100000 in
set_option maxHeartbeats 800000 in
theorem terr_any {w : World} {b : Nat} {s : ByteArray} {t : Int} (h : TapeAt w b s t) : Calls Tryd.prog 111 #[.pointer (some ⟨b, 0, none⟩)] w fun e w' => e = .returned (.int .i64 t) ∧ w = w' := by
  have c1 := h.c1
  clear h
  go_enter Tryd.func111, Tryd.ntmps111
  go_wp2
  go_ret
  exact ⟨rfl, rfl⟩
def tapeEnd (s : ByteArray) (t : Int) : Int := if t = 0 ∧ s.size ≠ 0 then 3 else t
theorem empty_test (s : ByteArray) : (s.toList == ([] : List UInt8)) = decide (s.size = 0) := by
  rw [ByteArray.toList_eq]
  have e : s.data.toList.length = s.size := by rw [Array.length_toList]; rfl
  by_cases h : s.size = 0
  · rw [List.length_eq_zero_iff.1 (e.trans h), decide_eq_true h]; rfl
  · rw [decide_eq_false h]
    cases hl : s.data.toList with
    | nil => rw [hl] at e; simp at e; omega
    | cons x r => rfl
set_option maxRecDepth 100000 in
set_option maxHeartbeats 800000 in
theorem tend_any {w : World} {b : Nat} {s : ByteArray} {t : Int} (h : TapeAt w b s t) : Calls Tryd.prog 91 #[.pointer (some ⟨b, 0, none⟩)] w fun e w' => e = .returned (.int .i64 (tapeEnd s t)) ∧ w = w' := by
  have c1 := h.c1
  have c0 := h.c0
  have he := fun w1 (e : w = w1) => terr_any (e ▸ h)
  have HE := Lib.hid he
  clear he h
  by_cases ht : t = 0
  · subst ht
    by_cases hs : s.size = 0
    · have g2 : (s.toList == ([] : List UInt8)) = true := by rw [empty_test]; exact decide_eq_true hs
      have HR : Hid (tapeEnd s 0 = 0) := by unfold Hid tapeEnd; rw [if_neg (fun h => h.2 hs)]
      have g3 : (s.toList != ([] : List UInt8)) = false := by rw [bne, g2]; rfl
      go_enter Tryd.func91, Tryd.ntmps91
      go_wp2_with fail
      refine (HE.out _ rfl).mono ?_
      rintro e w1 ⟨rfl, rfl⟩
      go_wp2_with fail
      go_ret
      rw [HR.out]
      exact ⟨rfl, rfl⟩
    · have g2 : (s.toList == ([] : List UInt8)) = false := by rw [empty_test]; exact decide_eq_false hs
      have HR : Hid (tapeEnd s 0 = 3) := by unfold Hid tapeEnd; rw [if_pos ⟨rfl, hs⟩]
      have g3 : (s.toList != ([] : List UInt8)) = true := by rw [bne, g2]; rfl
      go_enter Tryd.func91, Tryd.ntmps91
      go_wp2_with fail
      go_ret
      rw [HR.out]
      exact ⟨rfl, rfl⟩
  · have g1 : (t == 0) = false := by simpa using ht
    have HR : Hid (tapeEnd s t = t) := by unfold Hid tapeEnd; rw [if_neg (fun h => ht h.1)]
    go_enter Tryd.func91, Tryd.ntmps91
    go_wp2_with fail
    refine (HE.out _ rfl).mono ?_
    rintro e w1 ⟨rfl, rfl⟩
    go_wp2_with fail
    go_ret
    rw [HR.out]
    exact ⟨rfl, rfl⟩
end Go.Proofs.YtjobmlnekpaagaaDoor
