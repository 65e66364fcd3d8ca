/- What the printed functions of the document's layers 1 and 7 answer. -/
import Derived.Test.YtjobmlnekpaagaaDoorMF
import Derived.Test.YtjobmlnekpaagaaDoorPRdb
namespace Go.Proofs.YtjobmlnekpaagaaDoor
open Go Go.RowKit Go.Maps
set_option linter.unusedVariables false

namespace PR
open PShelfReads
theorem bt_at {s : ByteArray} {i : Nat} (h : i < s.size) : YtjobmlnekpaagaaDoorW.PrintWords.bt s (i : Int) = byteAt s i := by
  unfold YtjobmlnekpaagaaDoorW.PrintWords.bt
  rw [dif_pos (by simpa using h), ← byteAt_eq h]
  rfl
theorem u64w {n : Int} (h0 : 0 ≤ n) (h1 : n < 18446744073709551616) : IntKind.u64.wrap n = n := by rw [u64_wrap]; omega
theorem w64 {n : Int} (h0 : -9223372036854775808 ≤ n) (h1 : n ≤ 9223372036854775807) : wrap64 n = n := by unfold wrap64; omega
theorem shr_at {n i : Nat} (h : i ≤ 8) : YtjobmlnekpaagaaDoorW.PrintWords.shr .u64 (n : Int) (IntKind.u64.wrap (wrap64 (8 * (i : Int)))) = ((n / 256 ^ i : Nat) : Int) := by
  rw [w64 (by omega) (by omega), u64w (by omega) (by omega)]
  unfold YtjobmlnekpaagaaDoorW.PrintWords.shr
  have e : min (8 * (i : Int)).toNat IntKind.u64.bits = 8 * i := by
    show min _ 64 = _
    omega
  have e3 : ((2 : Int) ^ (8 * i)) = ((256 ^ i : Nat) : Int) := by
    rw [show (256 : Nat) = 2 ^ 8 from rfl, ← Nat.pow_mul]
    simp
  rw [e, e3, Int.natCast_ediv]
theorem num_l1 {n : Nat} : ∀ (j : Nat) (L : List Int) (k : Nat), j ≤ 8 → j < k → L.length + j ≤ 20 → auspiceref01_Num.l1 k n L ((j : Int) - 1) = some (strOfNums (L ++ (low j n).map Int.ofNat))
  | 0, L, k, _, hk, _ => by
    obtain ⟨k, rfl⟩ : ∃ m, k = m + 1 := ⟨k - 1, by omega⟩
    simp only [auspiceref01_Num.l1]
    rw [if_neg (by omega)]
    simp [low]
  | j + 1, L, k, hj, hk, hl => by
    obtain ⟨k, rfl⟩ : ∃ m, k = m + 1 := ⟨k - 1, by omega⟩
    have e : ((j + 1 : Nat) : Int) - 1 = (j : Int) := by omega
    rw [e]
    simp only [auspiceref01_Num.l1]
    rw [if_pos (by omega), if_pos (by rw [w64 (by omega) (by omega), u64w (by omega) (by omega)]; omega), if_pos (by omega), shr_at (by omega), w64 (by omega) (by omega), num_l1 j _ k (by omega) (by omega) (by simp; omega)]
    rw [low, List.map_cons, List.append_assoc]
    rfl
theorem div_pos_iff {n i : Nat} (h : n < 256 ^ 8) : 0 < n / 256 ^ i ↔ i < blen n := by
  constructor
  · intro h1
    have h2 : 256 ^ i ≤ n := (Nat.div_pos_iff.1 h1).2
    have h3 := lt_blen 8 n h
    exact (Nat.pow_lt_pow_iff_right (by decide : 1 < 256)).1 (Nat.lt_of_le_of_lt h2 h3)
  · intro h1
    obtain ⟨m, hm⟩ : ∃ m, blen n = m + 1 := ⟨blen n - 1, by omega⟩
    have h2 := le_blen m n hm
    have h3 : 256 ^ i ≤ 256 ^ m := Nat.pow_le_pow_right (by decide) (by omega)
    exact Nat.div_pos (Nat.le_trans h3 h2) (Nat.pow_pos (by decide))
theorem num_l0 {n : Nat} (h : n < 256 ^ 8) (h1 : 247 < n) : ∀ (d i k : Nat), blen n - i = d → 1 ≤ i → i ≤ blen n → d + 12 ≤ k → auspiceref01_Num.l0 k n i = some (numB n)
  | d, i, k, hd, hi, hb, hk => by
    have h8 := blen_lt 8 n h
    obtain ⟨k, rfl⟩ : ∃ m, k = m + 1 := ⟨k - 1, by omega⟩
    have fin : i = blen n → auspiceref01_Num.j1 k n i = some (numB n) := by
      intro e
      obtain ⟨k, rfl⟩ : ∃ m, k = m + 1 := ⟨k - 1, by omega⟩
      simp only [auspiceref01_Num.j1]
      rw [w64 (n := 247 + (i : Int)) (by omega) (by omega), w64 (by omega) (by omega), num_l1 i _ k (by omega) (by omega) (by simp; omega), e]
      congr 1
      unfold numB numL strN
      rw [if_neg (by omega), List.map_cons]
      have : (247 + (blen n : Int)) % 256 = Int.ofNat (247 + blen n) := by simp; omega
      rw [this]
      rfl
    simp only [auspiceref01_Num.l0]
    by_cases h9 : i < 8
    · rw [if_pos (by omega), if_pos (by rw [w64 (by omega) (by omega), u64w (by omega) (by omega)]; omega), shr_at (by omega)]
      by_cases hp : i < blen n
      · have := (div_pos_iff (i := i) h).2 hp
        rw [if_pos (by omega), w64 (by omega) (by omega)]
        have e : (i : Int) + 1 = ((i + 1 : Nat) : Int) := by omega
        rw [e]
        cases d with
        | zero => omega
        | succ d => exact num_l0 h h1 d (i + 1) k (by omega) (by omega) (by omega) (by omega)
      · have : ¬ 0 < n / 256 ^ i := fun e => hp ((div_pos_iff h).1 e)
        rw [if_neg (by omega)]
        exact fin (by omega)
    · rw [if_neg (by omega)]
      exact fin (by omega)
theorem num_f {n : Nat} (h : n < 18446744073709551616) {k : Nat} (hk : 24 ≤ k) : auspiceref01_Num.f k n = some (numB n) := by
  have e8 : (256 : Nat) ^ 8 = 18446744073709551616 := by decide
  unfold auspiceref01_Num.f
  by_cases h1 : n ≤ 247
  · rw [if_pos (by omega)]
    congr 1
    unfold numB numL strN
    rw [if_pos h1]
    have : ((n : Int)) % 256 = Int.ofNat n := by simp; omega
    rw [this]
    rfl
  · rw [if_neg (by omega)]
    have h8 := blen_lt 8 n (by rw [e8]; exact h)
    have hp : 1 ≤ blen n := by
      rw [blen_pos (by omega)]
      omega
    exact num_l0 (by rw [e8]; exact h) (by omega) (blen n - 1) 1 k rfl (by omega) hp (by omega)
theorem toList_nil (s : ByteArray) : s.toList = ([] : List UInt8) ↔ s.size = 0 := by
  have h := empty_test s
  constructor
  · intro e
    rw [e] at h
    simpa using h
  · intro e
    rw [decide_eq_true e] at h
    simpa using h
theorem toList_eq (a b : ByteArray) : a.toList = b.toList ↔ a = b := by
  rw [ByteArray.toList_eq, ByteArray.toList_eq]
  exact ⟨Fm.data_inj, fun e => by rw [e]⟩
theorem numB_len (n : Nat) : (numB n).size = if n ≤ 247 then 1 else 1 + blen n := by
  unfold numB
  rw [strN_size]
  unfold numL
  split
  · rfl
  · rw [List.length_cons, low_length]; omega
/-- The bytes of a number behind its first one. -/
def tailOf (s : ByteArray) (k : Nat) : List Nat := ((bytesL s).drop 1).take k
theorem tailOf_succ {s : ByteArray} {i : Nat} (h : i + 1 < s.size) : beOf (tailOf s (i + 1)) = beOf (tailOf s i) * 256 + byteAt s (i + 1) := by
  have hx : ((bytesL s).drop 1)[i]? = some (byteAt s (i + 1)) := by
    rw [List.getElem?_drop, Nat.add_comm 1 i, bytesL_at s (i + 1) h, byteAt_eq h]
  exact be_step hx
theorem tailOf_lt (s : ByteArray) (k : Nat) : beOf (tailOf s k) < 256 ^ k := by
  have h1 : ∀ x ∈ tailOf s k, x < 256 := fun x hx => bytesL_lt s x (List.mem_of_mem_drop (List.mem_of_mem_take hx))
  have h2 := beOf_lt h1
  have h3 : (tailOf s k).length ≤ k := List.length_take_le _ _
  exact Nat.lt_of_lt_of_le h2 (Nat.pow_le_pow_right (by decide) h3)
theorem tail_canon {s : ByteArray} {K : Nat} (h0 : ¬ byteAt s 0 ≤ 247) (hK : K = byteAt s 0 - 247) (hs : K < s.size) : (numB (beOf (tailOf s K)) = s.extract 0 (K + 1)) ↔ ¬ (byteAt s 1 = 0 ∨ beOf (tailOf s K) ≤ 247) := by
  have hb := byteAt_lt s 0
  have hsz : (s.extract 0 (K + 1)).size = K + 1 := by simp; omega
  constructor
  · intro e
    have hz := congrArg ByteArray.size e
    rw [numB_len, hsz] at hz
    have hn : ¬ beOf (tailOf s K) ≤ 247 := by
      intro h
      rw [if_pos h] at hz
      omega
    rw [if_neg hn] at hz
    intro h
    rcases h with h | h
    · obtain ⟨m, rfl⟩ : ∃ m, K = m + 1 := ⟨K - 1, by omega⟩
      have h1 := le_blen m _ (by omega : blen (beOf (tailOf s (m + 1))) = m + 1)
      have hh : tailOf s (m + 1) = byteAt s 1 :: (tailOf s (m + 1)).drop 1 := by
        unfold tailOf
        have hx : ((bytesL s).drop 1)[0]? = some (byteAt s 1) := by
          rw [List.getElem?_drop, bytesL_at s 1 (by omega), byteAt_eq (by omega)]
        cases hd : (bytesL s).drop 1 with
        | nil => rw [hd] at hx; simp at hx
        | cons x r =>
          rw [hd] at hx
          simp only [List.getElem?_cons_zero, Option.some.injEq] at hx
          subst hx
          simp
      have hl : ((tailOf s (m + 1)).drop 1).length ≤ m := by
        have : (tailOf s (m + 1)).length ≤ m + 1 := List.length_take_le _ _
        rw [List.length_drop]
        omega
      have h2 : beOf (tailOf s (m + 1)) < 256 ^ m := by
        rw [hh, h, beOf_cons, Nat.zero_mul, Nat.zero_add]
        have h3 := beOf_lt (l := (tailOf s (m + 1)).drop 1) (fun x hx => bytesL_lt s x (List.mem_of_mem_drop (List.mem_of_mem_take (List.mem_of_mem_drop hx))))
        exact Nat.lt_of_lt_of_le h3 (Nat.pow_le_pow_right (by decide) hl)
      omega
    · exact hn h
  · intro h
    have hn : numOf s = (beOf (tailOf s K), K + 1, 0) := by
      unfold numOf tailOf
      unfold tailOf at h
      rw [if_neg (by omega), if_neg h0, if_neg (by omega), ← hK, if_neg h]
    have hb2 := num_back (s := s) (by rw [hn])
    rw [hn] at hb2
    simp only at hb2
    have hz := congrArg ByteArray.size hb2
    rw [ByteArray.size_append] at hz
    have hz2 : (s.extract (K + 1) s.size).size = s.size - (K + 1) := by simp
    have hz3 : (numB (beOf (tailOf s K))).size = K + 1 := by omega
    generalize numB (beOf (tailOf s K)) = x at *
    generalize s.extract (K + 1) s.size = y at *
    subst hb2
    rw [← hz3, extract_left]
theorem ahead_l0 {s : ByteArray} {K : Nat} (h0 : ¬ byteAt s 0 ≤ 247) (hK : K = byteAt s 0 - 247) (hs : K < s.size) (hsz : s.size ≤ 1099511627776) : ∀ (d i k : Nat), K - i = d → i ≤ K → d + 26 ≤ k →
    auspiceref01_ahead.l0 k s K (beOf (tailOf s i)) ((i + 1 : Nat) : Int) = some (((numOf s).1 : Int), ((numOf s).2.1 : Int), (numOf s).2.2)
  | d, i, k, hd, hi, hk => by
    have hb := byteAt_lt s 0
    obtain ⟨k, rfl⟩ : ∃ m, k = m + 1 := ⟨k - 1, by omega⟩
    simp only [auspiceref01_ahead.l0]
    have hlt := tailOf_lt s i
    have hp : (256 : Nat) ^ i ≤ 256 ^ 8 := Nat.pow_le_pow_right (by decide) (by omega)
    have e8 : (256 : Nat) ^ 8 = 18446744073709551616 := by decide
    by_cases h1 : i < K
    · have hp7 : (256 : Nat) ^ i ≤ 256 ^ 7 := Nat.pow_le_pow_right (by decide) (by omega)
      have e7 : (256 : Nat) ^ 7 = 72057594037927936 := by decide
      have hby := byteAt_lt s (i + 1)
      rw [if_pos (by omega), if_pos (by omega), if_pos (by omega), bt_at (by omega), u64w (n := 256 * ((beOf (tailOf s i) : Nat) : Int)) (by omega) (by omega), u64w (n := ((byteAt s (i + 1) : Nat) : Int)) (by omega) (by omega), u64w (by omega) (by omega), w64 (by omega) (by omega)]
      have e : 256 * ((beOf (tailOf s i) : Nat) : Int) + ((byteAt s (i + 1) : Nat) : Int) = ((beOf (tailOf s (i + 1)) : Nat) : Int) := by
        rw [tailOf_succ (by omega)]
        omega
      have e2 : ((i + 1 : Nat) : Int) + 1 = ((i + 1 + 1 : Nat) : Int) := by omega
      rw [e, e2]
      cases d with
      | zero => omega
      | succ d => exact ahead_l0 h0 hK hs hsz d (i + 1) k (by omega) (by omega) (by omega)
    · have hi2 : i = K := by omega
      subst hi2
      have hc := tail_canon h0 hK hs
      rw [if_neg (by omega), num_f (by omega) (by omega), Option.bind_some, w64 (by omega) (by omega), if_pos (by omega), if_pos (by omega)]
      have et : ((i : Int) + 1).toNat = i + 1 := by omega
      rw [et]
      by_cases hq : numB (beOf (tailOf s i)) = s.extract 0 (i + 1)
      · rw [if_pos ((toList_eq _ _).2 hq)]
        have hn : numOf s = (beOf (tailOf s i), i + 1, 0) := by
          have h := hc.1 hq
          unfold numOf tailOf
          unfold tailOf at h
          rw [if_neg (by omega), if_neg h0, if_neg (by omega), ← hK, if_neg h]
        rw [hn]
        rfl
      · rw [if_neg (fun e => hq ((toList_eq _ _).1 e))]
        have hn : numOf s = (0, 0, 3) := by
          have h : byteAt s 1 = 0 ∨ beOf (tailOf s i) ≤ 247 := Decidable.byContradiction fun e => hq (hc.2 e)
          unfold numOf
          unfold tailOf at h
          rw [if_neg (by omega), if_neg h0, if_neg (by omega), ← hK, if_pos h]
        rw [hn]
        rfl
theorem ahead_f {s : ByteArray} (hsz : s.size ≤ 1099511627776) {k : Nat} (hk : 40 ≤ k) : auspiceref01_ahead.f k s = some (((numOf s).1 : Int), ((numOf s).2.1 : Int), (numOf s).2.2) := by
  unfold auspiceref01_ahead.f
  by_cases h : s.size = 0
  · rw [if_pos ((toList_nil s).2 h)]
    have hn : numOf s = (0, 0, 5) := by unfold numOf; rw [if_pos h]
    rw [hn]
    rfl
  · rw [if_neg (fun e => h ((toList_nil s).1 e)), if_pos (by omega)]
    have hb := byteAt_lt s 0
    have e0 : YtjobmlnekpaagaaDoorW.PrintWords.bt s 0 = byteAt s 0 := bt_at (i := 0) (by omega)
    rw [e0, w64 (n := ((byteAt s 0 : Nat) : Int)) (by omega) (by omega), w64 (n := ((byteAt s 0 : Nat) : Int) - 247) (by omega) (by omega)]
    by_cases h1 : byteAt s 0 ≤ 247
    · rw [if_pos (by omega), u64w (by omega) (by omega)]
      have hn : numOf s = (byteAt s 0, 1, 0) := by unfold numOf; rw [if_neg h, if_pos h1]
      rw [hn]
      rfl
    · rw [if_neg (by omega), w64 (by omega) (by omega)]
      by_cases h2 : s.size ≤ byteAt s 0 - 247
      · rw [if_pos (by omega)]
        have hn : numOf s = (0, 0, 5) := by unfold numOf; rw [if_neg h, if_neg h1, if_pos h2]
        rw [hn]
        rfl
      · rw [if_neg (by omega)]
        have e : ((byteAt s 0 : Nat) : Int) - 247 = ((byteAt s 0 - 247 : Nat) : Int) := by omega
        rw [e]
        exact ahead_l0 h1 rfl (by omega) hsz (byteAt s 0 - 247) 0 k (by omega) (by omega) (by omega)
theorem tapeNum_f {s : ByteArray} (hsz : s.size ≤ 1099511627776) (e : Int) {k : Nat} (hk : 40 ≤ k) : auspiceref01_Tape_Num.f k s e = some ((tapeNum s e).1, (tapeNum s e).2.1, ((tapeNum s e).2.2 : Int)) := by
  unfold auspiceref01_Tape_Num.f tapeNum
  by_cases h : e = 0
  · rw [if_pos h, ahead_f hsz hk, Option.bind_some, if_pos h]
    have := numOf_le s
    simp only
    rw [if_pos (by omega), if_pos (by omega)]
    simp
  · rw [if_neg h, if_neg h]
    rfl
theorem tapeInt_f {s : ByteArray} (hsz : s.size ≤ 1099511627776) (e : Int) {k : Nat} (hk : 40 ≤ k) : auspiceref01_Tape_Int.f k s e = some ((tapeNum s e).1, (tapeNum s e).2.1, unfolded (tapeNum s e).2.2) := by
  unfold auspiceref01_Tape_Int.f
  have hl := tapeNum_lt s e
  rw [tapeNum_f hsz e hk, Option.bind_some]
  generalize tapeNum s e = r at *
  obtain ⟨s', e', n⟩ := r
  simp only at hl ⊢
  have ed : Int.tdiv (n : Int) 2 = ((n / 2 : Nat) : Int) := by rw [Int.tdiv_eq_ediv_of_nonneg (by omega)]; omega
  have em : Int.tmod (n : Int) 2 = ((n % 2 : Nat) : Int) := by rw [Int.tmod_eq_emod_of_nonneg (by omega)]; omega
  unfold unfolded
  rw [ed, em, u64w (by omega) (by omega), w64 (by omega) (by omega)]
  by_cases h2 : n % 2 = 0
  · rw [if_pos (by omega), if_pos h2]
  · rw [if_neg (by omega), if_neg h2, w64 (n := -((n / 2 : Nat) : Int)) (by omega) (by omega), w64 (by omega) (by omega)]
    congr 3
    omega
theorem number_f {n : Nat} (h : n < 18446744073709551616) : auspiceref07_number.f n = some (numberOf n) := by
  unfold auspiceref07_number.f numberOf
  by_cases h1 : 549755813888 < n
  · rw [if_pos (by omega), if_pos h1]
  · rw [if_neg (by omega), if_neg h1, w64 (by omega) (by omega)]
theorem tapeEnd_f (s : ByteArray) (e : Int) : auspiceref01_Tape_End.f s e = some (tapeEnd s e) := by
  unfold auspiceref01_Tape_End.f tapeEnd
  by_cases h : e = 0
  · rw [if_pos h]
    by_cases h1 : s.size = 0
    · rw [if_pos ((toList_nil s).2 h1), if_neg (fun h => h.2 h1)]
    · rw [if_neg (fun e => h1 ((toList_nil s).1 e)), if_pos ⟨h, h1⟩]
  · rw [if_neg h, if_neg (fun e => h e.1)]
theorem voted_f (v : Vt) : auspiceref07_Voted.f v.term v.to = some v.may := by
  obtain ⟨t, f⟩ := v
  have h := Vt.may_iff (v := ⟨t, f⟩)
  simp only at h
  have h2 : (⟨t, f⟩ : Vt).may = decide ((0 ≤ t ∧ t ≤ 549755813888) ∧ -1 ≤ f ∧ f < 7) := by
    rw [Bool.eq_iff_iff, h, decide_eq_true_eq]
  rw [h2]
  clear h h2
  unfold auspiceref07_Voted.f
  simp only
  by_cases a : 0 ≤ t
  · rw [if_pos a]
    by_cases b : t ≤ 549755813888
    · rw [if_pos b]
      by_cases c : f ≥ -1
      · rw [if_pos c]
        congr 1
        exact decide_eq_decide.2 (by omega)
      · rw [if_neg c]
        congr 1
        exact (decide_eq_false (by omega)).symm
    · rw [if_neg b]
      congr 1
      exact (decide_eq_false (by omega)).symm
  · rw [if_neg a]
    congr 1
    exact (decide_eq_false (by omega)).symm
theorem may_f (v : Sn) : auspiceref07_May.f v.index v.term v.mask v.text = some v.may := by
  obtain ⟨i, t, m, x⟩ := v
  have h := Sn.may_iff (s := ⟨i, t, m, x⟩)
  simp only at h
  have h2 : (⟨i, t, m, x⟩ : Sn).may = decide ((0 ≤ i ∧ i ≤ 549755813888) ∧ (0 ≤ t ∧ t ≤ 549755813888) ∧ (0 ≤ m ∧ m ≤ 127) ∧ x.size ≤ 262144) := by
    rw [Bool.eq_iff_iff, h, decide_eq_true_eq]
  rw [h2]
  clear h h2
  unfold auspiceref07_May.f
  simp only
  by_cases a : 0 ≤ i
  · rw [if_pos a]
    by_cases b : i ≤ 549755813888
    · rw [if_pos b]
      by_cases a2 : 0 ≤ t
      · rw [if_pos a2]
        by_cases b2 : t ≤ 549755813888
        · rw [if_pos b2]
          by_cases a3 : 0 ≤ m
          · rw [if_pos a3]
            by_cases b3 : m ≤ 127
            · rw [if_pos b3]
              congr 1
              exact decide_eq_decide.2 (by omega)
            · rw [if_neg b3]
              congr 1
              exact (decide_eq_false (by omega)).symm
          · rw [if_neg a3]
            congr 1
            exact (decide_eq_false (by omega)).symm
        · rw [if_neg b2]
          congr 1
          exact (decide_eq_false (by omega)).symm
      · rw [if_neg a2]
        congr 1
        exact (decide_eq_false (by omega)).symm
    · rw [if_neg b]
      congr 1
      exact (decide_eq_false (by omega)).symm
  · rw [if_neg a]
    congr 1
    exact (decide_eq_false (by omega)).symm
theorem readVote_f {s : ByteArray} (hsz : s.size ≤ 1099511627776) {k : Nat} (hk : 40 ≤ k) : auspiceref07_ReadVote.f k s = some ((readVote s).1.term, (readVote s).1.to, (readVote s).2) := by
  unfold auspiceref07_ReadVote.f
  have h1 := tapeNum_size s 0
  rw [tapeNum_f hsz 0 hk, Option.bind_some]
  simp only
  rw [tapeInt_f (by omega) _ hk, Option.bind_some, number_f (tapeNum_lt _ _), Option.bind_some]
  simp only
  rw [tapeEnd_f, Option.bind_some]
  have hv := voted_f (tapeVote s 0).2.2
  unfold readVote
  unfold tapeVote at hv ⊢
  simp only at hv ⊢
  by_cases h2 : tapeEnd (tapeNum (tapeNum s 0).1 (tapeNum s 0).2.1).1 (tapeNum (tapeNum s 0).1 (tapeNum s 0).2.1).2.1 = 0
  · rw [if_pos h2, hv, Option.bind_some]
    by_cases h3 : (⟨numberOf (tapeNum s 0).2.2, unfolded (tapeNum (tapeNum s 0).1 (tapeNum s 0).2.1).2.2⟩ : Vt).may = true
    · rw [if_pos h3, if_pos ⟨h2, h3⟩]
    · rw [if_neg h3, if_neg (fun h => h3 h.2)]
  · rw [if_neg h2, if_neg (fun h => h2 h.1)]
theorem tapeText_f {s : ByteArray} (hsz : s.size ≤ 1099511627776) (e : Int) {m k : Nat} (hm : m ≤ 1099511627776) (hk : 41 ≤ k) : auspiceref01_Tape_Text.f k s e m = some (tapeText s e m) := by
  unfold auspiceref01_Tape_Text.f tapeText
  by_cases h : e = 0
  · subst h
    rw [if_pos rfl, ahead_f hsz (by omega), Option.bind_some, if_neg (show ¬ ((0 : Int) ≠ 0) by simp)]
    have hle := numOf_le s
    have hlt := numOf_lt s
    generalize numOf s = r at *
    obtain ⟨n, c, e2⟩ := r
    simp only at hle hlt ⊢
    by_cases h2 : e2 = 0
    · subst h2
      rw [if_pos rfl, if_neg (by omega), if_neg (show ¬ ((0 : Int) ≠ 0) by simp), u64w (by omega) (by omega)]
      obtain ⟨k, rfl⟩ : ∃ m, k = m + 1 := ⟨k - 1, by omega⟩
      simp only [auspiceref01_Tape_Text.j0]
      have hw : wrap64 ((s.size : Int) - c) = ((s.size - c : Nat) : Int) := by rw [w64 (by omega) (by omega)]; omega
      rw [hw, u64w (by omega) (by omega)]
      by_cases h3 : m < n
      · rw [if_pos (by simp; omega), if_pos (by omega), if_pos h3]
        rfl
      · rw [if_neg (by simp; omega), if_neg h3]
        by_cases h4 : s.size - c < n
        · rw [if_pos (by omega), if_pos h4]
          rfl
        · have hw2 : wrap64 ((c : Int) + wrap64 (n : Int)) = ((c + n : Nat) : Int) := by rw [w64 (n := (n : Int)) (by omega) (by omega), w64 (by omega) (by omega)]; omega
          rw [if_neg (by omega), if_neg h4, hw2, if_pos (by omega), if_pos (by omega), if_pos (by omega), if_pos (by omega), Int.toNat_natCast, Int.toNat_natCast]
    · rw [if_neg h2, if_pos h2]
      rfl
  · rw [if_neg h, if_pos h]
    rfl
theorem tapeText_size (s : ByteArray) (e : Int) (m : Nat) : (tapeText s e m).1.size ≤ s.size := by
  unfold tapeText
  split
  · exact Nat.le_refl _
  · split
    · exact Nat.le_refl _
    · split
      · exact Nat.le_refl _
      · split
        · exact Nat.le_refl _
        · simp
theorem readSnap_f {s : ByteArray} (hsz : s.size ≤ 1099511627776) {k : Nat} (hk : 41 ≤ k) : auspiceref07_ReadSnap.f k s = some ((readSnap s).1.index, (readSnap s).1.term, (readSnap s).1.mask, (readSnap s).1.text, (readSnap s).2) := by
  unfold auspiceref07_ReadSnap.f
  have hv := may_f (tapeSnap s 0).2.2
  unfold readSnap
  unfold tapeSnap at hv ⊢
  simp only at hv ⊢
  have h1 := tapeNum_size s 0
  rw [tapeNum_f hsz 0 (by omega), Option.bind_some]
  have l1 := tapeNum_lt s 0
  generalize tapeNum s 0 = a at *
  have h2 := tapeNum_size a.1 a.2.1
  simp only
  rw [tapeNum_f (by omega) _ (by omega), Option.bind_some]
  have l2 := tapeNum_lt a.1 a.2.1
  generalize tapeNum a.1 a.2.1 = b at *
  have h3 := tapeNum_size b.1 b.2.1
  simp only
  rw [tapeNum_f (by omega) _ (by omega), Option.bind_some]
  have l3 := tapeNum_lt b.1 b.2.1
  generalize tapeNum b.1 b.2.1 = c at *
  simp only
  have ht := tapeText_f (s := c.1) (by omega) c.2.1 (m := 262144) (k := k) (by decide) hk
  have ht' : auspiceref01_Tape_Text.f k c.1 c.2.1 262144 = some (tapeText c.1 c.2.1 262144) := ht
  rw [ht', Option.bind_some]
  generalize tapeText c.1 c.2.1 262144 = x at *
  rw [number_f l1, Option.bind_some, number_f l2, Option.bind_some, number_f l3, Option.bind_some, tapeEnd_f, Option.bind_some]
  by_cases g : tapeEnd x.1 x.2.1 = 0
  · rw [if_pos g, hv, Option.bind_some]
    by_cases h3 : (⟨numberOf a.2.2, numberOf b.2.2, numberOf c.2.2, x.2.2⟩ : Sn).may = true
    · rw [if_pos h3, if_pos ⟨g, h3⟩]
    · rw [if_neg h3, if_neg (fun h => h3 h.2)]
      rfl
  · rw [if_neg g, if_neg (fun h => g h.1)]
    rfl
end PR
end Go.Proofs.YtjobmlnekpaagaaDoor
