/- Merged texts: tapes; what is read and loaded. -/
import Derived.Test.YtjobmlnekpaagaaDoorMD
import Derived.Laws.IdiomStrings
import Derived.Laws.DeepNot64
/-! ### bits.Tape's num, walked. -/
namespace Go.Proofs.YtjobmlnekpaagaaDoor
open Go Go.RowKit Go.Maps
set_option linter.unusedVariables false

/-- Bytes as one number, the greatest first. -/
def beOf (l : List Nat) : Nat := l.foldl (fun n b => n * 256 + b) 0
def numOf (s : ByteArray) : Nat × Nat × Int :=
  if s.size = 0 then (0, 0, 5)
  else if byteAt s 0 ≤ 247 then (byteAt s 0, 1, 0)
  else if s.size ≤ byteAt s 0 - 247 then (0, 0, 5)
  else if byteAt s 1 = 0 ∨ beOf (((bytesL s).drop 1).take (byteAt s 0 - 247)) ≤ 247 then (0, 0, 3)
  else (beOf (((bytesL s).drop 1).take (byteAt s 0 - 247)), byteAt s 0 - 247 + 1, 0)
theorem beGo_lt : ∀ (l : List Nat) (n k : Nat), (∀ x ∈ l, x < 256) → n < 256 ^ k → l.foldl (fun n b => n * 256 + b) n < 256 ^ (k + l.length)
  | [], n, k, _, h => h
  | b :: l, n, k, hl, h => by
    rw [List.foldl_cons, List.length_cons, show k + (l.length + 1) = (k + 1) + l.length by omega]
    refine beGo_lt l _ _ (fun x hx => hl x (List.mem_cons_of_mem _ hx)) ?_
    have := hl b (by simp)
    rw [Nat.pow_succ]
    have : n + 1 ≤ 256 ^ k := h
    have := Nat.mul_le_mul_right 256 this
    omega
set_option maxRecDepth 100000 in
set_option maxHeartbeats 800000 in
theorem tnum_empty {w : World} {b : Nat} {s : ByteArray} {t : Int} (h : TapeAt w b s t) (hs : s.size = 0) : Calls Tryd.prog 96 #[.pointer (some ⟨b, 0, none⟩)] w fun e w' => e = .returned (.tuple #[.int .u64 0, .int .i64 0, .int .i64 5]) ∧ w = w' := by
  have c0 := h.c0
  clear h
  have g2 : (s.toList == ([] : List UInt8)) = true := by rw [empty_test]; exact decide_eq_true hs
  go_enter Tryd.func96, Tryd.ntmps96
  go_wp2_with fail
  go_ret3
  exact ⟨rfl, rfl⟩
set_option maxRecDepth 100000 in
set_option maxHeartbeats 800000 in
theorem tnum_small {w : World} {b : Nat} {s : ByteArray} {t : Int} (h : TapeAt w b s t) (hs : 0 < s.size) (hc : byteAt s 0 ≤ 247) : Calls Tryd.prog 96 #[.pointer (some ⟨b, 0, none⟩)] w fun e w' => e = .returned (.tuple #[.int .u64 (byteAt s 0), .int .i64 1, .int .i64 0]) ∧ w = w' := by
  have c0 := h.c0
  clear h
  have g2 : (s.toList == ([] : List UInt8)) = false := by rw [empty_test]; exact decide_eq_false (by omega)
  have p0 : (0 : Int) < (s.size : Int) := by omega
  rw [← byteAt_eq hs] at hc
  rw [← byteAt_eq hs]
  have g3 : decide ((s[0].toNat : Int) ≤ 247) = true := decide_eq_true (by omega)
  go_enter Tryd.func96, Tryd.ntmps96
  go_wp2_with fail
  go_ret3
  exact ⟨rfl, rfl⟩
set_option maxRecDepth 100000 in
set_option maxHeartbeats 800000 in
theorem tnum_short {w : World} {b : Nat} {s : ByteArray} {t : Int} (h : TapeAt w b s t) (hs : 0 < s.size) (hc : ¬ byteAt s 0 ≤ 247) (hk : s.size ≤ byteAt s 0 - 247) : Calls Tryd.prog 96 #[.pointer (some ⟨b, 0, none⟩)] w fun e w' => e = .returned (.tuple #[.int .u64 0, .int .i64 0, .int .i64 5]) ∧ w = w' := by
  have c0 := h.c0
  clear h
  have hb := byteAt_lt s 0
  have g2 : (s.toList == ([] : List UInt8)) = false := by rw [empty_test]; exact decide_eq_false (by omega)
  have p0 : (0 : Int) < (s.size : Int) := by omega
  rw [← byteAt_eq hs] at hc hk hb
  have g3 : decide ((s[0].toNat : Int) ≤ 247) = false := decide_eq_false (by omega)
  have g4 : decide ((s.size : Int) ≤ (s[0].toNat : Int) - 247) = true := decide_eq_true (by omega)
  go_enter Tryd.func96, Tryd.ntmps96
  go_wp2_with fail
  go_ret3
  exact ⟨rfl, rfl⟩
theorem bytesL_extract (s : ByteArray) (a b : Nat) : bytesL (s.extract a b) = ((bytesL s).drop a).take (b - a) := by
  unfold bytesL
  rw [ByteArray.data_extract, Array.toList_extract, List.map_take, List.map_drop]
theorem be_step {L : List Nat} {i x : Nat} (h : L[i]? = some x) : beOf (L.take (i + 1)) = beOf (L.take i) * 256 + x := by
  unfold beOf
  rw [List.take_add_one, h, Option.toList_some, List.foldl_append]
  rfl
theorem or_byte (a x : Nat) (hx : x < 256) : (a * 256) ||| x = a * 256 + x := by
  have e8 : (2 : Nat) ^ 8 = 256 := by decide
  have h := Nat.shiftLeft_add_eq_or_of_lt (b := x) (i := 8) (by rw [e8]; exact hx) a
  rw [Nat.shiftLeft_eq, e8] at h
  exact h.symm
set_option maxRecDepth 100000 in
set_option maxHeartbeats 4000000 in
theorem tnum_long {w : World} {b : Nat} {s : ByteArray} {t : Int} (h : TapeAt w b s t) (hsz : s.size ≤ 1099511627776) (hs : 0 < s.size) (hc : ¬ byteAt s 0 ≤ 247) (hk : ¬ s.size ≤ byteAt s 0 - 247) : Calls Tryd.prog 96 #[.pointer (some ⟨b, 0, none⟩)] w fun e w' => e = .returned (.tuple #[.int .u64 (numOf s).1, .int .i64 (numOf s).2.1, .int .i64 (numOf s).2.2]) ∧ Kept (fun _ => False) w w' := by
  have c0 := h.c0
  have H := Lib.hid h
  clear h
  have hb := byteAt_lt s 0
  have g2 : (s.toList == ([] : List UInt8)) = false := by rw [empty_test]; exact decide_eq_false (by omega)
  have p0 : (0 : Int) < (s.size : Int) := by omega
  have hx := byteAt_eq hs
  obtain ⟨k, hk1⟩ : ∃ k, byteAt s 0 = 247 + k := ⟨byteAt s 0 - 247, by omega⟩
  have HN : Hid (numOf s = if byteAt s 1 = 0 ∨ beOf (((bytesL s).drop 1).take k) ≤ 247 then (0, 0, 3) else (beOf (((bytesL s).drop 1).take k), k + 1, 0)) := by
    unfold Hid numOf
    rw [if_neg (by omega), if_neg hc, if_neg hk, hk1, Nat.add_sub_cancel_left]
  rw [← hx] at hc hk hb hk1
  have hkp : 1 ≤ k := by omega
  have hk8 : k ≤ 8 := by omega
  have hks : k + 1 ≤ s.size := by omega
  clear hx hc hk hb
  have e1 : ((247 + k : Nat) : Int) = 247 + (k : Int) := by omega
  have e2 : (247 + (k : Int)) - 247 = k := by omega
  have g3 : decide ((247 + (k : Int)) ≤ 247) = false := decide_eq_false (by omega)
  have g4 : decide ((s.size : Int) ≤ (k : Int)) = false := decide_eq_false (by omega)
  have r1 : (1 : Int) ≤ (k : Int) + 1 := by omega
  have r2 : (k : Int) + 1 ≤ (s.size : Int) := by omega
  have hcv := fun w => run_bytes_of_string (P := Tryd.prog) w 9 124 5 (s.extract 1 (k + 1)) uT_str uT_bytes uT_byte
  go_enter Tryd.func96, Tryd.ntmps96
  go_wp2_with fail
  obtain ⟨L, hL⟩ : ∃ L, L = ((bytesL s).drop 1).take k := ⟨_, rfl⟩
  have hLl : L.length = k := by rw [hL]; simp [bytesL_length]; omega
  have hLb : ∀ x ∈ L, x < 256 := fun x hx => bytesL_lt s x (by rw [hL] at hx; exact List.mem_of_mem_drop (List.mem_of_mem_take hx))
  have hsz1 : (s.extract 1 (k + 1)).data.size = k := by
    rw [ByteArray.data_extract]
    have : s.data.size = s.size := rfl
    simp
    omega
  have hcell : ∀ (C : Nat) (o : Nat × Nat) (i x : Nat), L[i]? = some x → (w.alloc (.cells (bytesRow (s.extract 1 (k + 1)) C) 5 o)).drew.cell? ⟨w.heap.size, i, none⟩ = some (.int .u8 x) := by
    intro C o i x hi
    have hik : i < k := by rw [← hLl]; exact (List.getElem?_eq_some_iff.1 hi).1
    have e : (w.alloc (.cells (bytesRow (s.extract 1 (k + 1)) C) 5 o)).drew.heap[w.heap.size]? = some (.cells (bytesRow (s.extract 1 (k + 1)) C) 5 o) := (MapKept.heap_alloc w _).1
    rw [cell_of_block e, bytesRow_at _ _ _ (by rw [hsz1]; exact hik)]
    have h1 := bytesL_at (s.extract 1 (k + 1)) i (by show i < (s.extract 1 (k + 1)).data.size; rw [hsz1]; exact hik)
    rw [bytesL_extract, Nat.add_sub_cancel, ← hL, hi] at h1
    have h2 := Option.some.inj h1
    rw [h2]
    rfl
  have HC := Lib.hid hcell
  rw [← hL] at HN
  have hkw : ∀ (o : Obj), Kept (fun _ => False) w (w.alloc o).drew := fun o => ((Kept.refl _ _).alloc o).drew
  have HKW := Lib.hid hkw
  have h1b : L[0]? = some (byteAt s 1) := by
    rw [hL, List.getElem?_take_of_lt (by omega), List.getElem?_drop]
    have := bytesL_at s 1 (by omega)
    rw [Nat.add_zero, this, byteAt_eq (by omega)]
  clear hcell hkw hL hcv hsz1
  have HB1 := Lib.hid h1b
  have HLB := Lib.hid hLb
  have HT : Hid (∀ o : Obj, TapeAt (w.alloc o).drew b s t) := fun o => H.out.kept (HKW.out o) (fun f => f)
  have hcc := HC.out (grownCap w k 0 5) ((bytesRow (s.extract 1 (k + 1)) (grownCap w k 0 5)).size, (bytesRow (s.extract 1 (k + 1)) (grownCap w k 0 5)).size + 1)
  have hkk := HKW.out (.cells (bytesRow (s.extract 1 (k + 1)) (grownCap w k 0 5)) 5 ((bytesRow (s.extract 1 (k + 1)) (grownCap w k 0 5)).size, (bytesRow (s.extract 1 (k + 1)) (grownCap w k 0 5)).size + 1))
  have htt := HT.out (.cells (bytesRow (s.extract 1 (k + 1)) (grownCap w k 0 5)) 5 ((bytesRow (s.extract 1 (k + 1)) (grownCap w k 0 5)).size, (bytesRow (s.extract 1 (k + 1)) (grownCap w k 0 5)).size + 1))
  clear HC HKW HT
  generalize (w.alloc (.cells (bytesRow (s.extract 1 (k + 1)) (grownCap w k 0 5)) 5 ((bytesRow (s.extract 1 (k + 1)) (grownCap w k 0 5)).size, (bytesRow (s.extract 1 (k + 1)) (grownCap w k 0 5)).size + 1))).drew = W at *
  generalize grownCap w k 0 5 = C at *
  have hct := htt.c0
  have HCC := Lib.hid hcc
  have HKK := Lib.hid hkk
  clear hcc hkk htt h1b hLb c0
  go_loopw [7, 9, 43] (fun v7 v9 v43 wr => ∃ i : Nat, i ≤ k ∧ v43 = .int .i64 i ∧ v7 = .int .u64 (beOf (L.take i)) ∧ W = wr) (fun _ _ v43 _ => k - (intOf v43).toNat)
  case atStart => exact ⟨0, by omega, rfl, rfl, rfl⟩
  case round =>
    obtain ⟨i, hi, rfl, rfl, rfl⟩ := hrel
    by_cases hik : i < k
    · have hd : decide ((i : Int) < (k : Int)) = true := decide_eq_true (by omega)
      obtain ⟨x, hx⟩ : ∃ x, L[i]? = some x := ⟨_, List.getElem?_eq_getElem (by omega)⟩
      have hc := HCC.out i x hx
      have hx256 : x < 256 := HLB.out x (List.mem_of_getElem? hx)
      have HST := Lib.hid (be_step hx)
      have hacc : beOf (L.take i) < 72057594037927936 := by
        have h1 := beGo_lt (L.take i) 0 0 (fun y hy => HLB.out y (List.mem_of_mem_take hy)) (by simp)
        have h2 : (256 : Nat) ^ (0 + (L.take i).length) ≤ 256 ^ 7 := Nat.pow_le_pow_right (by decide) (by rw [List.length_take]; omega)
        have h3 : (256 : Nat) ^ 7 = 72057594037927936 := by decide
        unfold beOf
        omega
      generalize beOf (L.take i) = a at *
      have ho : bits .or .u64 ((a : Int) * 256) (x : Int) = ((a * 256 + x : Nat) : Int) := by
        have := u64_or_nat (a * 256) x (by omega) (by omega)
        rw [or_byte a x hx256] at this
        rw [← this]
        simp
      have hw1 : IntKind.u64.wrap ((a : Int) * 256) = (a : Int) * 256 := by rw [u64_wrap]; omega
      have hw2 : IntKind.u64.wrap (x : Int) = (x : Int) := by rw [u64_wrap]; omega
      clear hx
      go_wp2_with fail
      go_roundw
      case rel => exact ⟨i + 1, by omega, by simp, by rw [HST.out]; simp, trivial⟩
      case measure => simp [intOf]; omega
    · have hd : decide ((i : Int) < (k : Int)) = false := decide_eq_false (by omega)
      have he : i = k := by omega
      subst he
      rw [List.take_of_length_le (by omega)]
      have q1 : 1 < s.size := by omega
      have p1 : (1 : Int) < (s.size : Int) := by omega
      have e1b := byteAt_eq q1
      by_cases hz : byteAt s 1 = 0
      · have g5 : ((s[1].toNat : Int) == 0) = true := by rw [e1b, hz]; rfl
        have HR : Hid (numOf s = (0, 0, 3)) := by unfold Hid; rw [HN.out, if_pos (Or.inl hz)]
        clear HN e1b hz
        go_wp2_with fail
        go_ret3
        rw [HR.out]
        exact ⟨rfl, HKK.out⟩
      · have g5 : ((s[1].toNat : Int) == 0) = false := by rw [e1b]; exact beq_eq_false_iff_ne.2 (by omega)
        by_cases hl : beOf L ≤ 247
        · have g6 : decide ((beOf L : Int) ≤ 247) = true := decide_eq_true (by omega)
          have HR : Hid (numOf s = (0, 0, 3)) := by unfold Hid; rw [HN.out, if_pos (Or.inr hl)]
          clear HN e1b hz
          go_wp2_with fail
          go_ret3
          rw [HR.out]
          exact ⟨rfl, HKK.out⟩
        · have g6 : decide ((beOf L : Int) ≤ 247) = false := decide_eq_false (by omega)
          have HR : Hid (numOf s = (beOf L, i + 1, 0)) := by unfold Hid; rw [HN.out, if_neg (fun h => h.elim hz hl)]
          clear HN e1b hz
          go_wp2_with fail
          go_ret3
          rw [HR.out]
          exact ⟨rfl, HKK.out⟩
theorem tnum_any {w : World} {b : Nat} {s : ByteArray} {t : Int} (h : TapeAt w b s t) (hsz : s.size ≤ 1099511627776) : Calls Tryd.prog 96 #[.pointer (some ⟨b, 0, none⟩)] w fun e w' => e = .returned (.tuple #[.int .u64 (numOf s).1, .int .i64 (numOf s).2.1, .int .i64 (numOf s).2.2]) ∧ Kept (fun _ => False) w w' := by
  by_cases h0 : s.size = 0
  · have he : numOf s = (0, 0, 5) := by unfold numOf; rw [if_pos h0]
    rw [he]
    exact (tnum_empty h h0).mono fun e w' ⟨h1, h2⟩ => ⟨h1, h2 ▸ Kept.refl _ _⟩
  · by_cases h1 : byteAt s 0 ≤ 247
    · have he : numOf s = (byteAt s 0, 1, 0) := by unfold numOf; rw [if_neg h0, if_pos h1]
      rw [he]
      exact (tnum_small h (by omega) h1).mono fun e w' ⟨h1, h2⟩ => ⟨h1, h2 ▸ Kept.refl _ _⟩
    · by_cases h2 : s.size ≤ byteAt s 0 - 247
      · have he : numOf s = (0, 0, 5) := by unfold numOf; rw [if_neg h0, if_neg h1, if_pos h2]
        rw [he]
        exact (tnum_short h (by omega) h1 h2).mono fun e w' ⟨h1, h2⟩ => ⟨h1, h2 ▸ Kept.refl _ _⟩
      · exact tnum_long h hsz (by omega) h1 h2
end Go.Proofs.YtjobmlnekpaagaaDoor

/-! ### bits.Tape's Num and Int, walked. -/
namespace Go.Proofs.YtjobmlnekpaagaaDoor
open Go Go.RowKit Go.Maps
set_option linter.unusedVariables false

theorem numOf_le (s : ByteArray) : (numOf s).2.1 ≤ s.size := by
  unfold numOf
  split
  · simp
  · split
    · simp; omega
    · split
      · simp
      · split
        · simp
        · simp; omega
theorem numOf_lt (s : ByteArray) : (numOf s).1 < 18446744073709551616 := by
  have hb := byteAt_lt s 0
  unfold numOf
  split
  · simp
  · split
    · simp; omega
    · split
      · simp
      · split
        · simp
        · have h1 := beGo_lt (((bytesL s).drop 1).take (byteAt s 0 - 247)) 0 0 (fun y hy => bytesL_lt s y (List.mem_of_mem_drop (List.mem_of_mem_take hy))) (by simp)
          have h2 : (256 : Nat) ^ (0 + (((bytesL s).drop 1).take (byteAt s 0 - 247)).length) ≤ 256 ^ 8 := Nat.pow_le_pow_right (by decide) (by rw [List.length_take]; omega)
          have h3 : (256 : Nat) ^ 8 = 18446744073709551616 := by decide
          unfold beOf
          simp only
          omega
/-- Reading a number: what is left, the error, the number. -/
def tapeNum (s : ByteArray) (t : Int) : ByteArray × Int × Nat := if t = 0 then (s.extract (numOf s).2.1 s.size, (numOf s).2.2, (numOf s).1) else (s, t, 0)
theorem tapeNum_size (s : ByteArray) (t : Int) : (tapeNum s t).1.size ≤ s.size := by
  unfold tapeNum
  split
  · simp
  · exact Nat.le_refl _
theorem tapeNum_lt (s : ByteArray) (t : Int) : (tapeNum s t).2.2 < 18446744073709551616 := by
  unfold tapeNum
  split
  · exact numOf_lt s
  · simp
set_option maxRecDepth 100000 in
set_option maxHeartbeats 800000 in
theorem tNum_any {w : World} {b : Nat} {s : ByteArray} {t : Int} (h : TapeAt w b s t) (hsz : s.size ≤ 1099511627776) : Calls Tryd.prog 92 #[.pointer (some ⟨b, 0, none⟩)] w fun e w' => e = .returned (.int .u64 (tapeNum s t).2.2) ∧ TapeAt w' b (tapeNum s t).1 (tapeNum s t).2.1 ∧ Kept (fun j => j = b) w w' := by
  by_cases ht : t = 0
  · subst ht
    have he : tapeNum s 0 = (s.extract (numOf s).2.1 s.size, (numOf s).2.2, (numOf s).1) := by unfold tapeNum; rw [if_pos rfl]
    have hst := stuck_any h
    have hnm := tnum_any h hsz
    have hle := numOf_le s
    rw [he]
    clear he
    generalize numOf s = r at *
    obtain ⟨n, k, e0⟩ := r
    simp only at hnm hle ⊢
    have H := Lib.hid h
    clear h
    go_enter Tryd.func92, Tryd.ntmps92
    go_wp2_with fail
    refine hst.mono ?_
    rintro e w1 ⟨rfl, rfl⟩
    go_wp2_with fail
    refine hnm.mono ?_
    rintro e w1 ⟨rfl, hk1⟩
    have h1 := H.out.kept hk1 (fun f => f)
    have HK1 := Lib.hid hk1
    clear hk1 hst hnm
    go_wp2_with fail
    refine (tfail_any h1 e0).mono ?_
    rintro e w2 ⟨rfl, h2, hk2⟩
    have c0 := h2.c0
    have f0 := h2.fz 0
    have HK2 := Lib.hid hk2
    have H2 := Lib.hid h2
    clear h1 h2 hk2
    have p : (k : Int) ≤ (s.size : Int) := by omega
    go_wp2_with fail
    go_ret
    refine ⟨rfl, ?_, ((HK1.out.mono (fun _ _ f => f.elim)).trans HK2.out).setCell (p := ⟨b, 0, none⟩) (fun _ => rfl) _⟩
    unfold TapeAt
    rw [setCell_block H2.out]
    rfl
  · have he : tapeNum s t = (s, t, 0) := by unfold tapeNum; rw [if_neg ht]
    have hst := stuck_any h
    have hb : (t != 0) = true := by rw [bne, beq_eq_false_iff_ne.2 ht]; rfl
    rw [hb] at hst
    rw [he]
    have H := Lib.hid h
    clear h he hb
    go_enter Tryd.func92, Tryd.ntmps92
    go_wp2_with fail
    refine hst.mono ?_
    rintro e w1 ⟨rfl, rfl⟩
    go_wp2_with fail
    go_ret
    exact ⟨rfl, H.out, Kept.refl _ _⟩
def unfolded (n : Nat) : Int := if n % 2 = 0 then (n / 2 : Nat) else -1 - (n / 2 : Nat)
theorem i64_xor_ones (a : Nat) (ha : a < 9223372036854775808) : bits .xor .i64 (a : Int) (-1) = -1 - (a : Int) := by
  rw [← i64_not a ha]
  show IntKind.i64.wrap ((BitVec.ofInt 64 (a : Int) ^^^ BitVec.ofInt 64 (-1)).toNat : Int) = IntKind.i64.wrap ((BitVec.ofInt 64 (-1) ^^^ BitVec.ofInt 64 (a : Int)).toNat : Int)
  rw [BitVec.xor_comm]
theorem i64_xor_zero (a : Nat) (ha : a < 9223372036854775808) : bits .xor .i64 (a : Int) 0 = (a : Int) := by
  show IntKind.i64.wrap ((BitVec.ofInt 64 (a : Int) ^^^ BitVec.ofInt 64 0).toNat : Int) = _
  rw [show BitVec.ofInt 64 0 = 0#64 from rfl, BitVec.xor_zero, ofInt_u64 a (by omega)]
  simp [IntKind.wrap, IntKind.bits, IntKind.signed]
  omega
set_option maxRecDepth 100000 in
set_option maxHeartbeats 800000 in
theorem tInt_any {w : World} {b : Nat} {s : ByteArray} {t : Int} (h : TapeAt w b s t) (hsz : s.size ≤ 1099511627776) : Calls Tryd.prog 63 #[.pointer (some ⟨b, 0, none⟩)] w fun e w' => e = .returned (.int .i64 (unfolded (tapeNum s t).2.2)) ∧ TapeAt w' b (tapeNum s t).1 (tapeNum s t).2.1 ∧ Kept (fun j => j = b) w w' := by
  have hn := tNum_any h hsz
  have hl := tapeNum_lt s t
  generalize tapeNum s t = r at *
  obtain ⟨s', t', n⟩ := r
  simp only at hn hl ⊢
  clear h
  have hx0 := i64_xor_zero (n / 2) (by omega)
  have hx1 := i64_xor_ones (n / 2) (by omega)
  have hand := u64_and_nat n 1 hl (by decide)
  rw [Nat.and_one_is_mod] at hand
  simp only [Int.natCast_ediv, Int.natCast_emod, Int.cast_ofNat_Int] at hx0 hx1 hand
  by_cases ho : n % 2 = 0
  · have HU : Hid (unfolded n = (n / 2 : Nat)) := by unfold Hid unfolded; rw [if_pos ho]
    have h2 : (n : Int) % 2 = 0 := by omega
    rw [h2] at hand
    clear hx1 ho
    go_enter Tryd.func63, Tryd.ntmps63
    go_wp2_with fail
    refine hn.mono ?_
    rintro e w1 ⟨rfl, h1, hk1⟩
    have H1 := Lib.hid h1
    clear h1 hn
    go_wp2_with fail
    go_ret
    rw [HU.out]
    exact ⟨by simp, H1.out, hk1⟩
  · have HU : Hid (unfolded n = -1 - (n / 2 : Nat)) := by unfold Hid unfolded; rw [if_neg ho]
    have h2 : (n : Int) % 2 = 1 := by omega
    rw [h2] at hand
    clear hx0 ho
    go_enter Tryd.func63, Tryd.ntmps63
    go_wp2_with fail
    refine hn.mono ?_
    rintro e w1 ⟨rfl, h1, hk1⟩
    have H1 := Lib.hid h1
    clear h1 hn
    go_wp2_with fail
    go_ret
    rw [HU.out]
    exact ⟨by simp, H1.out, hk1⟩
/-- A number that is not above the greatest index. -/
def numberOf (n : Nat) : Int := if 549755813888 < n then -1 else n
set_option maxRecDepth 100000 in
set_option maxHeartbeats 800000 in
theorem number_any {w : World} {b : Nat} {s : ByteArray} {t : Int} (h : TapeAt w b s t) (hsz : s.size ≤ 1099511627776) : Calls Tryd.prog 62 #[.pointer (some ⟨b, 0, none⟩)] w fun e w' => e = .returned (.int .i64 (numberOf (tapeNum s t).2.2)) ∧ TapeAt w' b (tapeNum s t).1 (tapeNum s t).2.1 ∧ Kept (fun j => j = b) w w' := by
  have hn := tNum_any h hsz
  have hl := tapeNum_lt s t
  generalize tapeNum s t = r at *
  obtain ⟨s', t', n⟩ := r
  simp only at hn hl ⊢
  clear h
  by_cases ho : 549755813888 < n
  · have HU : Hid (numberOf n = -1) := by unfold Hid numberOf; rw [if_pos ho]
    have g : decide ((n : Int) > 549755813888) = true := decide_eq_true (by omega)
    go_enter Tryd.func62, Tryd.ntmps62
    go_wp2_with fail
    refine hn.mono ?_
    rintro e w1 ⟨rfl, h1, hk1⟩
    have H1 := Lib.hid h1
    clear h1 hn
    go_wp2_with fail
    go_ret
    rw [HU.out]
    exact ⟨rfl, H1.out, hk1⟩
  · have HU : Hid (numberOf n = n) := by unfold Hid numberOf; rw [if_neg ho]
    have g : decide ((n : Int) > 549755813888) = false := decide_eq_false (by omega)
    go_enter Tryd.func62, Tryd.ntmps62
    go_wp2_with fail
    refine hn.mono ?_
    rintro e w1 ⟨rfl, h1, hk1⟩
    have H1 := Lib.hid h1
    clear h1 hn
    go_wp2_with fail
    go_ret
    rw [HU.out]
    exact ⟨rfl, H1.out, hk1⟩
end Go.Proofs.YtjobmlnekpaagaaDoor

/-! ### bits.Tape's Text, walked. -/
namespace Go.Proofs.YtjobmlnekpaagaaDoor
open Go Go.RowKit Go.Maps
set_option linter.unusedVariables false

/-- Reading a text: what is left, the error, the text. -/
def tapeText (s : ByteArray) (t : Int) (m : Nat) : ByteArray × Int × ByteArray :=
  if t ≠ 0 then (s, t, .empty)
  else if (numOf s).2.2 ≠ 0 then (s, (numOf s).2.2, .empty)
  else if m < (numOf s).1 then (s, 2, .empty)
  else if s.size - (numOf s).2.1 < (numOf s).1 then (s, 5, .empty)
  else (s.extract ((numOf s).2.1 + (numOf s).1) s.size, 0, s.extract (numOf s).2.1 ((numOf s).2.1 + (numOf s).1))
set_option maxRecDepth 100000 in
set_option maxHeartbeats 1600000 in
theorem tText_any {w : World} {b : Nat} {s : ByteArray} {t : Int} (h : TapeAt w b s t) (hsz : s.size ≤ 1099511627776) (m : Nat) (hm : m ≤ 1099511627776) : Calls Tryd.prog 71 #[.pointer (some ⟨b, 0, none⟩), .int .i64 m] w fun e w' => e = .returned (.string (tapeText s t m).2.2) ∧ TapeAt w' b (tapeText s t m).1 (tapeText s t m).2.1 ∧ Kept (fun j => j = b) w w' := by
  by_cases ht : t = 0
  · subst ht
    have hst := stuck_any h
    have hnm := tnum_any h hsz
    have hle := numOf_le s
    have hlt := numOf_lt s
    have HE : Hid (tapeText s 0 m = if (numOf s).2.2 ≠ 0 then (s, (numOf s).2.2, .empty) else if m < (numOf s).1 then (s, 2, .empty) else if s.size - (numOf s).2.1 < (numOf s).1 then (s, 5, .empty) else (s.extract ((numOf s).2.1 + (numOf s).1) s.size, 0, s.extract (numOf s).2.1 ((numOf s).2.1 + (numOf s).1))) := by unfold Hid tapeText; rw [if_neg (by simp)]
    generalize numOf s = r at *
    obtain ⟨n, k, e0⟩ := r
    simp only at hnm hle hlt HE
    have H := Lib.hid h
    clear h
    by_cases he : e0 = 0
    · subst he
      rw [if_neg (by simp)] at HE
      by_cases hmn : m < n
      · rw [if_pos hmn] at HE
        have g1 : decide ((n : Int) > (m : Int)) = true := decide_eq_true (by omega)
        have g2 : IntKind.u64.wrap (m : Int) = m := u64_in m (by omega)
        go_enter Tryd.func71, Tryd.ntmps71
        go_wp2_with fail
        refine hst.mono ?_
        rintro e w1 ⟨rfl, rfl⟩
        go_wp2_with fail
        refine hnm.mono ?_
        rintro e w1 ⟨rfl, hk1⟩
        have h1 := H.out.kept hk1 (fun f => f)
        have HK1 := Lib.hid hk1
        clear hk1 hst hnm
        go_wp2_with fail
        refine (tfail_any h1 2).mono ?_
        rintro e w2 ⟨rfl, h2, hk2⟩
        have HK2 := Lib.hid hk2
        have H2 := Lib.hid h2
        clear h1 h2 hk2
        go_wp2_with fail
        go_ret
        rw [HE.out]
        exact ⟨rfl, H2.out, (HK1.out.mono (fun _ _ f => f.elim)).trans HK2.out⟩
      · rw [if_neg hmn] at HE
        have g1 : decide ((n : Int) > (m : Int)) = false := decide_eq_false (by omega)
        have g2 : IntKind.u64.wrap (m : Int) = m := u64_in m (by omega)
        have g3 : IntKind.u64.wrap ((s.size : Int) - (k : Int)) = (s.size : Int) - (k : Int) := by rw [u64_wrap]; omega
        by_cases hsn : s.size - k < n
        · rw [if_pos hsn] at HE
          have g4 : decide ((s.size : Int) - (k : Int) < (n : Int)) = true := decide_eq_true (by omega)
          go_enter Tryd.func71, Tryd.ntmps71
          go_wp2_with fail
          refine hst.mono ?_
          rintro e w1 ⟨rfl, rfl⟩
          go_wp2_with fail
          refine hnm.mono ?_
          rintro e w1 ⟨rfl, hk1⟩
          have h1 := H.out.kept hk1 (fun f => f)
          have c0 := h1.c0
          have HK1 := Lib.hid hk1
          clear hk1 hst hnm
          go_wp2_with fail
          refine (tfail_any h1 5).mono ?_
          rintro e w2 ⟨rfl, h2, hk2⟩
          have HK2 := Lib.hid hk2
          have H2 := Lib.hid h2
          clear h1 h2 hk2
          go_wp2_with fail
          go_ret
          rw [HE.out]
          exact ⟨rfl, H2.out, (HK1.out.mono (fun _ _ f => f.elim)).trans HK2.out⟩
        · rw [if_neg hsn] at HE
          have g4 : decide ((s.size : Int) - (k : Int) < (n : Int)) = false := decide_eq_false (by omega)
          have p1 : (k : Int) + (n : Int) ≤ (s.size : Int) := by omega
          have p2 : (k : Int) ≤ (k : Int) + (n : Int) := by omega
          go_enter Tryd.func71, Tryd.ntmps71
          go_wp2_with fail
          refine hst.mono ?_
          rintro e w1 ⟨rfl, rfl⟩
          go_wp2_with fail
          refine hnm.mono ?_
          rintro e w1 ⟨rfl, hk1⟩
          have h1 := H.out.kept hk1 (fun f => f)
          have c0 := h1.c0
          have f0 := h1.fz 0
          have HK1 := Lib.hid hk1
          have H1 := Lib.hid h1
          clear hk1 hst hnm h1
          go_wp2_with fail
          go_ret
          rw [HE.out]
          refine ⟨rfl, ?_, Kept.setCell (F := fun j => j = b) (p := ⟨b, 0, none⟩) (HK1.out.mono (fun _ _ f => f.elim)) (fun _ => rfl) _⟩
          unfold TapeAt
          rw [setCell_block H1.out]
          rfl
    · rw [if_pos he] at HE
      have g0 : (e0 != 0) = true := by rw [bne, beq_eq_false_iff_ne.2 he]; rfl
      have g0' : (e0 == 0) = false := beq_eq_false_iff_ne.2 he
      go_enter Tryd.func71, Tryd.ntmps71
      go_wp2_with fail
      refine hst.mono ?_
      rintro e w1 ⟨rfl, rfl⟩
      go_wp2_with fail
      refine hnm.mono ?_
      rintro e w1 ⟨rfl, hk1⟩
      have h1 := H.out.kept hk1 (fun f => f)
      have HK1 := Lib.hid hk1
      clear hk1 hst hnm
      go_wp2_with fail
      refine (tfail_any h1 e0).mono ?_
      rintro e w2 ⟨rfl, h2, hk2⟩
      have HK2 := Lib.hid hk2
      have H2 := Lib.hid h2
      clear h1 h2 hk2
      go_wp2_with fail
      go_ret
      rw [HE.out]
      exact ⟨rfl, H2.out, (HK1.out.mono (fun _ _ f => f.elim)).trans HK2.out⟩
  · have he : tapeText s t m = (s, t, .empty) := by unfold tapeText; rw [if_pos ht]
    have hst := stuck_any h
    have hb : (t != 0) = true := by rw [bne, beq_eq_false_iff_ne.2 ht]; rfl
    rw [hb] at hst
    rw [he]
    have H := Lib.hid h
    clear h he hb
    go_enter Tryd.func71, Tryd.ntmps71
    go_wp2_with fail
    refine hst.mono ?_
    rintro e w1 ⟨rfl, rfl⟩
    go_wp2_with fail
    go_ret
    exact ⟨rfl, H.out, Kept.refl _ _⟩
end Go.Proofs.YtjobmlnekpaagaaDoor

/-! ### shelf.ReadVote, walked. -/
namespace Go.Proofs.YtjobmlnekpaagaaDoor
open Go Go.RowKit Go.Maps
set_option linter.unusedVariables false

/-- Two numbers read, one behind the other. -/
def tapeVote (s : ByteArray) (t : Int) : ByteArray × Int × Vt :=
  ((tapeNum (tapeNum s t).1 (tapeNum s t).2.1).1, (tapeNum (tapeNum s t).1 (tapeNum s t).2.1).2.1, ⟨numberOf (tapeNum s t).2.2, unfolded (tapeNum (tapeNum s t).1 (tapeNum s t).2.1).2.2⟩)
set_option maxRecDepth 100000 in
set_option maxHeartbeats 1600000 in
theorem voteFn_any {w : World} {b : Nat} {s : ByteArray} {t : Int} (h : TapeAt w b s t) (hsz : s.size ≤ 1099511627776) : Calls Tryd.prog 61 #[.pointer (some ⟨b, 0, none⟩)] w fun e w' => e = .returned (.agg (tapeVote s t).2.2.cells.toArray) ∧ TapeAt w' b (tapeVote s t).1 (tapeVote s t).2.1 ∧ Kept (fun j => j = b) w w' := by
  have hz := tapeNum_size s t
  unfold tapeVote
  simp only [Vt.cells]
  have HK := Lib.hid ((Kept.refl (fun _ => False) w).alloc (.cells #[.int .i64 0, .int .i64 0] 38))
  have hb0 := block_new w (.cells #[.int .i64 0, .int .i64 0] 38)
  have hne : w.heap.size ≠ b := fun e => by have := h.lt; omega
  have hn := number_any (h.kept HK.out (fun f => f)) hsz
  generalize tapeNum s t = r at *
  obtain ⟨s1, t1, n1⟩ := r
  simp only at hn hz ⊢
  have hz2 := tapeNum_size s1 t1
  obtain ⟨r2, hr2⟩ : ∃ r, r = tapeNum s1 t1 := ⟨_, rfl⟩
  rw [← hr2] at hz2 ⊢
  obtain ⟨s2, t2, n2⟩ := r2
  have HR2 := Lib.hid hr2
  simp only
  clear hr2
  have HN := Lib.hid hn
  have HB0 := Lib.hid hb0
  clear h hn hb0
  go_enter Tryd.func61, Tryd.ntmps61
  go_wp2_with fail
  refine HN.out.mono ?_
  rintro e w1 ⟨rfl, h1, hk1⟩
  have hi := tInt_any h1 (by omega)
  rw [← HR2.out] at hi
  simp only at hi
  have HI := Lib.hid hi
  have hb1 : w1.heap[w.heap.size]? = some (.cells #[.int .i64 0, .int .i64 0] 38 (0, 0)) := by rw [hk1.block _ (by rw [alloc_size]; omega) hne]; exact HB0.out
  have HK1 := Lib.hid hk1
  have HB1 := Lib.hid hb1
  clear hi h1 hk1 hb1
  go_wp2_with fail
  refine HI.out.mono ?_
  rintro e w2 ⟨rfl, h2, hk2⟩
  have hb2 : w2.heap[w.heap.size]? = some (.cells #[.int .i64 0, .int .i64 0] 38 (0, 0)) := by rw [hk2.block _ ((Array.getElem?_eq_some_iff.1 HB1.out).1) hne]; exact HB1.out
  have c0 : w2.cell? ⟨w.heap.size, 0, none⟩ = some (.int .i64 0) := by rw [cell_of_block hb2]; rfl
  have c1 : w2.cell? ⟨w.heap.size, 1, none⟩ = some (.int .i64 0) := by rw [cell_of_block hb2]; rfl
  have f0 := frozen_of_block hb2 0
  have f1 := frozen_of_block hb2 1
  have HK2 := Lib.hid hk2
  have HB2 := Lib.hid hb2
  have H2 := Lib.hid h2
  clear h2 hk2 hb2
  go_wp2_with fail
  have d0 : ((w2.setCell ⟨w.heap.size, 0, none⟩ (.int .i64 (numberOf n1))).setCell ⟨w.heap.size, 1, none⟩ (.int .i64 (unfolded n2))).heap[w.heap.size]? = some (.cells #[.int .i64 (numberOf n1), .int .i64 (unfolded n2)] 38 (0, 0)) := by
    rw [setCell_block (setCell_block HB2.out 0 _) 1]
    rfl
  have hkw : Kept (fun j => j = w.heap.size) w2 ((w2.setCell ⟨w.heap.size, 0, none⟩ (.int .i64 (numberOf n1))).setCell ⟨w.heap.size, 1, none⟩ (.int .i64 (unfolded n2))) := (Kept.own _ _ _ _).trans (Kept.own _ _ _ _)
  generalize (w2.setCell ⟨w.heap.size, 0, none⟩ (.int .i64 (numberOf n1))).setCell ⟨w.heap.size, 1, none⟩ (.int .i64 (unfolded n2)) = W at *
  have e0 : W.cell? ⟨w.heap.size, 0, none⟩ = some (.int .i64 (numberOf n1)) := by rw [cell_of_block d0]; rfl
  have e1 : W.cell? ⟨w.heap.size, 1, none⟩ = some (.int .i64 (unfolded n2)) := by rw [cell_of_block d0]; rfl
  refine bodyPost_ret (by simp [results, Tryd.results61, go_sem, e0, e1]; try rfl) rfl ?_
  refine ⟨rfl, H2.out.kept hkw (fun e => hne e.symm), ?_⟩
  have hk01 : Kept (fun j => j = b) w w2 := (HK.out.mono (fun _ _ f => f.elim)).trans (HK1.out.trans HK2.out)
  exact hk01.step hkw (fun k hk e => by omega)
end Go.Proofs.YtjobmlnekpaagaaDoor

/-! ### shelf.whole at a vote, walked. -/
namespace Go.Proofs.YtjobmlnekpaagaaDoor
open Go Go.RowKit Go.Maps
set_option linter.unusedVariables false

/-- The vote that a text says. -/
def readVote (s : ByteArray) : Vt × Int :=
  if tapeEnd (tapeVote s 0).1 (tapeVote s 0).2.1 = 0 ∧ (tapeVote s 0).2.2.may = true then ((tapeVote s 0).2.2, 0) else (⟨0, 0⟩, 3)
set_option maxRecDepth 100000 in
set_option maxHeartbeats 1600000 in
theorem wholeVote_any (w : World) (s : ByteArray) (hsz : s.size ≤ 1099511627776) : Calls Tryd.prog 60 #[.string s, .func (.func 61) #[] #[], .func (.func 64) #[] #[]] w fun e w' => e = .returned (.tuple #[.agg (readVote s).1.cells.toArray, .int .i64 (readVote s).2]) ∧ Kept (fun _ => False) w w' := by
  have HK := Lib.hid ((Kept.refl (fun _ => False) w).alloc (.cells #[.int .i64 0, .int .i64 0] 38))
  have hb0 := block_new w (.cells #[.int .i64 0, .int .i64 0] 38)
  have HV := Lib.hid (fun (W : World) (b : Nat) (h : TapeAt W b s 0) => voteFn_any h hsz)
  have HR : Hid (readVote s = if tapeEnd (tapeVote s 0).1 (tapeVote s 0).2.1 = 0 ∧ (tapeVote s 0).2.2.may = true then ((tapeVote s 0).2.2, 0) else (⟨0, 0⟩, 3)) := rfl
  generalize tapeVote s 0 = r at *
  obtain ⟨s2, t2, ⟨vt, vf⟩⟩ := r
  simp only [Vt.cells] at HV HR
  generalize readVote s = R at *
  have hlt0 : w.heap.size < (w.alloc (.cells #[.int .i64 0, .int .i64 0] 38)).heap.size := (Array.getElem?_eq_some_iff.1 hb0).1
  have HB0 := Lib.hid hb0
  clear hb0
  go_enter Tryd.func60, Tryd.ntmps60
  go_wp2_with fail
  refine (at_any _ s).mono ?_
  rintro e w1 ⟨rfl, h1, hk1⟩
  obtain ⟨b, hb⟩ : ∃ b, b = (w.alloc (.cells #[.int .i64 0, .int .i64 0] 38)).heap.size := ⟨_, rfl⟩
  rw [← hb] at h1 ⊢
  have hbn : w.heap.size < b := by omega
  have HB1 : Hid (w1.heap[w.heap.size]? = some (.cells #[.int .i64 0, .int .i64 0] 38 (0, 0))) := by
    unfold Hid
    rw [hk1.block _ hlt0 (fun f => f)]
    exact HB0.out
  have H1 := Lib.hid h1
  have HK1 : Hid (Kept (fun _ => False) w w1) := HK.out.trans hk1
  clear h1 hk1 hb hlt0
  go_wp2_with fail
  refine (HV.out _ _ H1.out).mono ?_
  rintro e w2 ⟨rfl, h2, hk2⟩
  have HB2 : Hid (w2.heap[w.heap.size]? = some (.cells #[.int .i64 0, .int .i64 0] 38 (0, 0))) := by
    unfold Hid
    rw [hk2.block _ ((Array.getElem?_eq_some_iff.1 HB1.out).1) (by omega)]
    exact HB1.out
  have H2 := Lib.hid h2
  have HK2 : Hid (Kept (fun j => False) w w2) := HK1.out.step hk2 (fun k hk e => by omega)
  have hg : w.heap.size < w2.heap.size := (Array.getElem?_eq_some_iff.1 HB2.out).1
  have hbg : b < w2.heap.size := h2.lt
  clear h2 hk2
  go_wp2_with fail
  have hx3 := block_new w2 (.cells #[.int .i64 vt, .int .i64 vf] 38)
  have hk3 := (Kept.refl (fun _ => False) w2).alloc (.cells #[.int .i64 vt, .int .i64 vf] 38)
  generalize w2.alloc (.cells #[.int .i64 vt, .int .i64 vf] 38) = w3 at *
  obtain ⟨x, hx⟩ : ∃ x, x = w2.heap.size := ⟨_, rfl⟩
  rw [← hx] at hx3 hg hbg ⊢
  have HB3 : Hid (w3.heap[w.heap.size]? = some (.cells #[.int .i64 0, .int .i64 0] 38 (0, 0))) := by
    unfold Hid
    rw [hk3.block _ ((Array.getElem?_eq_some_iff.1 HB2.out).1) (fun f => f)]
    exact HB2.out
  have HX3 := Lib.hid hx3
  have HE := Lib.hid (tend_any (H2.out.kept hk3 (fun f => f)))
  have HK3 : Hid (Kept (fun _ => False) w w3) := HK2.out.trans hk3
  clear hx3 hk3 hx
  have hlt3 : w.heap.size < w3.heap.size := (Array.getElem?_eq_some_iff.1 HB3.out).1
  have hlx3 : x < w3.heap.size := (Array.getElem?_eq_some_iff.1 HX3.out).1
  generalize tapeEnd s2 t2 = E at *
  refine HE.out.mono ?_
  rintro e w4 ⟨rfl, rfl⟩
  by_cases hE : E = 0
  · subst hE
    have c0 : w3.cell? ⟨x, 0, none⟩ = some (.int .i64 vt) := by rw [cell_of_block HX3.out]; rfl
    have c1 : w3.cell? ⟨x, 1, none⟩ = some (.int .i64 vf) := by rw [cell_of_block HX3.out]; rfl
    go_wp2_with fail
    have hv := voted_any w3 ⟨vt, vf⟩
    simp only [Vt.cells] at hv
    refine hv.mono ?_
    rintro e w4 ⟨rfl, hk4⟩
    have c0' : w4.cell? ⟨x, 0, none⟩ = some (.int .i64 vt) := by rw [hk4.cell hlx3 (fun f => f)]; exact c0
    have c1' : w4.cell? ⟨x, 1, none⟩ = some (.int .i64 vf) := by rw [hk4.cell hlx3 (fun f => f)]; exact c1
    have HB4 : Hid (w4.heap[w.heap.size]? = some (.cells #[.int .i64 0, .int .i64 0] 38 (0, 0))) := by
      unfold Hid
      rw [hk4.block _ hlt3 (fun f => f)]
      exact HB3.out
    have HK4 : Hid (Kept (fun _ => False) w w4) := HK3.out.trans hk4
    have z0 : w4.cell? ⟨w.heap.size, 0, none⟩ = some (.int .i64 0) := by rw [cell_of_block HB4.out]; rfl
    have z1 : w4.cell? ⟨w.heap.size, 1, none⟩ = some (.int .i64 0) := by rw [cell_of_block HB4.out]; rfl
    have f0 := frozen_of_block HB4.out 0
    have f1 := frozen_of_block HB4.out 1
    clear hk4 c0 c1 hv
    by_cases hm : Vt.may ⟨vt, vf⟩ = true
    · rw [if_pos ⟨trivial, hm⟩] at HR
      rw [hm]
      go_wp2_with fail
      have d0 : ((w4.setCell ⟨w.heap.size, 0, none⟩ (.int .i64 vt)).setCell ⟨w.heap.size, 1, none⟩ (.int .i64 vf)).heap[w.heap.size]? = some (.cells #[.int .i64 vt, .int .i64 vf] 38 (0, 0)) := by
        rw [setCell_block (setCell_block HB4.out 0 _) 1]
        rfl
      have hkw : Kept (fun _ => False) w ((w4.setCell ⟨w.heap.size, 0, none⟩ (.int .i64 vt)).setCell ⟨w.heap.size, 1, none⟩ (.int .i64 vf)) := Kept.setCell (F := fun _ => False) (p := ⟨w.heap.size, 1, none⟩) (Kept.setCell (F := fun _ => False) (p := ⟨w.heap.size, 0, none⟩) HK4.out (fun h => by simp at h) _) (fun h => by simp at h) _
      generalize (w4.setCell ⟨w.heap.size, 0, none⟩ (.int .i64 vt)).setCell ⟨w.heap.size, 1, none⟩ (.int .i64 vf) = W at *
      have e0 : W.cell? ⟨w.heap.size, 0, none⟩ = some (.int .i64 vt) := by rw [cell_of_block d0]; rfl
      have e1 : W.cell? ⟨w.heap.size, 1, none⟩ = some (.int .i64 vf) := by rw [cell_of_block d0]; rfl
      refine bodyPost_ret (by simp [results, Tryd.results60, go_sem, e0, e1]; try rfl) rfl ?_
      rw [HR]
      exact ⟨rfl, hkw⟩
    · rw [if_neg (fun h => hm h.2)] at HR
      rw [show Vt.may ⟨vt, vf⟩ = false by simpa using hm]
      have za := fun o => cell_alloc z0 o
      have zb := fun o => cell_alloc z1 o
      have fa := fun o => frozen_of_block (block_alloc HB4.out o) 0
      have fb := fun o => frozen_of_block (block_alloc HB4.out o) 1
      go_wp2_with fail
      have d0 : (((w4.alloc (.cells #[.int .i64 0, .int .i64 0] 38)).setCell ⟨w.heap.size, 0, none⟩ (.int .i64 0)).setCell ⟨w.heap.size, 1, none⟩ (.int .i64 0)).heap[w.heap.size]? = some (.cells #[.int .i64 0, .int .i64 0] 38 (0, 0)) := by
        rw [setCell_block (setCell_block (block_alloc HB4.out _) 0 _) 1]
        rfl
      have hkw : Kept (fun _ => False) w (((w4.alloc (.cells #[.int .i64 0, .int .i64 0] 38)).setCell ⟨w.heap.size, 0, none⟩ (.int .i64 0)).setCell ⟨w.heap.size, 1, none⟩ (.int .i64 0)) := Kept.setCell (F := fun _ => False) (p := ⟨w.heap.size, 1, none⟩) (Kept.setCell (F := fun _ => False) (p := ⟨w.heap.size, 0, none⟩) (HK4.out.alloc _) (fun h => by simp at h) _) (fun h => by simp at h) _
      generalize ((w4.alloc (.cells #[.int .i64 0, .int .i64 0] 38)).setCell ⟨w.heap.size, 0, none⟩ (.int .i64 0)).setCell ⟨w.heap.size, 1, none⟩ (.int .i64 0) = W at *
      have e0 : W.cell? ⟨w.heap.size, 0, none⟩ = some (.int .i64 0) := by rw [cell_of_block d0]; rfl
      have e1 : W.cell? ⟨w.heap.size, 1, none⟩ = some (.int .i64 0) := by rw [cell_of_block d0]; rfl
      refine bodyPost_ret (by simp [results, Tryd.results60, go_sem, e0, e1]; try rfl) rfl ?_
      rw [HR]
      exact ⟨rfl, hkw⟩
  · have hne : (E != 0) = true := by rw [bne, beq_eq_false_iff_ne.2 hE]; rfl
    rw [if_neg (fun h => hE h.1)] at HR
    have z0 : w3.cell? ⟨w.heap.size, 0, none⟩ = some (.int .i64 0) := by rw [cell_of_block HB3.out]; rfl
    have z1 : w3.cell? ⟨w.heap.size, 1, none⟩ = some (.int .i64 0) := by rw [cell_of_block HB3.out]; rfl
    have f0 := frozen_of_block HB3.out 0
    have f1 := frozen_of_block HB3.out 1
    have za := fun o => cell_alloc z0 o
    have zb := fun o => cell_alloc z1 o
    have fa := fun o => frozen_of_block (block_alloc HB3.out o) 0
    have fb := fun o => frozen_of_block (block_alloc HB3.out o) 1
    go_wp2_with fail
    have d0 : (((w3.setCell ⟨w.heap.size, 0, none⟩ (.int .i64 0)).setCell ⟨w.heap.size, 1, none⟩ (.int .i64 0)).alloc (.cells #[.int .i64 0, .int .i64 0] 38)).heap[w.heap.size]? = some (.cells #[.int .i64 0, .int .i64 0] 38 (0, 0)) := by
      rw [block_alloc (setCell_block (setCell_block HB3.out 0 _) 1 _) _]
      rfl
    have hkw : Kept (fun _ => False) w (((w3.setCell ⟨w.heap.size, 0, none⟩ (.int .i64 0)).setCell ⟨w.heap.size, 1, none⟩ (.int .i64 0)).alloc (.cells #[.int .i64 0, .int .i64 0] 38)) := (Kept.setCell (F := fun _ => False) (p := ⟨w.heap.size, 1, none⟩) (Kept.setCell (F := fun _ => False) (p := ⟨w.heap.size, 0, none⟩) HK3.out (fun h => by simp at h) _) (fun h => by simp at h) _).alloc _
    generalize ((w3.setCell ⟨w.heap.size, 0, none⟩ (.int .i64 0)).setCell ⟨w.heap.size, 1, none⟩ (.int .i64 0)).alloc (.cells #[.int .i64 0, .int .i64 0] 38) = W at *
    have e0 : W.cell? ⟨w.heap.size, 0, none⟩ = some (.int .i64 0) := by rw [cell_of_block d0]; rfl
    have e1 : W.cell? ⟨w.heap.size, 1, none⟩ = some (.int .i64 0) := by rw [cell_of_block d0]; rfl
    refine bodyPost_ret (by simp [results, Tryd.results60, go_sem, e0, e1]; try rfl) rfl ?_
    rw [HR]
    exact ⟨rfl, hkw⟩
end Go.Proofs.YtjobmlnekpaagaaDoor

/-! ### shelf.ReadVote, walked. -/
namespace Go.Proofs.YtjobmlnekpaagaaDoor
open Go Go.RowKit Go.Maps
set_option linter.unusedVariables false

set_option maxRecDepth 100000 in
set_option maxHeartbeats 1600000 in
theorem readVote_any (w : World) (s : ByteArray) (hsz : s.size ≤ 1099511627776) : Calls Tryd.prog 23 #[.string s] w fun e w' => e = .returned (.tuple #[.agg (readVote s).1.cells.toArray, .int .i64 (readVote s).2]) ∧ Kept (fun _ => False) w w' := by
  have HK := Lib.hid ((Kept.refl (fun _ => False) w).alloc (.cells #[.int .i64 0, .int .i64 0] 38))
  have hb0 := block_new w (.cells #[.int .i64 0, .int .i64 0] 38)
  have hw := wholeVote_any (w.alloc (.cells #[.int .i64 0, .int .i64 0] 38)) s hsz
  generalize readVote s = R at *
  obtain ⟨⟨a, c⟩, k⟩ := R
  simp only [Vt.cells] at hw ⊢
  have HW := Lib.hid hw
  have hlt0 : w.heap.size < (w.alloc (.cells #[.int .i64 0, .int .i64 0] 38)).heap.size := (Array.getElem?_eq_some_iff.1 hb0).1
  have HB0 := Lib.hid hb0
  clear hb0 hw
  go_enter Tryd.func23, Tryd.ntmps23
  go_wp2_with fail
  refine HW.out.mono ?_
  rintro e w1 ⟨rfl, hk1⟩
  have HB1 : Hid (w1.heap[w.heap.size]? = some (.cells #[.int .i64 0, .int .i64 0] 38 (0, 0))) := by
    unfold Hid
    rw [hk1.block _ hlt0 (fun f => f)]
    exact HB0.out
  have HK1 : Hid (Kept (fun _ => False) w w1) := HK.out.trans hk1
  have z0 : w1.cell? ⟨w.heap.size, 0, none⟩ = some (.int .i64 0) := by rw [cell_of_block HB1.out]; rfl
  have z1 : w1.cell? ⟨w.heap.size, 1, none⟩ = some (.int .i64 0) := by rw [cell_of_block HB1.out]; rfl
  have f0 := frozen_of_block HB1.out 0
  have f1 := frozen_of_block HB1.out 1
  clear hk1 hlt0
  go_wp2_with fail
  have d0 : ((w1.setCell ⟨w.heap.size, 0, none⟩ (.int .i64 a)).setCell ⟨w.heap.size, 1, none⟩ (.int .i64 c)).heap[w.heap.size]? = some (.cells #[.int .i64 a, .int .i64 c] 38 (0, 0)) := by
    rw [setCell_block (setCell_block HB1.out 0 _) 1]
    rfl
  have hkw : Kept (fun _ => False) w ((w1.setCell ⟨w.heap.size, 0, none⟩ (.int .i64 a)).setCell ⟨w.heap.size, 1, none⟩ (.int .i64 c)) := Kept.setCell (F := fun _ => False) (p := ⟨w.heap.size, 1, none⟩) (Kept.setCell (F := fun _ => False) (p := ⟨w.heap.size, 0, none⟩) HK1.out (fun h => by simp at h) _) (fun h => by simp at h) _
  generalize (w1.setCell ⟨w.heap.size, 0, none⟩ (.int .i64 a)).setCell ⟨w.heap.size, 1, none⟩ (.int .i64 c) = W at *
  have e0 : W.cell? ⟨w.heap.size, 0, none⟩ = some (.int .i64 a) := by rw [cell_of_block d0]; rfl
  have e1 : W.cell? ⟨w.heap.size, 1, none⟩ = some (.int .i64 c) := by rw [cell_of_block d0]; rfl
  refine bodyPost_ret (by simp [results, Tryd.results23, go_sem, e0, e1]; try rfl) rfl ?_
  exact ⟨rfl, hkw⟩
end Go.Proofs.YtjobmlnekpaagaaDoor

/-! ### shelf.load, walked. -/
namespace Go.Proofs.YtjobmlnekpaagaaDoor
open Go Go.RowKit Go.Maps
set_option linter.unusedVariables false

/-- The text that a file's bytes say. -/
def loadOf (s : ByteArray) (e : Int) : ByteArray × Int :=
  if e ≠ 0 then (.empty, e) else if (unpack s).2.2 ≠ 0 ∨ (unpack s).2.1.size ≠ 0 then (.empty, 3) else ((unpack s).1, 0)
def Dk.load (d : Dk) (f : ByteArray) : ByteArray × Int := loadOf (d.read f).1 (d.read f).2
theorem Dk.Ok.read_size {d : Dk} {N : Nat} (ok : d.Ok N) (f : ByteArray) : (d.read f).1.size ≤ 1099511627776 := by
  unfold Dk.read
  split
  · show ByteArray.empty.size ≤ _
    simp
  · have := ok.nowSmall.get f
    show (d.now.get f).size ≤ _
    omega
set_option maxRecDepth 100000 in
set_option maxHeartbeats 1600000 in
theorem own_load {F : Nat → Prop} {w w0 : World} {b N : Nat} {d : Dk} (h : OwnF F w w0 b d) (ok : d.Ok N) (f : ByteArray) (hf : f.size ≤ 9223372036854775807) : Calls Tryd.prog 80 #[.pointer (some ⟨b, 0, none⟩), .string f] w0 fun e w' => e = .returned (.tuple #[.string (d.load f).1, .int .i64 (d.load f).2]) ∧ OwnF F w w' b d := by
  have hr := own_read h f hf
  have hs := ok.read_size f
  have he : d.load f = loadOf (d.read f).1 (d.read f).2 := rfl
  rw [he]
  clear he h ok
  generalize d.read f = r at *
  obtain ⟨s, e0⟩ := r
  simp only at hr hs ⊢
  have hu := fun w => unpack_any w s hs
  by_cases hz : e0 = 0
  · subst hz
    have HE : Hid (loadOf s 0 = if (unpack s).2.2 ≠ 0 ∨ (unpack s).2.1.size ≠ 0 then (.empty, 3) else ((unpack s).1, 0)) := by unfold Hid loadOf; rw [if_neg (by simp)]
    generalize unpack s = u at *
    obtain ⟨t, rest, k⟩ := u
    simp only at hu HE
    have HU := Lib.hid hu
    clear hu
    by_cases hk : k = 0
    · subst hk
      by_cases hn : rest.size = 0
      · rw [if_neg (fun h => h.elim (fun h => h rfl) (fun h => h hn))] at HE
        have g2 : (rest.toList == ([] : List UInt8)) = true := by rw [empty_test]; exact decide_eq_true hn
        have g3 : (rest.toList != ([] : List UInt8)) = false := by rw [bne, g2]; rfl
        go_enter Tryd.func80, Tryd.ntmps80
        go_wp2_with fail
        refine hr.mono ?_
        rintro e w1 ⟨rfl, h1⟩
        have H1 := Lib.hid h1
        clear h1 hr
        go_wp2_with fail
        refine (HU.out _).mono ?_
        rintro e w2 ⟨rfl, hk2⟩
        have H2 := Lib.hid (H1.out.quiet hk2)
        clear hk2
        go_wp2_with fail
        go_ret2
        rw [HE.out]
        exact ⟨rfl, H2.out⟩
      · rw [if_pos (Or.inr hn)] at HE
        have g2 : (rest.toList == ([] : List UInt8)) = false := by rw [empty_test]; exact decide_eq_false hn
        have g3 : (rest.toList != ([] : List UInt8)) = true := by rw [bne, g2]; rfl
        go_enter Tryd.func80, Tryd.ntmps80
        go_wp2_with fail
        refine hr.mono ?_
        rintro e w1 ⟨rfl, h1⟩
        have H1 := Lib.hid h1
        clear h1 hr
        go_wp2_with fail
        refine (HU.out _).mono ?_
        rintro e w2 ⟨rfl, hk2⟩
        have H2 := Lib.hid (H1.out.quiet hk2)
        clear hk2
        go_wp2_with fail
        go_ret2
        rw [HE.out]
        exact ⟨rfl, H2.out⟩
    · rw [if_pos (Or.inl hk)] at HE
      have g0 : (k != 0) = true := by rw [bne, beq_eq_false_iff_ne.2 hk]; rfl
      go_enter Tryd.func80, Tryd.ntmps80
      go_wp2_with fail
      refine hr.mono ?_
      rintro e w1 ⟨rfl, h1⟩
      have H1 := Lib.hid h1
      clear h1 hr
      go_wp2_with fail
      refine (HU.out _).mono ?_
      rintro e w2 ⟨rfl, hk2⟩
      have H2 := Lib.hid (H1.out.quiet hk2)
      clear hk2
      go_wp2_with fail
      go_ret2
      rw [HE.out]
      exact ⟨rfl, H2.out⟩
  · have HE : Hid (loadOf s e0 = (.empty, e0)) := by unfold Hid loadOf; rw [if_pos hz]
    have g0 : (e0 != 0) = true := by rw [bne, beq_eq_false_iff_ne.2 hz]; rfl
    clear hu
    go_enter Tryd.func80, Tryd.ntmps80
    go_wp2_with fail
    refine hr.mono ?_
    rintro e w1 ⟨rfl, h1⟩
    have H1 := Lib.hid h1
    clear h1 hr
    go_wp2_with fail
    go_ret2
    rw [HE.out]
    exact ⟨rfl, H1.out⟩
end Go.Proofs.YtjobmlnekpaagaaDoor

/-! ### shelf.LoadVote, walked. -/
namespace Go.Proofs.YtjobmlnekpaagaaDoor
open Go Go.RowKit Go.Maps
set_option linter.unusedVariables false

def nVote : ByteArray := ⟨#[118, 111, 116, 101]⟩
/-- The vote that a disk says. -/
def Dk.loadVote (d : Dk) : Vt × Int := if (d.load nVote).2 = 0 then readVote (d.load nVote).1 else if (d.load nVote).2 = 4 then (⟨0, -1⟩, 0) else (⟨0, 0⟩, (d.load nVote).2)
theorem unpack_size (s : ByteArray) : (unpack s).1.size ≤ s.size := by
  unfold unpack
  split
  · simp
  · split
    · simp
    · split
      · simp
      · simp only
        split
        · simp; omega
        · simp
theorem load_size {d : Dk} {N : Nat} (ok : d.Ok N) (f : ByteArray) : (d.load f).1.size ≤ 1099511627776 := by
  unfold Dk.load loadOf
  split
  · simp
  · split
    · simp
    · exact Nat.le_trans (unpack_size _) (ok.read_size f)
/-- A block of the call's own may be written beside the disk. -/
theorem OwnF.spare {F G : Nat → Prop} {w wA w1 w2 : World} {b : Nat} {d : Dk} (hk0 : Kept F w wA) (hG : ∀ k, G k → F k ∨ w.heap.size ≤ k) (h : OwnF G wA w1 b d) (g : Nat) (hg : g < wA.heap.size) (hgG : ¬ G g) (hgw : w.heap.size ≤ g) (hk : Kept (fun k => k = g) w1 w2) : OwnF F w w2 b d := by
  obtain ⟨s, m, v, h1, h2, h3⟩ := h
  refine ⟨s, m, v, h1.kept hk (fun k hf e => ?_), fun k hf => ?_, ?_⟩
  · rcases h2 k hf with a | a
    · exact hgG (e ▸ a)
    · omega
  · rcases h2 k hf with a | a
    · exact hG k a
    · exact .inr (Nat.le_trans hk0.size a)
  · exact (hk0.step h3 (fun k hlt e => (hG k e).elim id (fun a => by omega))).step hk (fun k hlt e => by omega)
set_option maxRecDepth 100000 in
set_option maxHeartbeats 1600000 in
theorem own_loadVote {F : Nat → Prop} {w w0 : World} {b N : Nat} {d : Dk} (h : OwnF F w w0 b d) (ok : d.Ok N) : Calls Tryd.prog 31 #[.pointer (some ⟨b, 0, none⟩)] w0 fun e w' => e = .returned (.tuple #[.agg d.loadVote.1.cells.toArray, .int .i64 d.loadVote.2]) ∧ OwnF F w w' b d := by
  have hal := (Kept.refl (fun _ => False) w0).alloc (.cells #[.int .i64 0, .int .i64 0] 38)
  obtain ⟨G, hG, hG1, hG2⟩ := h.rebase_quiet hal
  have hwg : w.heap.size ≤ w0.heap.size := h.kept.size
  have hback : ∀ w1 w2, OwnF G (w0.alloc (.cells #[.int .i64 0, .int .i64 0] 38)) w1 b d → Kept (fun k => k = w0.heap.size) w1 w2 → OwnF F w w2 b d := fun w1 w2 h1 h2 => OwnF.spare (h.kept.trans (hal.mono (fun _ _ f => f.elim))) (fun k e => hG1 k e) h1 w0.heap.size (by rw [alloc_size]; omega) (fun e => by have := hG2 _ e; omega) hwg h2
  have HBK := Lib.hid hback
  have HL := Lib.hid (own_load hG ok nVote (by decide))
  have hs := load_size ok nVote
  have hgG : ¬ G w0.heap.size := fun e => by have := hG2 _ e; omega
  have HG := Lib.hid hgG
  have hb0 := block_new w0 (.cells #[.int .i64 0, .int .i64 0] 38)
  have hlt0 : w0.heap.size < (w0.alloc (.cells #[.int .i64 0, .int .i64 0] 38)).heap.size := (Array.getElem?_eq_some_iff.1 hb0).1
  have HB0 := Lib.hid hb0
  have HE : Hid (d.loadVote = if (d.load nVote).2 = 0 then readVote (d.load nVote).1 else if (d.load nVote).2 = 4 then (⟨0, -1⟩, 0) else (⟨0, 0⟩, (d.load nVote).2)) := rfl
  generalize d.loadVote = R at *
  generalize d.load nVote = r at *
  obtain ⟨s, e0⟩ := r
  simp only at HL hs HE
  clear h hal hG hG1 hG2 hback hgG hb0 ok
  go_enter Tryd.func31, Tryd.ntmps31
  go_wp2_with fail
  refine HL.out.mono ?_
  rintro e w1 ⟨rfl, h1⟩
  have HB1 : Hid (w1.heap[w0.heap.size]? = some (.cells #[.int .i64 0, .int .i64 0] 38 (0, 0))) := by
    unfold Hid
    rw [h1.kept.block _ hlt0 HG.out]
    exact HB0.out
  have H1 := Lib.hid h1
  clear h1 hlt0
  by_cases hz : e0 = 0
  · subst hz
    rw [if_pos rfl] at HE
    have hv := fun w => readVote_any w s hs
    generalize readVote s = r2 at *
    obtain ⟨⟨va, vc⟩, vk⟩ := r2
    simp only [Vt.cells] at hv
    go_wp2_with fail
    refine (hv w1).mono ?_
    rintro e w2 ⟨rfl, hk2⟩
    have HB2 : Hid (w2.heap[w0.heap.size]? = some (.cells #[.int .i64 0, .int .i64 0] 38 (0, 0))) := by
      unfold Hid
      rw [hk2.block _ ((Array.getElem?_eq_some_iff.1 HB1.out).1) (fun f => f)]
      exact HB1.out
    have H2 := Lib.hid (H1.out.quiet hk2)
    clear hk2 hv
    have z0 : w2.cell? ⟨w0.heap.size, 0, none⟩ = some (.int .i64 0) := by rw [cell_of_block HB2.out]; rfl
    have z1 : w2.cell? ⟨w0.heap.size, 1, none⟩ = some (.int .i64 0) := by rw [cell_of_block HB2.out]; rfl
    have f0 := frozen_of_block HB2.out 0
    have f1 := frozen_of_block HB2.out 1
    go_wp2_with fail
    have d0 : ((w2.setCell ⟨w0.heap.size, 0, none⟩ (.int .i64 (va))).setCell ⟨w0.heap.size, 1, none⟩ (.int .i64 (vc))).heap[w0.heap.size]? = some (.cells #[.int .i64 (va), .int .i64 (vc)] 38 (0, 0)) := by
      rw [setCell_block (setCell_block HB2.out 0 _) 1]
      rfl
    have hkw : Kept (fun k => k = w0.heap.size) w2 ((w2.setCell ⟨w0.heap.size, 0, none⟩ (.int .i64 (va))).setCell ⟨w0.heap.size, 1, none⟩ (.int .i64 (vc))) := (Kept.own _ _ _ _).trans (Kept.own _ _ _ _)
    generalize (w2.setCell ⟨w0.heap.size, 0, none⟩ (.int .i64 (va))).setCell ⟨w0.heap.size, 1, none⟩ (.int .i64 (vc)) = W at *
    have q0 : W.cell? ⟨w0.heap.size, 0, none⟩ = some (.int .i64 (va)) := by rw [cell_of_block d0]; rfl
    have q1 : W.cell? ⟨w0.heap.size, 1, none⟩ = some (.int .i64 (vc)) := by rw [cell_of_block d0]; rfl
    refine bodyPost_ret (by simp [results, Tryd.results31, go_sem, q0, q1]; try rfl) rfl ?_
    rw [HE.out]
    exact ⟨rfl, HBK.out _ _ H2.out hkw⟩
  have g0 : (e0 == 0) = false := beq_eq_false_iff_ne.2 hz
  rw [if_neg hz] at HE
  by_cases h4 : e0 = 4
  · subst h4
    rw [if_pos rfl] at HE
    have z0 : w1.cell? ⟨w0.heap.size, 0, none⟩ = some (.int .i64 0) := by rw [cell_of_block HB1.out]; rfl
    have z1 : w1.cell? ⟨w0.heap.size, 1, none⟩ = some (.int .i64 0) := by rw [cell_of_block HB1.out]; rfl
    have f0 := frozen_of_block HB1.out 0
    have f1 := frozen_of_block HB1.out 1
    go_wp2_with fail
    have d0 : ((w1.setCell ⟨w0.heap.size, 0, none⟩ (.int .i64 (0))).setCell ⟨w0.heap.size, 1, none⟩ (.int .i64 (-1))).heap[w0.heap.size]? = some (.cells #[.int .i64 (0), .int .i64 (-1)] 38 (0, 0)) := by
      rw [setCell_block (setCell_block HB1.out 0 _) 1]
      rfl
    have hkw : Kept (fun k => k = w0.heap.size) w1 ((w1.setCell ⟨w0.heap.size, 0, none⟩ (.int .i64 (0))).setCell ⟨w0.heap.size, 1, none⟩ (.int .i64 (-1))) := (Kept.own _ _ _ _).trans (Kept.own _ _ _ _)
    generalize (w1.setCell ⟨w0.heap.size, 0, none⟩ (.int .i64 (0))).setCell ⟨w0.heap.size, 1, none⟩ (.int .i64 (-1)) = W at *
    have q0 : W.cell? ⟨w0.heap.size, 0, none⟩ = some (.int .i64 (0)) := by rw [cell_of_block d0]; rfl
    have q1 : W.cell? ⟨w0.heap.size, 1, none⟩ = some (.int .i64 (-1)) := by rw [cell_of_block d0]; rfl
    refine bodyPost_ret (by simp [results, Tryd.results31, go_sem, q0, q1]; try rfl) rfl ?_
    rw [HE.out]
    exact ⟨rfl, HBK.out _ _ H1.out hkw⟩
  · have g4 : (e0 == 4) = false := beq_eq_false_iff_ne.2 h4
    rw [if_neg h4] at HE
    have z0 : w1.cell? ⟨w0.heap.size, 0, none⟩ = some (.int .i64 0) := by rw [cell_of_block HB1.out]; rfl
    have z1 : w1.cell? ⟨w0.heap.size, 1, none⟩ = some (.int .i64 0) := by rw [cell_of_block HB1.out]; rfl
    have f0 := frozen_of_block HB1.out 0
    have f1 := frozen_of_block HB1.out 1
    go_wp2_with fail
    have d0 : ((w1.setCell ⟨w0.heap.size, 0, none⟩ (.int .i64 (0))).setCell ⟨w0.heap.size, 1, none⟩ (.int .i64 (0))).heap[w0.heap.size]? = some (.cells #[.int .i64 (0), .int .i64 (0)] 38 (0, 0)) := by
      rw [setCell_block (setCell_block HB1.out 0 _) 1]
      rfl
    have hkw : Kept (fun k => k = w0.heap.size) w1 ((w1.setCell ⟨w0.heap.size, 0, none⟩ (.int .i64 (0))).setCell ⟨w0.heap.size, 1, none⟩ (.int .i64 (0))) := (Kept.own _ _ _ _).trans (Kept.own _ _ _ _)
    generalize (w1.setCell ⟨w0.heap.size, 0, none⟩ (.int .i64 (0))).setCell ⟨w0.heap.size, 1, none⟩ (.int .i64 (0)) = W at *
    have q0 : W.cell? ⟨w0.heap.size, 0, none⟩ = some (.int .i64 (0)) := by rw [cell_of_block d0]; rfl
    have q1 : W.cell? ⟨w0.heap.size, 1, none⟩ = some (.int .i64 (0)) := by rw [cell_of_block d0]; rfl
    refine bodyPost_ret (by simp [results, Tryd.results31, go_sem, q0, q1]; try rfl) rfl ?_
    rw [HE.out]
    exact ⟨rfl, HBK.out _ _ H1.out hkw⟩
end Go.Proofs.YtjobmlnekpaagaaDoor

/-! ### shelf.ReadSnap's closure, walked. -/
namespace Go.Proofs.YtjobmlnekpaagaaDoor
open Go Go.RowKit Go.Maps
set_option linter.unusedVariables false

/-- Three numbers and a text read, one behind the other. -/
def tapeSnap (s : ByteArray) (t : Int) : ByteArray × Int × Sn :=
  let a := tapeNum s t
  let b := tapeNum a.1 a.2.1
  let c := tapeNum b.1 b.2.1
  let x := tapeText c.1 c.2.1 262144
  (x.1, x.2.1, ⟨numberOf a.2.2, numberOf b.2.2, numberOf c.2.2, x.2.2⟩)
set_option maxRecDepth 100000 in
set_option maxHeartbeats 1600000 in
theorem snapFn_any {w : World} {b : Nat} {s : ByteArray} {t : Int} (h : TapeAt w b s t) (hsz : s.size ≤ 1099511627776) : Calls Tryd.prog 70 #[.pointer (some ⟨b, 0, none⟩)] w fun e w' => e = .returned (.agg (tapeSnap s t).2.2.cells.toArray) ∧ TapeAt w' b (tapeSnap s t).1 (tapeSnap s t).2.1 ∧ Kept (fun j => j = b) w w' := by
  have hz := tapeNum_size s t
  unfold tapeSnap
  simp only [Sn.cells]
  have HK := Lib.hid ((Kept.refl (fun _ => False) w).alloc (.cells #[.int .i64 0, .int .i64 0, .int .i64 0, .string .empty] 45))
  have hb0 := block_new w (.cells #[.int .i64 0, .int .i64 0, .int .i64 0, .string .empty] 45)
  have hne : w.heap.size ≠ b := fun e => by have := h.lt; omega
  have hn := number_any (h.kept HK.out (fun f => f)) hsz
  generalize tapeNum s t = r at *
  obtain ⟨s1, t1, n1⟩ := r
  simp only at hn hz ⊢
  have hz2 := tapeNum_size s1 t1
  obtain ⟨r2, hr2⟩ : ∃ r, r = tapeNum s1 t1 := ⟨_, rfl⟩
  rw [← hr2] at hz2 ⊢
  obtain ⟨s2, t2, n2⟩ := r2
  have HR2 := Lib.hid hr2
  simp only at hz2 ⊢
  have hz3 := tapeNum_size s2 t2
  obtain ⟨r3, hr3⟩ : ∃ r, r = tapeNum s2 t2 := ⟨_, rfl⟩
  rw [← hr3] at hz3 ⊢
  obtain ⟨s3, t3, n3⟩ := r3
  have HR3 := Lib.hid hr3
  simp only at hz3 ⊢
  obtain ⟨r4, hr4⟩ : ∃ r, r = tapeText s3 t3 262144 := ⟨_, rfl⟩
  rw [← hr4]
  obtain ⟨s4, t4, x⟩ := r4
  have HR4 := Lib.hid hr4
  simp only
  clear hr2 hr3 hr4
  have HN := Lib.hid hn
  have HB0 := Lib.hid hb0
  clear h hn hb0
  go_enter Tryd.func70, Tryd.ntmps70
  go_wp2_with fail
  refine HN.out.mono ?_
  rintro e w1 ⟨rfl, h1, hk1⟩
  have hi := number_any h1 (by omega)
  rw [← HR2.out] at hi
  simp only at hi
  have HI := Lib.hid hi
  have HB1 : Hid (w1.heap[w.heap.size]? = some (.cells #[.int .i64 0, .int .i64 0, .int .i64 0, .string .empty] 45 (0, 0))) := by
    unfold Hid
    rw [hk1.block _ (by rw [alloc_size]; omega) hne]
    exact HB0.out
  have HK1 := Lib.hid hk1
  clear hi h1 hk1
  go_wp2_with fail
  refine HI.out.mono ?_
  rintro e w2 ⟨rfl, h2, hk2⟩
  have hi := number_any h2 (by omega)
  rw [← HR3.out] at hi
  simp only at hi
  have HJ := Lib.hid hi
  have HB2 : Hid (w2.heap[w.heap.size]? = some (.cells #[.int .i64 0, .int .i64 0, .int .i64 0, .string .empty] 45 (0, 0))) := by
    unfold Hid
    rw [hk2.block _ ((Array.getElem?_eq_some_iff.1 HB1.out).1) hne]
    exact HB1.out
  have HK2 := Lib.hid hk2
  clear hi h2 hk2
  go_wp2_with fail
  refine HJ.out.mono ?_
  rintro e w3 ⟨rfl, h3, hk3⟩
  have hi := tText_any h3 (by omega) 262144 (by omega)
  rw [← HR4.out] at hi
  simp only [Int.cast_ofNat_Int] at hi
  have HX := Lib.hid hi
  have HB3 : Hid (w3.heap[w.heap.size]? = some (.cells #[.int .i64 0, .int .i64 0, .int .i64 0, .string .empty] 45 (0, 0))) := by
    unfold Hid
    rw [hk3.block _ ((Array.getElem?_eq_some_iff.1 HB2.out).1) hne]
    exact HB2.out
  have HK3 := Lib.hid hk3
  clear hi h3 hk3
  go_wp2_with fail
  refine HX.out.mono ?_
  rintro e w4 ⟨rfl, h4, hk4⟩
  have hb4 : w4.heap[w.heap.size]? = some (.cells #[.int .i64 0, .int .i64 0, .int .i64 0, .string .empty] 45 (0, 0)) := by
    rw [hk4.block _ ((Array.getElem?_eq_some_iff.1 HB3.out).1) hne]
    exact HB3.out
  have c0 : w4.cell? ⟨w.heap.size, 0, none⟩ = some (.int .i64 0) := by rw [cell_of_block hb4]; rfl
  have c1 : w4.cell? ⟨w.heap.size, 1, none⟩ = some (.int .i64 0) := by rw [cell_of_block hb4]; rfl
  have c2 : w4.cell? ⟨w.heap.size, 2, none⟩ = some (.int .i64 0) := by rw [cell_of_block hb4]; rfl
  have c3 : w4.cell? ⟨w.heap.size, 3, none⟩ = some (.string .empty) := by rw [cell_of_block hb4]; rfl
  have f0 := frozen_of_block hb4 0
  have f1 := frozen_of_block hb4 1
  have f2 := frozen_of_block hb4 2
  have f3 := frozen_of_block hb4 3
  have HK4 := Lib.hid hk4
  have HB4 := Lib.hid hb4
  have H4 := Lib.hid h4
  clear h4 hk4 hb4
  go_wp2_with fail
  have d0 : ((((w4.setCell ⟨w.heap.size, 0, none⟩ (.int .i64 (numberOf n1))).setCell ⟨w.heap.size, 1, none⟩ (.int .i64 (numberOf n2))).setCell ⟨w.heap.size, 2, none⟩ (.int .i64 (numberOf n3))).setCell ⟨w.heap.size, 3, none⟩ (.string x)).heap[w.heap.size]? = some (.cells #[.int .i64 (numberOf n1), .int .i64 (numberOf n2), .int .i64 (numberOf n3), .string x] 45 (0, 0)) := by
    rw [setCell_block (setCell_block (setCell_block (setCell_block HB4.out 0 _) 1 _) 2 _) 3]
    rfl
  have hkw : Kept (fun j => j = w.heap.size) w4 ((((w4.setCell ⟨w.heap.size, 0, none⟩ (.int .i64 (numberOf n1))).setCell ⟨w.heap.size, 1, none⟩ (.int .i64 (numberOf n2))).setCell ⟨w.heap.size, 2, none⟩ (.int .i64 (numberOf n3))).setCell ⟨w.heap.size, 3, none⟩ (.string x)) := (((Kept.own _ _ _ _).trans (Kept.own _ _ _ _)).trans (Kept.own _ _ _ _)).trans (Kept.own _ _ _ _)
  generalize (((w4.setCell ⟨w.heap.size, 0, none⟩ (.int .i64 (numberOf n1))).setCell ⟨w.heap.size, 1, none⟩ (.int .i64 (numberOf n2))).setCell ⟨w.heap.size, 2, none⟩ (.int .i64 (numberOf n3))).setCell ⟨w.heap.size, 3, none⟩ (.string x) = W at *
  have e0 : W.cell? ⟨w.heap.size, 0, none⟩ = some (.int .i64 (numberOf n1)) := by rw [cell_of_block d0]; rfl
  have e1 : W.cell? ⟨w.heap.size, 1, none⟩ = some (.int .i64 (numberOf n2)) := by rw [cell_of_block d0]; rfl
  have e2 : W.cell? ⟨w.heap.size, 2, none⟩ = some (.int .i64 (numberOf n3)) := by rw [cell_of_block d0]; rfl
  have e3 : W.cell? ⟨w.heap.size, 3, none⟩ = some (.string x) := by rw [cell_of_block d0]; rfl
  refine bodyPost_ret (by simp [results, Tryd.results70, go_sem, e0, e1, e2, e3]; try rfl) rfl ?_
  refine ⟨rfl, H4.out.kept hkw (fun e => hne e.symm), ?_⟩
  have hk01 : Kept (fun j => j = b) w w4 := (HK.out.mono (fun _ _ f => f.elim)).trans (HK1.out.trans (HK2.out.trans (HK3.out.trans HK4.out)))
  exact hk01.step hkw (fun k hk e => by omega)
end Go.Proofs.YtjobmlnekpaagaaDoor

/-! ### shelf.whole at a snapshot, walked. -/
namespace Go.Proofs.YtjobmlnekpaagaaDoor
open Go Go.RowKit Go.Maps
set_option linter.unusedVariables false

/-- The snapshot that a text says. -/
def readSnap (s : ByteArray) : Sn × Int :=
  if tapeEnd (tapeSnap s 0).1 (tapeSnap s 0).2.1 = 0 ∧ (tapeSnap s 0).2.2.may = true then ((tapeSnap s 0).2.2, 0) else (⟨0, 0, 0, .empty⟩, 3)
set_option maxRecDepth 100000 in
set_option maxHeartbeats 4000000 in
theorem wholeSnap_any (w : World) (s : ByteArray) (hsz : s.size ≤ 1099511627776) : Calls Tryd.prog 69 #[.string s, .func (.func 70) #[] #[], .func (.func 72) #[] #[]] w fun e w' => e = .returned (.tuple #[.agg (readSnap s).1.cells.toArray, .int .i64 (readSnap s).2]) ∧ Kept (fun _ => False) w w' := by
  have HK := Lib.hid ((Kept.refl (fun _ => False) w).alloc (.cells #[.int .i64 0, .int .i64 0, .int .i64 0, .string ⟨#[]⟩] 45))
  have hb0 := block_new w (.cells #[.int .i64 0, .int .i64 0, .int .i64 0, .string ⟨#[]⟩] 45)
  have HV := Lib.hid (fun (W : World) (b : Nat) (h : TapeAt W b s 0) => snapFn_any h hsz)
  have HR : Hid (readSnap s = if tapeEnd (tapeSnap s 0).1 (tapeSnap s 0).2.1 = 0 ∧ (tapeSnap s 0).2.2.may = true then ((tapeSnap s 0).2.2, 0) else (⟨0, 0, 0, .empty⟩, 3)) := rfl
  generalize tapeSnap s 0 = r at *
  obtain ⟨s2, t2, ⟨vi, vt, vm, vx⟩⟩ := r
  simp only [Sn.cells] at HV HR
  generalize readSnap s = R at *
  have hlt0 : w.heap.size < (w.alloc (.cells #[.int .i64 0, .int .i64 0, .int .i64 0, .string ⟨#[]⟩] 45)).heap.size := (Array.getElem?_eq_some_iff.1 hb0).1
  have HB0 := Lib.hid hb0
  clear hb0
  go_enter Tryd.func69, Tryd.ntmps69
  go_wp2_with fail
  refine (at_any _ s).mono ?_
  rintro e w1 ⟨rfl, h1, hk1⟩
  obtain ⟨b, hb⟩ : ∃ b, b = (w.alloc (.cells #[.int .i64 0, .int .i64 0, .int .i64 0, .string ⟨#[]⟩] 45)).heap.size := ⟨_, rfl⟩
  rw [← hb] at h1 ⊢
  have hbn : w.heap.size < b := by omega
  have HB1 : Hid (w1.heap[w.heap.size]? = some (.cells #[.int .i64 0, .int .i64 0, .int .i64 0, .string ⟨#[]⟩] 45 (0, 0))) := by
    unfold Hid
    rw [hk1.block _ hlt0 (fun f => f)]
    exact HB0.out
  have H1 := Lib.hid h1
  have HK1 : Hid (Kept (fun _ => False) w w1) := HK.out.trans hk1
  clear h1 hk1 hb hlt0
  go_wp2_with fail
  refine (HV.out _ _ H1.out).mono ?_
  rintro e w2 ⟨rfl, h2, hk2⟩
  have HB2 : Hid (w2.heap[w.heap.size]? = some (.cells #[.int .i64 0, .int .i64 0, .int .i64 0, .string ⟨#[]⟩] 45 (0, 0))) := by
    unfold Hid
    rw [hk2.block _ ((Array.getElem?_eq_some_iff.1 HB1.out).1) (by omega)]
    exact HB1.out
  have H2 := Lib.hid h2
  have HK2 : Hid (Kept (fun j => False) w w2) := HK1.out.step hk2 (fun k hk e => by omega)
  have hg : w.heap.size < w2.heap.size := (Array.getElem?_eq_some_iff.1 HB2.out).1
  have hbg : b < w2.heap.size := h2.lt
  clear h2 hk2
  go_wp2_with fail
  have hx3 := block_new w2 (.cells #[.int .i64 vi, .int .i64 vt, .int .i64 vm, .string vx] 45)
  have hk3 := (Kept.refl (fun _ => False) w2).alloc (.cells #[.int .i64 vi, .int .i64 vt, .int .i64 vm, .string vx] 45)
  generalize w2.alloc (.cells #[.int .i64 vi, .int .i64 vt, .int .i64 vm, .string vx] 45) = w3 at *
  obtain ⟨x, hx⟩ : ∃ x, x = w2.heap.size := ⟨_, rfl⟩
  rw [← hx] at hx3 hg hbg ⊢
  have HB3 : Hid (w3.heap[w.heap.size]? = some (.cells #[.int .i64 0, .int .i64 0, .int .i64 0, .string ⟨#[]⟩] 45 (0, 0))) := by
    unfold Hid
    rw [hk3.block _ ((Array.getElem?_eq_some_iff.1 HB2.out).1) (fun f => f)]
    exact HB2.out
  have HX3 := Lib.hid hx3
  have HE := Lib.hid (tend_any (H2.out.kept hk3 (fun f => f)))
  have HK3 : Hid (Kept (fun _ => False) w w3) := HK2.out.trans hk3
  clear hx3 hk3 hx
  have hlt3 : w.heap.size < w3.heap.size := (Array.getElem?_eq_some_iff.1 HB3.out).1
  have hlx3 : x < w3.heap.size := (Array.getElem?_eq_some_iff.1 HX3.out).1
  generalize tapeEnd s2 t2 = E at *
  refine HE.out.mono ?_
  rintro e w4 ⟨rfl, rfl⟩
  by_cases hE : E = 0
  · subst hE
    have c0 : w3.cell? ⟨x, 0, none⟩ = some (.int .i64 vi) := by rw [cell_of_block HX3.out]; rfl
    have c1 : w3.cell? ⟨x, 1, none⟩ = some (.int .i64 vt) := by rw [cell_of_block HX3.out]; rfl
    have c2 : w3.cell? ⟨x, 2, none⟩ = some (.int .i64 vm) := by rw [cell_of_block HX3.out]; rfl
    have c3 : w3.cell? ⟨x, 3, none⟩ = some (.string vx) := by rw [cell_of_block HX3.out]; rfl
    go_wp2_with fail
    have hv := may_any w3 ⟨vi, vt, vm, vx⟩
    simp only [Sn.cells] at hv
    refine hv.mono ?_
    rintro e w4 ⟨rfl, hk4⟩
    have c0' : w4.cell? ⟨x, 0, none⟩ = some (.int .i64 vi) := by rw [hk4.cell hlx3 (fun f => f)]; exact c0
    have c1' : w4.cell? ⟨x, 1, none⟩ = some (.int .i64 vt) := by rw [hk4.cell hlx3 (fun f => f)]; exact c1
    have c2' : w4.cell? ⟨x, 2, none⟩ = some (.int .i64 vm) := by rw [hk4.cell hlx3 (fun f => f)]; exact c2
    have c3' : w4.cell? ⟨x, 3, none⟩ = some (.string vx) := by rw [hk4.cell hlx3 (fun f => f)]; exact c3
    have HB4 : Hid (w4.heap[w.heap.size]? = some (.cells #[.int .i64 0, .int .i64 0, .int .i64 0, .string ⟨#[]⟩] 45 (0, 0))) := by
      unfold Hid
      rw [hk4.block _ hlt3 (fun f => f)]
      exact HB3.out
    have HK4 : Hid (Kept (fun _ => False) w w4) := HK3.out.trans hk4
    have z0 : w4.cell? ⟨w.heap.size, 0, none⟩ = some (.int .i64 0) := by rw [cell_of_block HB4.out]; rfl
    have z1 : w4.cell? ⟨w.heap.size, 1, none⟩ = some (.int .i64 0) := by rw [cell_of_block HB4.out]; rfl
    have z2 : w4.cell? ⟨w.heap.size, 2, none⟩ = some (.int .i64 0) := by rw [cell_of_block HB4.out]; rfl
    have z3 : w4.cell? ⟨w.heap.size, 3, none⟩ = some (.string ⟨#[]⟩) := by rw [cell_of_block HB4.out]; rfl
    have f0 := frozen_of_block HB4.out 0
    have f1 := frozen_of_block HB4.out 1
    have f2 := frozen_of_block HB4.out 2
    have f3 := frozen_of_block HB4.out 3
    clear hk4 c0 c1 c2 c3 hv
    by_cases hm : Sn.may ⟨vi, vt, vm, vx⟩ = true
    · rw [if_pos ⟨trivial, hm⟩] at HR
      rw [hm]
      go_wp2_with fail
      have d0 : (((((((w4.setCell ⟨w.heap.size, 0, none⟩ (.int .i64 vi))).setCell ⟨w.heap.size, 1, none⟩ (.int .i64 vt))).setCell ⟨w.heap.size, 2, none⟩ (.int .i64 vm))).setCell ⟨w.heap.size, 3, none⟩ (.string vx)).heap[w.heap.size]? = some (.cells #[.int .i64 vi, .int .i64 vt, .int .i64 vm, .string vx] 45 (0, 0)) := by
        rw [setCell_block (setCell_block (setCell_block (setCell_block HB4.out 0 _) 1 _) 2 _) 3 _]
        rfl
      have hkw : Kept (fun _ => False) w (((((((w4.setCell ⟨w.heap.size, 0, none⟩ (.int .i64 vi))).setCell ⟨w.heap.size, 1, none⟩ (.int .i64 vt))).setCell ⟨w.heap.size, 2, none⟩ (.int .i64 vm))).setCell ⟨w.heap.size, 3, none⟩ (.string vx)) := (Kept.setCell (F := fun _ => False) (p := ⟨w.heap.size, 3, none⟩) (Kept.setCell (F := fun _ => False) (p := ⟨w.heap.size, 2, none⟩) (Kept.setCell (F := fun _ => False) (p := ⟨w.heap.size, 1, none⟩) (Kept.setCell (F := fun _ => False) (p := ⟨w.heap.size, 0, none⟩) HK4.out (fun h => by simp at h) _) (fun h => by simp at h) _) (fun h => by simp at h) _) (fun h => by simp at h) _)
      generalize (((((((w4.setCell ⟨w.heap.size, 0, none⟩ (.int .i64 vi))).setCell ⟨w.heap.size, 1, none⟩ (.int .i64 vt))).setCell ⟨w.heap.size, 2, none⟩ (.int .i64 vm))).setCell ⟨w.heap.size, 3, none⟩ (.string vx)) = W at *
      have e0 : W.cell? ⟨w.heap.size, 0, none⟩ = some (.int .i64 vi) := by rw [cell_of_block d0]; rfl
      have e1 : W.cell? ⟨w.heap.size, 1, none⟩ = some (.int .i64 vt) := by rw [cell_of_block d0]; rfl
      have e2 : W.cell? ⟨w.heap.size, 2, none⟩ = some (.int .i64 vm) := by rw [cell_of_block d0]; rfl
      have e3 : W.cell? ⟨w.heap.size, 3, none⟩ = some (.string vx) := by rw [cell_of_block d0]; rfl
      refine bodyPost_ret (by simp [results, Tryd.results69, go_sem, e0, e1, e2, e3]; try rfl) rfl ?_
      rw [HR]
      exact ⟨rfl, hkw⟩
    · rw [if_neg (fun h => hm h.2)] at HR
      rw [show Sn.may ⟨vi, vt, vm, vx⟩ = false by simpa using hm]
      have za0 := fun o => cell_alloc z0 o
      have za1 := fun o => cell_alloc z1 o
      have za2 := fun o => cell_alloc z2 o
      have za3 := fun o => cell_alloc z3 o
      have fa0 := fun o => frozen_of_block (block_alloc HB4.out o) 0
      have fa1 := fun o => frozen_of_block (block_alloc HB4.out o) 1
      have fa2 := fun o => frozen_of_block (block_alloc HB4.out o) 2
      have fa3 := fun o => frozen_of_block (block_alloc HB4.out o) 3
      go_wp2_with fail
      have d0 : ((((((((w4.alloc (.cells #[.int .i64 0, .int .i64 0, .int .i64 0, .string ⟨#[]⟩] 45)).setCell ⟨w.heap.size, 0, none⟩ (.int .i64 0))).setCell ⟨w.heap.size, 1, none⟩ (.int .i64 0))).setCell ⟨w.heap.size, 2, none⟩ (.int .i64 0))).setCell ⟨w.heap.size, 3, none⟩ (.string ⟨#[]⟩)).heap[w.heap.size]? = some (.cells #[.int .i64 0, .int .i64 0, .int .i64 0, .string ⟨#[]⟩] 45 (0, 0)) := by
        rw [setCell_block (setCell_block (setCell_block (setCell_block (block_alloc HB4.out _) 0 _) 1 _) 2 _) 3 _]
        rfl
      have hkw : Kept (fun _ => False) w ((((((((w4.alloc (.cells #[.int .i64 0, .int .i64 0, .int .i64 0, .string ⟨#[]⟩] 45)).setCell ⟨w.heap.size, 0, none⟩ (.int .i64 0))).setCell ⟨w.heap.size, 1, none⟩ (.int .i64 0))).setCell ⟨w.heap.size, 2, none⟩ (.int .i64 0))).setCell ⟨w.heap.size, 3, none⟩ (.string ⟨#[]⟩)) := (Kept.setCell (F := fun _ => False) (p := ⟨w.heap.size, 3, none⟩) (Kept.setCell (F := fun _ => False) (p := ⟨w.heap.size, 2, none⟩) (Kept.setCell (F := fun _ => False) (p := ⟨w.heap.size, 1, none⟩) (Kept.setCell (F := fun _ => False) (p := ⟨w.heap.size, 0, none⟩) (HK4.out.alloc _) (fun h => by simp at h) _) (fun h => by simp at h) _) (fun h => by simp at h) _) (fun h => by simp at h) _)
      generalize ((((((((w4.alloc (.cells #[.int .i64 0, .int .i64 0, .int .i64 0, .string ⟨#[]⟩] 45)).setCell ⟨w.heap.size, 0, none⟩ (.int .i64 0))).setCell ⟨w.heap.size, 1, none⟩ (.int .i64 0))).setCell ⟨w.heap.size, 2, none⟩ (.int .i64 0))).setCell ⟨w.heap.size, 3, none⟩ (.string ⟨#[]⟩)) = W at *
      have e0 : W.cell? ⟨w.heap.size, 0, none⟩ = some (.int .i64 0) := by rw [cell_of_block d0]; rfl
      have e1 : W.cell? ⟨w.heap.size, 1, none⟩ = some (.int .i64 0) := by rw [cell_of_block d0]; rfl
      have e2 : W.cell? ⟨w.heap.size, 2, none⟩ = some (.int .i64 0) := by rw [cell_of_block d0]; rfl
      have e3 : W.cell? ⟨w.heap.size, 3, none⟩ = some (.string ⟨#[]⟩) := by rw [cell_of_block d0]; rfl
      refine bodyPost_ret (by simp [results, Tryd.results69, go_sem, e0, e1, e2, e3]; try rfl) rfl ?_
      rw [HR]
      exact ⟨rfl, hkw⟩
  · have hne : (E != 0) = true := by rw [bne, beq_eq_false_iff_ne.2 hE]; rfl
    rw [if_neg (fun h => hE h.1)] at HR
    have z0 : w3.cell? ⟨w.heap.size, 0, none⟩ = some (.int .i64 0) := by rw [cell_of_block HB3.out]; rfl
    have z1 : w3.cell? ⟨w.heap.size, 1, none⟩ = some (.int .i64 0) := by rw [cell_of_block HB3.out]; rfl
    have z2 : w3.cell? ⟨w.heap.size, 2, none⟩ = some (.int .i64 0) := by rw [cell_of_block HB3.out]; rfl
    have z3 : w3.cell? ⟨w.heap.size, 3, none⟩ = some (.string ⟨#[]⟩) := by rw [cell_of_block HB3.out]; rfl
    have f0 := frozen_of_block HB3.out 0
    have f1 := frozen_of_block HB3.out 1
    have f2 := frozen_of_block HB3.out 2
    have f3 := frozen_of_block HB3.out 3
    have za0 := fun o => cell_alloc z0 o
    have za1 := fun o => cell_alloc z1 o
    have za2 := fun o => cell_alloc z2 o
    have za3 := fun o => cell_alloc z3 o
    have fa0 := fun o => frozen_of_block (block_alloc HB3.out o) 0
    have fa1 := fun o => frozen_of_block (block_alloc HB3.out o) 1
    have fa2 := fun o => frozen_of_block (block_alloc HB3.out o) 2
    have fa3 := fun o => frozen_of_block (block_alloc HB3.out o) 3
    go_wp2_with fail
    have d0 : ((((((((w3.setCell ⟨w.heap.size, 0, none⟩ (.int .i64 0))).setCell ⟨w.heap.size, 1, none⟩ (.int .i64 0))).setCell ⟨w.heap.size, 2, none⟩ (.int .i64 0))).setCell ⟨w.heap.size, 3, none⟩ (.string ⟨#[]⟩)).alloc (.cells #[.int .i64 0, .int .i64 0, .int .i64 0, .string ⟨#[]⟩] 45)).heap[w.heap.size]? = some (.cells #[.int .i64 0, .int .i64 0, .int .i64 0, .string ⟨#[]⟩] 45 (0, 0)) := by
      rw [block_alloc (setCell_block (setCell_block (setCell_block (setCell_block HB3.out 0 _) 1 _) 2 _) 3 _) _]
      rfl
    have hkw : Kept (fun _ => False) w ((((((((w3.setCell ⟨w.heap.size, 0, none⟩ (.int .i64 0))).setCell ⟨w.heap.size, 1, none⟩ (.int .i64 0))).setCell ⟨w.heap.size, 2, none⟩ (.int .i64 0))).setCell ⟨w.heap.size, 3, none⟩ (.string ⟨#[]⟩)).alloc (.cells #[.int .i64 0, .int .i64 0, .int .i64 0, .string ⟨#[]⟩] 45)) := ((Kept.setCell (F := fun _ => False) (p := ⟨w.heap.size, 3, none⟩) (Kept.setCell (F := fun _ => False) (p := ⟨w.heap.size, 2, none⟩) (Kept.setCell (F := fun _ => False) (p := ⟨w.heap.size, 1, none⟩) (Kept.setCell (F := fun _ => False) (p := ⟨w.heap.size, 0, none⟩) HK3.out (fun h => by simp at h) _) (fun h => by simp at h) _) (fun h => by simp at h) _) (fun h => by simp at h) _).alloc _)
    generalize ((((((((w3.setCell ⟨w.heap.size, 0, none⟩ (.int .i64 0))).setCell ⟨w.heap.size, 1, none⟩ (.int .i64 0))).setCell ⟨w.heap.size, 2, none⟩ (.int .i64 0))).setCell ⟨w.heap.size, 3, none⟩ (.string ⟨#[]⟩)).alloc (.cells #[.int .i64 0, .int .i64 0, .int .i64 0, .string ⟨#[]⟩] 45)) = W at *
    have e0 : W.cell? ⟨w.heap.size, 0, none⟩ = some (.int .i64 0) := by rw [cell_of_block d0]; rfl
    have e1 : W.cell? ⟨w.heap.size, 1, none⟩ = some (.int .i64 0) := by rw [cell_of_block d0]; rfl
    have e2 : W.cell? ⟨w.heap.size, 2, none⟩ = some (.int .i64 0) := by rw [cell_of_block d0]; rfl
    have e3 : W.cell? ⟨w.heap.size, 3, none⟩ = some (.string ⟨#[]⟩) := by rw [cell_of_block d0]; rfl
    refine bodyPost_ret (by simp [results, Tryd.results69, go_sem, e0, e1, e2, e3]; try rfl) rfl ?_
    rw [HR]
    exact ⟨rfl, hkw⟩
end Go.Proofs.YtjobmlnekpaagaaDoor

/-! ### shelf.ReadSnap, walked. -/
namespace Go.Proofs.YtjobmlnekpaagaaDoor
open Go Go.RowKit Go.Maps
set_option linter.unusedVariables false

set_option maxRecDepth 100000 in
set_option maxHeartbeats 1600000 in
theorem readSnap_any (w : World) (s : ByteArray) (hsz : s.size ≤ 1099511627776) : Calls Tryd.prog 25 #[.string s] w fun e w' => e = .returned (.tuple #[.agg (readSnap s).1.cells.toArray, .int .i64 (readSnap s).2]) ∧ Kept (fun _ => False) w w' := by
  have HK := Lib.hid ((Kept.refl (fun _ => False) w).alloc (.cells #[.int .i64 0, .int .i64 0, .int .i64 0, .string ⟨#[]⟩] 45))
  have hb0 := block_new w (.cells #[.int .i64 0, .int .i64 0, .int .i64 0, .string ⟨#[]⟩] 45)
  have hw := wholeSnap_any (w.alloc (.cells #[.int .i64 0, .int .i64 0, .int .i64 0, .string ⟨#[]⟩] 45)) s hsz
  generalize readSnap s = R at *
  obtain ⟨⟨vi, vt, vm, vx⟩, k⟩ := R
  simp only [Sn.cells] at hw ⊢
  have HW := Lib.hid hw
  have hlt0 : w.heap.size < (w.alloc (.cells #[.int .i64 0, .int .i64 0, .int .i64 0, .string ⟨#[]⟩] 45)).heap.size := (Array.getElem?_eq_some_iff.1 hb0).1
  have HB0 := Lib.hid hb0
  clear hb0 hw
  go_enter Tryd.func25, Tryd.ntmps25
  go_wp2_with fail
  refine HW.out.mono ?_
  rintro e w1 ⟨rfl, hk1⟩
  have HB1 : Hid (w1.heap[w.heap.size]? = some (.cells #[.int .i64 0, .int .i64 0, .int .i64 0, .string ⟨#[]⟩] 45 (0, 0))) := by
    unfold Hid
    rw [hk1.block _ hlt0 (fun f => f)]
    exact HB0.out
  have HK1 : Hid (Kept (fun _ => False) w w1) := HK.out.trans hk1
  have z0 : w1.cell? ⟨w.heap.size, 0, none⟩ = some (.int .i64 0) := by rw [cell_of_block HB1.out]; rfl
  have z1 : w1.cell? ⟨w.heap.size, 1, none⟩ = some (.int .i64 0) := by rw [cell_of_block HB1.out]; rfl
  have z2 : w1.cell? ⟨w.heap.size, 2, none⟩ = some (.int .i64 0) := by rw [cell_of_block HB1.out]; rfl
  have z3 : w1.cell? ⟨w.heap.size, 3, none⟩ = some (.string ⟨#[]⟩) := by rw [cell_of_block HB1.out]; rfl
  have f0 := frozen_of_block HB1.out 0
  have f1 := frozen_of_block HB1.out 1
  have f2 := frozen_of_block HB1.out 2
  have f3 := frozen_of_block HB1.out 3
  clear hk1 hlt0
  go_wp2_with fail
  have d0 : (((((((w1.setCell ⟨w.heap.size, 0, none⟩ (.int .i64 vi))).setCell ⟨w.heap.size, 1, none⟩ (.int .i64 vt))).setCell ⟨w.heap.size, 2, none⟩ (.int .i64 vm))).setCell ⟨w.heap.size, 3, none⟩ (.string vx)).heap[w.heap.size]? = some (.cells #[.int .i64 vi, .int .i64 vt, .int .i64 vm, .string vx] 45 (0, 0)) := by
    rw [setCell_block (setCell_block (setCell_block (setCell_block HB1.out 0 _) 1 _) 2 _) 3 _]
    rfl
  have hkw : Kept (fun _ => False) w (((((((w1.setCell ⟨w.heap.size, 0, none⟩ (.int .i64 vi))).setCell ⟨w.heap.size, 1, none⟩ (.int .i64 vt))).setCell ⟨w.heap.size, 2, none⟩ (.int .i64 vm))).setCell ⟨w.heap.size, 3, none⟩ (.string vx)) := (Kept.setCell (F := fun _ => False) (p := ⟨w.heap.size, 3, none⟩) (Kept.setCell (F := fun _ => False) (p := ⟨w.heap.size, 2, none⟩) (Kept.setCell (F := fun _ => False) (p := ⟨w.heap.size, 1, none⟩) (Kept.setCell (F := fun _ => False) (p := ⟨w.heap.size, 0, none⟩) HK1.out (fun h => by simp at h) _) (fun h => by simp at h) _) (fun h => by simp at h) _) (fun h => by simp at h) _)
  generalize (((((((w1.setCell ⟨w.heap.size, 0, none⟩ (.int .i64 vi))).setCell ⟨w.heap.size, 1, none⟩ (.int .i64 vt))).setCell ⟨w.heap.size, 2, none⟩ (.int .i64 vm))).setCell ⟨w.heap.size, 3, none⟩ (.string vx)) = W at *
  have e0 : W.cell? ⟨w.heap.size, 0, none⟩ = some (.int .i64 vi) := by rw [cell_of_block d0]; rfl
  have e1 : W.cell? ⟨w.heap.size, 1, none⟩ = some (.int .i64 vt) := by rw [cell_of_block d0]; rfl
  have e2 : W.cell? ⟨w.heap.size, 2, none⟩ = some (.int .i64 vm) := by rw [cell_of_block d0]; rfl
  have e3 : W.cell? ⟨w.heap.size, 3, none⟩ = some (.string vx) := by rw [cell_of_block d0]; rfl
  refine bodyPost_ret (by simp [results, Tryd.results25, go_sem, e0, e1, e2, e3]; try rfl) rfl ?_
  exact ⟨rfl, hkw⟩
end Go.Proofs.YtjobmlnekpaagaaDoor
