/- auspiceref05.Same, walked; Files beside blocks. -/
import Derived.Test.YtjobmlnekpaagaaDoorFi
namespace Go.Proofs.YtjobmlnekpaagaaDoor
open Go Go.RowKit Go.Maps
set_option linter.unusedVariables false

/-- A slice of files is read. -/
def ReadsF (w : World) (A : Option Addr) (n : Nat) (fs : FL) : Prop :=
  fs.length = n ∧ n ≤ 4398046511104 ∧ (n = 0 ∨ ∃ g off, A = some ⟨g, off, none⟩ ∧ g < w.heap.size ∧ ∀ i p, fs[i]? = some p → w.cell? ⟨g, off + i * 2, none⟩ = some (.string p.1) ∧ w.cell? ⟨g, off + i * 2 + 1, none⟩ = some (.string p.2))
theorem ReadsF.kept {w w' : World} {A : Option Addr} {n : Nat} {fs : FL} (h : ReadsF w A n fs) (hk : Kept (fun _ => False) w w') : ReadsF w' A n fs := by
  obtain ⟨h1, h2, h3⟩ := h
  refine ⟨h1, h2, h3.imp id fun ⟨g, off, hA, hg, hc⟩ => ⟨g, off, hA, Nat.lt_of_lt_of_le hg hk.size, fun i p hp => ?_⟩⟩
  rw [hk.cell hg (fun f => f), hk.cell hg (fun f => f)]
  exact hc i p hp
theorem str_beq (a b : ByteArray) : (a.toList == b.toList) = decide (a = b) := by
  rw [ByteArray.toList_eq, ByteArray.toList_eq]
  exact Fm.beq_data a b
set_option maxRecDepth 100000 in
set_option maxHeartbeats 4000000 in
theorem same_any {w : World} {A B : Option Addr} {n m c cb : Nat} {xs ys : FL} (hA : ReadsF w A n xs) (hB : ReadsF w B m ys) (r : Bool) (hr : r = true ↔ xs = ys) :
    Calls Tryd.prog 46 #[.slice A n c, .slice B m cb] w fun e w' => e = .returned (.bool r) ∧ Kept (fun _ => False) w w' := by
  obtain ⟨hl, hn, hca⟩ := hA
  obtain ⟨hlb, hm, hcb⟩ := hB
  by_cases hnm : n = m
  case neg =>
    have hf : r = false := by
      cases r with
      | false => rfl
      | true => have := hr.1 rfl; subst this; omega
    subst hf
    have g0 : ((n : Int) != (m : Int)) = true := by rw [bne, beq_eq_false_iff_ne.2 (by omega)]; rfl
    clear hca hcb hr
    go_enter Tryd.func46, Tryd.ntmps46
    go_wp2_with fail
    go_ret
    exact ⟨rfl, Kept.refl _ _⟩
  subst hnm
  have HL := Lib.hid hl
  have HLB := Lib.hid hlb
  have HCA := Lib.hid hca
  have HCB := Lib.hid hcb
  have HR := Lib.hid hr
  clear hl hlb hca hcb hr
  go_enter Tryd.func46, Tryd.ntmps46
  go_wp2_with fail
  go_loopw [5] (fun v5 wr => ∃ i : Nat, i ≤ n ∧ v5 = .int .i64 i ∧ Hid (xs.take i = ys.take i) ∧ Kept (fun _ => False) w wr) (fun v5 _ => n - (intOf v5).toNat)
  case atStart => exact ⟨0, Nat.zero_le _, rfl, rfl, Kept.refl _ _⟩
  case round =>
    obtain ⟨i, hi, rfl, hti, hkw⟩ := hrel
    have HKW := Lib.hid hkw
    clear hkw
    by_cases hlt : i < n
    · have hd1 : decide (i < n) = true := by simpa using hlt
      obtain ⟨⟨xa, xb⟩, hx⟩ : ∃ x, xs[i]? = some x := ⟨xs[i]'(by rw [HL.out]; exact hlt), List.getElem?_eq_getElem _⟩
      obtain ⟨⟨ya, yb⟩, hy⟩ : ∃ x, ys[i]? = some x := ⟨ys[i]'(by rw [HLB.out]; exact hlt), List.getElem?_eq_getElem _⟩
      rcases HCA.out with h0 | ⟨g, off, rfl, hg, hc⟩
      · omega
      rcases HCB.out with h0 | ⟨g2, off2, rfl, hg2, hc2⟩
      · omega
      obtain ⟨x0, x1⟩ := hc i _ hx
      obtain ⟨y0, y1⟩ := hc2 i _ hy
      have x0 := (HKW.out.cell (p := ⟨g, off + i * 2, none⟩) hg (fun f => f)).trans x0
      have x1 := (HKW.out.cell (p := ⟨g, off + i * 2 + 1, none⟩) hg (fun f => f)).trans x1
      have y0 := (HKW.out.cell (p := ⟨g2, off2 + i * 2, none⟩) hg2 (fun f => f)).trans y0
      have y1 := (HKW.out.cell (p := ⟨g2, off2 + i * 2 + 1, none⟩) hg2 (fun f => f)).trans y1
      simp only at x0 x1 y0 y1
      have HX := Lib.hid hx
      have HY := Lib.hid hy
      have hi2 : (i : Int) < (n : Int) := by omega
      clear hc hc2 hx hy
      have hb1 := str_beq xa ya
      have hb2 := str_beq xb yb
      by_cases h1 : xa = ya
      · rw [decide_eq_true h1] at hb1
        by_cases h2 : xb = yb
        · rw [decide_eq_true h2] at hb2
          subst h1 h2
          go_wp2_with fail
          go_quiet (fail)
          go_wp2_with fail
          go_roundw
          case rel => exact ⟨i + 1, by omega, by simp, by unfold Hid; rw [List.take_add_one, List.take_add_one, hti.out, HX.out, HY.out], HKW.out.drewN _⟩
          case measure => simp [intOf]; omega
        · rw [decide_eq_false h2] at hb2
          have hf : r = false := by
            cases hq : r with
            | false => rfl
            | true =>
              have e := HR.out.1 hq
              have hx := HX.out
              have hy := HY.out
              rw [e, hy] at hx
              simp only [Option.some.injEq, Prod.mk.injEq] at hx
              exact absurd hx.2.symm h2
          subst hf
          clear h1 h2
          go_wp2_with fail
          go_quiet (fail)
          go_wp2_with fail
          go_ret
          exact ⟨rfl, HKW.out.drewN _⟩
      · rw [decide_eq_false h1] at hb1
        have hf : r = false := by
          cases hq : r with
          | false => rfl
          | true =>
            have e := HR.out.1 hq
            have hx := HX.out
            have hy := HY.out
            rw [e, hy] at hx
            simp only [Option.some.injEq, Prod.mk.injEq] at hx
            exact absurd hx.1.symm h1
        subst hf
        clear h1
        go_wp2_with fail
        go_quiet (fail)
        go_wp2_with fail
        go_ret
        exact ⟨rfl, HKW.out.drewN _⟩
    · have hd1 : decide (i < n) = false := by simpa using hlt
      have he : r = true := by
        refine HR.out.2 ?_
        have h := hti.out
        rwa [List.take_of_length_le (by have := HL.out; omega), List.take_of_length_le (by have := HLB.out; omega)] at h
      subst he
      go_wp2_with fail
      go_ret
      exact ⟨rfl, HKW.out⟩
end Go.Proofs.YtjobmlnekpaagaaDoor
