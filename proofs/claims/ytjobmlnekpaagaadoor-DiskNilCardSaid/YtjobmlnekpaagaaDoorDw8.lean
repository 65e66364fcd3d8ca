/- The other calls of a disk. -/
import Derived.Test.YtjobmlnekpaagaaDoorDw7b
namespace Go.Proofs.YtjobmlnekpaagaaDoor
open Go Go.RowKit Go.Maps
set_option linter.unusedVariables false

set_option maxRecDepth 100000 in
set_option maxHeartbeats 1600000 in
theorem trim_any {w : World} {b s m : Nat} {v : Value} {N : Nat} {d : Dk} (h : DiskAt w b s m v d) (ok : d.Ok N) (hN : N + 1 ≤ 1099511627776) (f : ByteArray) (n : Int) (hf : f.size ≤ 9223372036854775807) (hn0 : -9223372036854775808 ≤ n) (hn1 : n ≤ 9223372036854775807) :
    Calls Tryd.prog 55 #[.pointer (some ⟨b, 0, none⟩), .string f, .int .i64 n] w fun e w' => e = .returned (.int .i64 (d.trim f n).2) ∧ Step w b s m v w' (d.trim f n).1 := by
  have H := Lib.hid h
  have ht := there_any h f hf
  by_cases hq : d.there f = 0
  · rw [hq] at ht
    have hnm := Dk.there_name (d := d) (a := f) (by omega)
    have hg := ok.nowSmall.get f
    have hs := Dk.name_size hnm.2.1
    by_cases hb : n < 0 ∨ (d.now.get f).size < n
    · have he : d.trim f n = (d, 1) := by unfold Dk.trim; rw [hq]; simp [hb]
      have HE := Lib.hid he
      clear h ok he hnm hq
      rcases hb with hb | hb
      all_goals
        go_enter Tryd.func55, Tryd.ntmps55
        go_wp2_with (go_at_call 59; refine ht.mono ?_; rintro e w1 ⟨rfl, hk1⟩; have h1 := H.out.kept hk1 (fun _ _ f => f); have q1 := h1.cs.c1; have hlk := look_run (k := f) h1.now (by unfold maxLen; omega); clear h1)
        go_ret
        rw [HE.out]
        exact ⟨rfl, Step.same H.out hk1⟩
    · have he : d.trim f n = d.lay (.trim f n) := by unfold Dk.trim; rw [hq]; simp [hb]
      have HE := Lib.hid he
      have h0 : 0 ≤ n := by omega
      have h1' : n ≤ (d.now.get f).size := by omega
      have hl : ∀ W, DiskAt W b s m v d → Calls Tryd.prog 52 #[.pointer (some ⟨b, 0, none⟩), .iface 141 (.agg #[.string f, .int .i64 n])] W fun e w' => e = .returned (.int .i64 (d.lay (.trim f n)).2) ∧ Step W b s m v w' (d.lay (.trim f n)).1 := fun W hW => lay_any hW ok hN hnm.1 (c := .trim f n) ⟨hs, by omega, by omega⟩
      have HL := Lib.hid hl
      clear h ok he hnm hq hb hl
      go_enter Tryd.func55, Tryd.ntmps55
      go_wp2_with (first | (go_at_call 59; refine ht.mono ?_; rintro e w1 ⟨rfl, hk1⟩; have h1 := H.out.kept hk1 (fun _ _ f => f); have q1 := h1.cs.c1; have hlk := look_run (k := f) h1.now (by unfold maxLen; omega); have H1 := Lib.hid h1; clear h1) | (go_at_call 52; refine (HL.out _ H1.out).mono ?_; rintro e w2 ⟨rfl, hstep⟩))
      go_ret
      rw [HE.out]
      exact ⟨rfl, hstep.before hk1 (fun _ f => f.elim)⟩
  · have he : d.trim f n = (d, d.there f) := by unfold Dk.trim; rw [if_pos hq]
    have HE := Lib.hid he
    generalize d.there f = q at ht hq HE
    have hq1 : (q == 0) = false := by simpa using hq
    have hq2 : (q != 0) = true := by simpa using hq
    clear h ok he hq
    go_enter Tryd.func55, Tryd.ntmps55
    go_wp2_with (go_at_call 59; refine ht.mono ?_; rintro e w1 ⟨rfl, hk1⟩)
    go_ret
    rw [HE.out]
    exact ⟨rfl, Step.same H.out hk1⟩
set_option maxRecDepth 100000 in
set_option maxHeartbeats 1600000 in
theorem drop_any {w : World} {b s m : Nat} {v : Value} {N : Nat} {d : Dk} (h : DiskAt w b s m v d) (ok : d.Ok N) (hN : N + 1 ≤ 1099511627776) (f : ByteArray) (hf : f.size ≤ 9223372036854775807) :
    Calls Tryd.prog 57 #[.pointer (some ⟨b, 0, none⟩), .string f] w fun e w' => e = .returned (.int .i64 (d.drop f).2) ∧ Step w b s m v w' (d.drop f).1 := by
  have H := Lib.hid h
  have ht := there_any h f hf
  by_cases hq : d.there f = 0
  · rw [hq] at ht
    have hnm := Dk.there_name (d := d) (a := f) (by omega)
    have hs := Dk.name_size hnm.2.1
    have he : d.drop f = d.lay (.drop f) := by unfold Dk.drop; rw [hq]; simp
    have HE := Lib.hid he
    have hl : ∀ W, DiskAt W b s m v d → Calls Tryd.prog 52 #[.pointer (some ⟨b, 0, none⟩), .iface 145 (.agg #[.string f])] W fun e w' => e = .returned (.int .i64 (d.lay (.drop f)).2) ∧ Step W b s m v w' (d.lay (.drop f)).1 := fun W hW => lay_any hW ok hN hnm.1 (c := .drop f) hs
    have HL := Lib.hid hl
    clear h ok he hnm hq hl
    go_enter Tryd.func57, Tryd.ntmps57
    go_wp2_with (first | (go_at_call 59; refine ht.mono ?_; rintro e w1 ⟨rfl, hk1⟩; have H1 := Lib.hid (H.out.kept hk1 (fun _ _ f => f))) | (go_at_call 52; refine (HL.out _ H1.out).mono ?_; rintro e w2 ⟨rfl, hstep⟩))
    go_ret
    rw [HE.out]
    exact ⟨rfl, hstep.before hk1 (fun _ f => f.elim)⟩
  · have he : d.drop f = (d, d.there f) := by unfold Dk.drop; rw [if_pos hq]
    have HE := Lib.hid he
    generalize d.there f = q at ht hq HE
    have hq1 : (q == 0) = false := by simpa using hq
    have hq2 : (q != 0) = true := by simpa using hq
    clear h ok he hq
    go_enter Tryd.func57, Tryd.ntmps57
    go_wp2_with (go_at_call 59; refine ht.mono ?_; rintro e w1 ⟨rfl, hk1⟩)
    go_ret
    rw [HE.out]
    exact ⟨rfl, Step.same H.out hk1⟩
end Go.Proofs.YtjobmlnekpaagaaDoor
