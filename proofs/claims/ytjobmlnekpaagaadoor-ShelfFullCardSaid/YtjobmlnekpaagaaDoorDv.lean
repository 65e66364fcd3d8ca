/- The document's Voted and May, walked. -/
import Derived.Test.YtjobmlnekpaagaaDoorSg
namespace Go.Proofs.YtjobmlnekpaagaaDoor
open Go Go.RowKit Go.Maps
set_option linter.unusedVariables false

set_option maxRecDepth 100000 in
set_option maxHeartbeats 4000000 in
theorem docVoted (w : World) (v : Vt) : Calls Tryd.prog 38 #[.agg v.cells.toArray] w fun e w' => e = .returned (.bool v.may) ∧ Kept (fun _ => False) w w' := by
  have hm := Vt.may_iff (v := v)
  generalize v.may = r at *
  obtain ⟨t, f⟩ := v
  simp only [Vt.cells] at *
  have HK := Lib.hid ((Kept.refl (fun _ => False) w).alloc (.cells #[.int .i64 t, .int .i64 f] 41))
  have HM := Lib.hid hm
  clear hm
  by_cases c0 : 0 ≤ t
  case neg =>
    have g0 : decide (t ≥ 0) = false := decide_eq_false (by omega)
    have hr : r = false := by
      cases r with
      | false => rfl
      | true => have := HM.out.1 rfl; omega
    subst hr
    clear HM
    clear c0
    go_enter Tryd.func38, Tryd.ntmps38
    go_wp2_with fail
    go_ret
    exact ⟨rfl, HK.out⟩
  have g0 : decide (t ≥ 0) = true := decide_eq_true (by omega)
  by_cases c1 : t ≤ 549755813888
  case neg =>
    have g1 : decide (t ≤ 549755813888) = false := decide_eq_false (by omega)
    have hr : r = false := by
      cases r with
      | false => rfl
      | true => have := HM.out.1 rfl; omega
    subst hr
    clear HM
    clear c0
    clear c1
    go_enter Tryd.func38, Tryd.ntmps38
    go_wp2_with fail
    go_ret
    exact ⟨rfl, HK.out⟩
  have g1 : decide (t ≤ 549755813888) = true := decide_eq_true (by omega)
  by_cases c2 : -1 ≤ f
  case neg =>
    have g2 : decide (f ≥ -1) = false := decide_eq_false (by omega)
    have hr : r = false := by
      cases r with
      | false => rfl
      | true => have := HM.out.1 rfl; omega
    subst hr
    clear HM
    clear c0
    clear c1
    clear c2
    go_enter Tryd.func38, Tryd.ntmps38
    go_wp2_with fail
    go_ret
    exact ⟨rfl, HK.out⟩
  have g2 : decide (f ≥ -1) = true := decide_eq_true (by omega)
  have hr : r = decide (f ≤ 6) := by
    rw [Bool.eq_iff_iff, HM.out, decide_eq_true_eq]
    omega
  subst hr
  clear HM
  clear c0
  clear c1
  clear c2
  go_enter Tryd.func38, Tryd.ntmps38
  go_wp2_with fail
  go_ret
  exact ⟨rfl, HK.out⟩
set_option maxRecDepth 100000 in
set_option maxHeartbeats 4000000 in
theorem docMay (w : World) (s : Sn) : Calls Tryd.prog 39 #[.agg s.cells.toArray] w fun e w' => e = .returned (.bool s.may) ∧ Kept (fun _ => False) w w' := by
  have hm := Sn.may_iff (s := s)
  generalize s.may = r at *
  obtain ⟨i, t, m, x⟩ := s
  simp only [Sn.cells] at *
  have HK := Lib.hid ((Kept.refl (fun _ => False) w).alloc (.cells #[.int .i64 i, .int .i64 t, .int .i64 m, .string x] 48))
  have HM := Lib.hid hm
  clear hm
  by_cases c0 : 0 ≤ i
  case neg =>
    have g0 : decide (i ≥ 0) = false := decide_eq_false (by omega)
    have hr : r = false := by
      cases r with
      | false => rfl
      | true => have := HM.out.1 rfl; omega
    subst hr
    clear HM
    clear c0
    go_enter Tryd.func39, Tryd.ntmps39
    go_wp2_with fail
    go_ret
    exact ⟨rfl, HK.out⟩
  have g0 : decide (i ≥ 0) = true := decide_eq_true (by omega)
  by_cases c1 : i ≤ 549755813888
  case neg =>
    have g1 : decide (i ≤ 549755813888) = false := decide_eq_false (by omega)
    have hr : r = false := by
      cases r with
      | false => rfl
      | true => have := HM.out.1 rfl; omega
    subst hr
    clear HM
    clear c0
    clear c1
    go_enter Tryd.func39, Tryd.ntmps39
    go_wp2_with fail
    go_ret
    exact ⟨rfl, HK.out⟩
  have g1 : decide (i ≤ 549755813888) = true := decide_eq_true (by omega)
  by_cases c2 : 0 ≤ t
  case neg =>
    have g2 : decide (t ≥ 0) = false := decide_eq_false (by omega)
    have hr : r = false := by
      cases r with
      | false => rfl
      | true => have := HM.out.1 rfl; omega
    subst hr
    clear HM
    clear c0
    clear c1
    clear c2
    go_enter Tryd.func39, Tryd.ntmps39
    go_wp2_with fail
    go_ret
    exact ⟨rfl, HK.out⟩
  have g2 : decide (t ≥ 0) = true := decide_eq_true (by omega)
  by_cases c3 : t ≤ 549755813888
  case neg =>
    have g3 : decide (t ≤ 549755813888) = false := decide_eq_false (by omega)
    have hr : r = false := by
      cases r with
      | false => rfl
      | true => have := HM.out.1 rfl; omega
    subst hr
    clear HM
    clear c0
    clear c1
    clear c2
    clear c3
    go_enter Tryd.func39, Tryd.ntmps39
    go_wp2_with fail
    go_ret
    exact ⟨rfl, HK.out⟩
  have g3 : decide (t ≤ 549755813888) = true := decide_eq_true (by omega)
  by_cases c4 : 0 ≤ m
  case neg =>
    have g4 : decide (m ≥ 0) = false := decide_eq_false (by omega)
    have hr : r = false := by
      cases r with
      | false => rfl
      | true => have := HM.out.1 rfl; omega
    subst hr
    clear HM
    clear c0
    clear c1
    clear c2
    clear c3
    clear c4
    go_enter Tryd.func39, Tryd.ntmps39
    go_wp2_with fail
    go_ret
    exact ⟨rfl, HK.out⟩
  have g4 : decide (m ≥ 0) = true := decide_eq_true (by omega)
  by_cases c5 : m ≤ 127
  case neg =>
    have g5 : decide (m ≤ 127) = false := decide_eq_false (by omega)
    have hr : r = false := by
      cases r with
      | false => rfl
      | true => have := HM.out.1 rfl; omega
    subst hr
    clear HM
    clear c0
    clear c1
    clear c2
    clear c3
    clear c4
    clear c5
    go_enter Tryd.func39, Tryd.ntmps39
    go_wp2_with fail
    go_ret
    exact ⟨rfl, HK.out⟩
  have g5 : decide (m ≤ 127) = true := decide_eq_true (by omega)
  have hr : r = decide ((x.size : Int) ≤ 262144) := by
    rw [Bool.eq_iff_iff, HM.out, decide_eq_true_eq]
    omega
  subst hr
  clear HM
  clear c0
  clear c1
  clear c2
  clear c3
  clear c4
  clear c5
  go_enter Tryd.func39, Tryd.ntmps39
  go_wp2_with fail
  go_ret
  exact ⟨rfl, HK.out⟩
end Go.Proofs.YtjobmlnekpaagaaDoor
