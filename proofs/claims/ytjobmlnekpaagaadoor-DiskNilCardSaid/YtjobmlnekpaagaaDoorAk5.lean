/- Layer 5's example. -/
import Derived.Test.YtjobmlnekpaagaaDoorOwn
namespace Go.Proofs.YtjobmlnekpaagaaDoor
open Go Go.RowKit Go.Maps
set_option linter.unusedVariables false

def akA : ByteArray := ⟨#[97]⟩
def ak1 : Dk := (Dk.new.put akA 0 ⟨#[120, 121, 122]⟩).1
def ak2 : Dk := ak1.sync.1
def ak3 : Dk := (ak2.put akA 3 ⟨#[117, 118, 119]⟩).1
def ak4 : Dk := ak3.fail 3
def ak5 : Dk := ak4.wake
theorem ak1_ok : ak1.Ok 1 := Dk.ok_new.put _ _ _
theorem ak2_ok : ak2.Ok 1 := ak1_ok.sync
theorem ak3_ok : ak3.Ok 2 := ak2_ok.put _ _ _
theorem ak_r1 : (Dk.new.put akA 0 ⟨#[120, 121, 122]⟩).2 = 0 := by decide +kernel
theorem ak_r2 : ak1.sync.2 = 0 := by decide +kernel
theorem ak_r3 : (ak2.put akA 3 ⟨#[117, 118, 119]⟩).2 = 0 := by decide +kernel
theorem ak_r4 : (ak4.read akA).2 = 8 := by decide +kernel
theorem ak_r5 : (ak5.read akA).2 = 0 := by decide +kernel
theorem ak_r6 : (ak5.read akA).1.data.toList = [120, 121, 122, 117, 118] := by decide +kernel
theorem ak_r7 : (ak5.read akA).1 = ⟨#[120, 121, 122, 117, 118]⟩ := Fm.data_inj ak_r6
set_option maxRecDepth 100000 in
set_option maxHeartbeats 1600000 in
theorem awake5 (w : World) : Calls Tryd.prog 14 #[] w fun e w' => e = .returned (.bool true) ∧ Kept (fun _ => False) w w' := by
  go_enter Tryd.func14, Tryd.ntmps14
  go_wp2_with fail
  refine (own_new (Kept.refl (fun _ => False) w)).mono ?_
  rintro e w1 ⟨b, rfl, h1⟩
  have H1 := Lib.hid h1
  clear h1
  go_wp2_with fail
  have hc := own_put H1.out Dk.ok_new (by decide) akA 0 ⟨#[120, 121, 122]⟩ (by decide) (by decide) ⟨by decide, by decide⟩
  rw [ak_r1] at hc
  refine hc.mono ?_
  clear hc
  rintro e w2 ⟨rfl, h2⟩
  have H2 := Lib.hid h2
  clear h2
  go_wp2_with fail
  have hc := own_sync H2.out ak1_ok (by decide)
  change Calls _ _ _ _ (fun e w' => e = .returned (.int .i64 ak1.sync.2) ∧ Own w w' b ak2) at hc
  rw [ak_r2] at hc
  refine hc.mono ?_
  clear hc
  rintro e w3 ⟨rfl, h3⟩
  have H3 := Lib.hid h3
  clear h3
  go_wp2_with fail
  have hc := own_put H3.out ak2_ok (by decide) akA 3 ⟨#[117, 118, 119]⟩ (by decide) (by decide) ⟨by decide, by decide⟩
  rw [ak_r3] at hc
  refine hc.mono ?_
  clear hc
  rintro e w4 ⟨rfl, h4⟩
  have H4 := Lib.hid h4
  clear h4
  go_wp2_with fail
  refine (own_fail (d := ak3) H4.out ak3_ok (by decide) 3 ⟨by decide, by decide⟩).mono ?_
  rintro e w5 ⟨rfl, h5⟩
  have H5 := Lib.hid h5
  clear h5
  go_wp2_with fail
  have hc := own_read (d := ak4) H5.out akA (by decide)
  rw [ak_r4] at hc
  refine hc.mono ?_
  clear hc
  rintro e w6 ⟨rfl, h6⟩
  have H6 := Lib.hid h6
  clear h6
  go_wp2_with fail
  refine (own_wake (d := ak4) H6.out).mono ?_
  rintro e w7 ⟨rfl, h7⟩
  have H7 := Lib.hid h7
  clear h7
  go_wp2_with fail
  have hc := own_read (d := ak5) H7.out akA (by decide)
  rw [ak_r5, ak_r7] at hc
  refine hc.mono ?_
  clear hc
  rintro e w8 ⟨rfl, h8⟩
  have H8 := Lib.hid h8
  clear h8
  go_wp2_with fail
  go_ret
  exact ⟨rfl, H8.out.kept⟩
end Go.Proofs.YtjobmlnekpaagaaDoor
