/- Put. -/
import Derived.Test.YtjobmlnekpaagaaDoorDw6
import Derived.Deep.RegionHeld3
import Derived.Deep.QuietTactic
import Derived.BigQuiet
namespace Go.Proofs.YtjobmlnekpaagaaDoor
open Go Go.RowKit Go.Maps
set_option linter.unusedVariables false

set_option maxRecDepth 100000 in
set_option maxHeartbeats 400000 in
theorem there_any {w : World} {b s m : Nat} {v : Value} {d : Dk} (h : DiskAt w b s m v d) (f : ByteArray) (hf : f.size ≤ 9223372036854775807) :
    Calls Tryd.prog 59 #[.pointer (some ⟨b, 0, none⟩), .string f] w fun e w' => e = .returned (.int .i64 (d.there f)) ∧ Kept (fun _ => False) w w' := by
  have H := Lib.hid h
  cases hd : d.down with
  | true =>
    have hr := ready_down h hd
    have he : d.there f = 8 := by unfold Dk.there; rw [hd]; rfl
    have HE := Lib.hid he
    clear h hd he
    go_enter Tryd.func59, Tryd.ntmps59
    go_wp2_with (go_at_call 50; refine hr.mono ?_; rintro e w' ⟨rfl, rfl⟩)
    go_ret
    exact ⟨by rw [HE.out]; rfl, Kept.refl _ _⟩
  | false =>
    have hr := ready_up h hd
    have hn := fun w => name_any f w hf
    cases hnm : Dk.name f with
    | false =>
      have he : d.there f = 1 := by unfold Dk.there; rw [hd, hnm]; rfl
      have HE := Lib.hid he
      rw [hnm] at hn
      clear h hd he hnm
      go_enter Tryd.func59, Tryd.ntmps59
      go_wp2_with (first | (go_at_call 50; refine hr.mono ?_; rintro e w' ⟨rfl, rfl⟩) | (go_at_call 51; refine (hn _).mono ?_; rintro e w1 ⟨rfl, hk1⟩))
      go_ret
      exact ⟨by rw [HE.out]; rfl, hk1⟩
    | true =>
      have hs := Dk.name_size hnm
      have hlt := h.lt
      rw [hnm] at hn
      cases hh : d.now.has f with
      | false =>
        have he : d.there f = 4 := by unfold Dk.there; rw [hd, hnm, hh]; rfl
        have HE := Lib.hid he
        clear h hd he hnm
        go_enter Tryd.func59, Tryd.ntmps59
        go_wp2_with (first | (go_at_call 50; refine hr.mono ?_; rintro e w' ⟨rfl, rfl⟩) | (go_at_call 51; refine (hn _).mono ?_; rintro e w1 ⟨rfl, hk1⟩; have h1 := H.out.kept hk1 (fun _ _ f => f); have c1 := h1.cs.c1; have hl1 := look_ok_run (k := f) h1.now (by unfold maxLen; omega); rw [hh] at hl1; clear h1))
        go_ret
        exact ⟨by rw [HE.out]; rfl, hk1⟩
      | true =>
        have he : d.there f = 0 := by unfold Dk.there; rw [hd, hnm, hh]; rfl
        have HE := Lib.hid he
        clear h hd he hnm
        go_enter Tryd.func59, Tryd.ntmps59
        go_wp2_with (first | (go_at_call 50; refine hr.mono ?_; rintro e w' ⟨rfl, rfl⟩) | (go_at_call 51; refine (hn _).mono ?_; rintro e w1 ⟨rfl, hk1⟩; have h1 := H.out.kept hk1 (fun _ _ f => f); have c1 := h1.cs.c1; have hl1 := look_ok_run (k := f) h1.now (by unfold maxLen; omega); rw [hh] at hl1; clear h1))
        go_ret
        exact ⟨by rw [HE.out]; rfl, hk1⟩
set_option maxRecDepth 100000 in
set_option maxHeartbeats 1600000 in
theorem put_down {w : World} {b s m : Nat} {v : Value} {N : Nat} {d : Dk} (h : DiskAt w b s m v d) (ok : d.Ok N) (hN : N + 1 ≤ 1099511627776) (f : ByteArray) (at_ : Int) (t : ByteArray) (hf : f.size ≤ 9223372036854775807) (ht : t.size ≤ 9223372036854775807) (ha0 : -9223372036854775808 ≤ at_) (ha1 : at_ ≤ 9223372036854775807) (hd : d.down = true) :
    Calls Tryd.prog 15 #[.pointer (some ⟨b, 0, none⟩), .string f, .int .i64 at_, .string t] w fun e w' => e = .returned (.int .i64 (d.put f at_ t).2) ∧ Step w b s m v w' (d.put f at_ t).1 := by
  have H := Lib.hid h
  have hr := ready_down h hd
  have he : d.put f at_ t = (d, 8) := by unfold Dk.put; rw [hd]; rfl
  rw [he]
  clear h ok hd he
  go_enter Tryd.func15, Tryd.ntmps15
  go_wp2_with (go_at_call 50; refine hr.mono ?_; rintro e w' ⟨rfl, rfl⟩)
  go_ret
  exact ⟨rfl, Step.same H.out (Kept.refl _ _)⟩
set_option maxRecDepth 100000 in
set_option maxHeartbeats 1600000 in
theorem put_bad_name {w : World} {b s m : Nat} {v : Value} {N : Nat} {d : Dk} (h : DiskAt w b s m v d) (ok : d.Ok N) (hN : N + 1 ≤ 1099511627776) (f : ByteArray) (at_ : Int) (t : ByteArray) (hf : f.size ≤ 9223372036854775807) (ht : t.size ≤ 9223372036854775807) (ha0 : -9223372036854775808 ≤ at_) (ha1 : at_ ≤ 9223372036854775807) (hd : d.down = false) (hnm : Dk.name f = false) :
    Calls Tryd.prog 15 #[.pointer (some ⟨b, 0, none⟩), .string f, .int .i64 at_, .string t] w fun e w' => e = .returned (.int .i64 (d.put f at_ t).2) ∧ Step w b s m v w' (d.put f at_ t).1 := by
  have H := Lib.hid h
  have hr := ready_up h hd
  have c1 := h.cs.c1
  have hg := ok.nowSmall.get f
  have hlk := look_run (k := f) h.now (by unfold maxLen; omega)
  have hn := fun w => name_any f w hf
  rw [hnm] at hn
  have he : d.put f at_ t = (d, 1) := by unfold Dk.put Dk.putBad; rw [hd, hnm]; rfl
  rw [he]
  clear h ok hd he hnm
  go_enter Tryd.func15, Tryd.ntmps15
  go_wp2_with (first | (go_at_call 50; refine hr.mono ?_; rintro e w' ⟨rfl, rfl⟩) | (go_at_call 51; refine (hn _).mono ?_; rintro e w1 ⟨rfl, hk1⟩))
  go_ret
  exact ⟨rfl, Step.same H.out hk1⟩
set_option maxRecDepth 100000 in
set_option maxHeartbeats 1600000 in
theorem put_bad_low {w : World} {b s m : Nat} {v : Value} {N : Nat} {d : Dk} (h : DiskAt w b s m v d) (ok : d.Ok N) (hN : N + 1 ≤ 1099511627776) (f : ByteArray) (at_ : Int) (t : ByteArray) (hf : f.size ≤ 9223372036854775807) (ht : t.size ≤ 9223372036854775807) (ha0 : -9223372036854775808 ≤ at_) (ha1 : at_ ≤ 9223372036854775807) (hd : d.down = false) (hnm : Dk.name f = true) (h0 : at_ < 0) :
    Calls Tryd.prog 15 #[.pointer (some ⟨b, 0, none⟩), .string f, .int .i64 at_, .string t] w fun e w' => e = .returned (.int .i64 (d.put f at_ t).2) ∧ Step w b s m v w' (d.put f at_ t).1 := by
  have H := Lib.hid h
  have hr := ready_up h hd
  have c1 := h.cs.c1
  have hg := ok.nowSmall.get f
  have hlk := look_run (k := f) h.now (by unfold maxLen; omega)
  have hn := fun w => name_any f w hf
  rw [hnm] at hn
  have he : d.put f at_ t = (d, 1) := by unfold Dk.put Dk.putBad; rw [hd, hnm]; simp; omega
  rw [he]
  clear h ok hd he hnm
  go_enter Tryd.func15, Tryd.ntmps15
  go_wp2_with (first | (go_at_call 50; refine hr.mono ?_; rintro e w' ⟨rfl, rfl⟩) | (go_at_call 51; refine (hn _).mono ?_; rintro e w1 ⟨rfl, hk1⟩))
  go_ret
  exact ⟨rfl, Step.same H.out hk1⟩
set_option maxRecDepth 100000 in
set_option maxHeartbeats 1600000 in
theorem put_bad_high {w : World} {b s m : Nat} {v : Value} {N : Nat} {d : Dk} (h : DiskAt w b s m v d) (ok : d.Ok N) (hN : N + 1 ≤ 1099511627776) (f : ByteArray) (at_ : Int) (t : ByteArray) (hf : f.size ≤ 9223372036854775807) (ht : t.size ≤ 9223372036854775807) (ha0 : -9223372036854775808 ≤ at_) (ha1 : at_ ≤ 9223372036854775807) (hd : d.down = false) (hnm : Dk.name f = true) (h0 : 0 ≤ at_) (h1 : (d.now.get f).size < at_) :
    Calls Tryd.prog 15 #[.pointer (some ⟨b, 0, none⟩), .string f, .int .i64 at_, .string t] w fun e w' => e = .returned (.int .i64 (d.put f at_ t).2) ∧ Step w b s m v w' (d.put f at_ t).1 := by
  have H := Lib.hid h
  have hr := ready_up h hd
  have c1 := h.cs.c1
  have hg := ok.nowSmall.get f
  have hlk := look_run (k := f) h.now (by unfold maxLen; omega)
  have hn := fun w => name_any f w hf
  rw [hnm] at hn
  have he : d.put f at_ t = (d, 1) := by unfold Dk.put Dk.putBad; rw [hd, hnm]; simp; omega
  rw [he]
  clear h ok hd he hnm
  go_enter Tryd.func15, Tryd.ntmps15
  go_wp2_with (first | (go_at_call 50; refine hr.mono ?_; rintro e w' ⟨rfl, rfl⟩) | (go_at_call 51; refine (hn _).mono ?_; rintro e w1 ⟨rfl, hk1⟩))
  go_ret
  exact ⟨rfl, Step.same H.out hk1⟩
set_option maxRecDepth 100000 in
set_option maxHeartbeats 1600000 in
theorem put_bad_long {w : World} {b s m : Nat} {v : Value} {N : Nat} {d : Dk} (h : DiskAt w b s m v d) (ok : d.Ok N) (hN : N + 1 ≤ 1099511627776) (f : ByteArray) (at_ : Int) (t : ByteArray) (hf : f.size ≤ 9223372036854775807) (ht : t.size ≤ 9223372036854775807) (ha0 : -9223372036854775808 ≤ at_) (ha1 : at_ ≤ 9223372036854775807) (hd : d.down = false) (hnm : Dk.name f = true) (h0 : 0 ≤ at_) (h1 : at_ ≤ (d.now.get f).size) (h2 : 4194304 - at_ < t.size) :
    Calls Tryd.prog 15 #[.pointer (some ⟨b, 0, none⟩), .string f, .int .i64 at_, .string t] w fun e w' => e = .returned (.int .i64 (d.put f at_ t).2) ∧ Step w b s m v w' (d.put f at_ t).1 := by
  have H := Lib.hid h
  have hr := ready_up h hd
  have c1 := h.cs.c1
  have hg := ok.nowSmall.get f
  have hlk := look_run (k := f) h.now (by unfold maxLen; omega)
  have hn := fun w => name_any f w hf
  rw [hnm] at hn
  have he : d.put f at_ t = (d, 1) := by unfold Dk.put Dk.putBad; rw [hd, hnm]; simp; omega
  rw [he]
  clear h ok hd he hnm
  go_enter Tryd.func15, Tryd.ntmps15
  go_wp2_with (first | (go_at_call 50; refine hr.mono ?_; rintro e w' ⟨rfl, rfl⟩) | (go_at_call 51; refine (hn _).mono ?_; rintro e w1 ⟨rfl, hk1⟩))
  go_ret
  exact ⟨rfl, Step.same H.out hk1⟩
end Go.Proofs.YtjobmlnekpaagaaDoor
