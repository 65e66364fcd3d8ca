/- Put, the rest. -/
import Derived.Test.YtjobmlnekpaagaaDoorDw7
import Derived.IntWalk
namespace Go.Proofs.YtjobmlnekpaagaaDoor
open Go Go.RowKit Go.Maps
set_option linter.unusedVariables false

theorem held3 {w w1 w2 : World} {b s m : Nat} {v : Value} {d : Dk} (h : DiskAt w b s m v d) (h1 : Kept (fun _ => False) w w1) (h2 : Kept (fun _ => False) w1 w2) : w2.cell? ⟨b, 3, none⟩ = some (.int .i64 d.room) ∧ Kept (fun _ => False) w w2 :=
  ⟨(h.kept (h1.trans h2) (fun _ _ f => f)).cs.c3, h1.trans h2⟩
set_option maxRecDepth 100000 in
set_option maxHeartbeats 1600000 in
theorem put_free {w : World} {b s m : Nat} {v : Value} {N : Nat} {d : Dk} (h : DiskAt w b s m v d) (ok : d.Ok N) (hN : N + 1 ≤ 1099511627776) (f : ByteArray) (at_ : Int) (t : ByteArray) (hf : f.size ≤ 9223372036854775807) (ht : t.size ≤ 9223372036854775807) (ha0 : -9223372036854775808 ≤ at_) (ha1 : at_ ≤ 9223372036854775807) (hd : d.down = false) (hnm : Dk.name f = true) (h0 : 0 ≤ at_) (h1 : at_ ≤ (d.now.get f).size) (h2 : t.size ≤ 4194304 - at_) (h3 : d.room < 0) :
    Calls Tryd.prog 15 #[.pointer (some ⟨b, 0, none⟩), .string f, .int .i64 at_, .string t] w fun e w' => e = .returned (.int .i64 (d.put f at_ t).2) ∧ Step w b s m v w' (d.put f at_ t).1 := by
  have H := Lib.hid h
  have hr := ready_up h hd
  have c1 := h.cs.c1
  have hg := ok.nowSmall.get f
  have hlk := look_run (k := f) h.now (by unfold maxLen; omega)
  have hn := fun w => name_any f w hf
  rw [hnm] at hn
  have hpb : d.putBad f at_ t = false := by unfold Dk.putBad; rw [hnm]; simp; omega
  have hl : ∀ W, DiskAt W b s m v d → Calls Tryd.prog 52 #[.pointer (some ⟨b, 0, none⟩), .iface 93 (.agg #[.string f, .string t, .int .i64 at_])] W fun e w' => e = .returned (.int .i64 (d.lay (.put f t at_)).2) ∧ Step W b s m v w' (d.lay (.put f t at_)).1 := fun W hW => lay_any hW ok hN hd (Dk.put_fits hpb)
  have HL := Lib.hid hl
  clear hl
  have he : d.put f at_ t = d.lay (.put f t at_) := by unfold Dk.put Dk.full; rw [hd, hpb]; have : decide (0 ≤ d.room) = false := by simpa using h3
                                                       rw [this]; rfl
  rw [he]
  clear h ok hd he hnm hpb
  have hdec : decide (0 ≤ d.room) = false := by simpa using h3
  go_enter Tryd.func15, Tryd.ntmps15
  go_wp2_with (first | (go_at_call 50; refine hr.mono ?_; rintro e w' ⟨rfl, rfl⟩) | (go_at_call 51; refine (hn _).mono ?_; rintro e w1 ⟨rfl, hk1⟩; have h1 := H.out.kept hk1 (fun _ _ f => f); have q3 := h1.cs.c3; have H1 := Lib.hid h1; clear h1))
  go_quiet (fail)
  go_wp2_with (go_at_call 52; refine (HL.out _ (H1.out.drewN _)).mono ?_; rintro e w2 ⟨rfl, hstep⟩)
  go_ret
  exact ⟨rfl, (hstep.before ((hk1.drewN _)) (fun _ f => f.elim))⟩
set_option maxRecDepth 100000 in
set_option maxHeartbeats 1600000 in
theorem put_small {w : World} {b s m : Nat} {v : Value} {N : Nat} {d : Dk} (h : DiskAt w b s m v d) (ok : d.Ok N) (hN : N + 1 ≤ 1099511627776) (f : ByteArray) (at_ : Int) (t : ByteArray) (hf : f.size ≤ 9223372036854775807) (ht : t.size ≤ 9223372036854775807) (ha0 : -9223372036854775808 ≤ at_) (ha1 : at_ ≤ 9223372036854775807) (hd : d.down = false) (hnm : Dk.name f = true) (h0 : 0 ≤ at_) (h1 : at_ ≤ (d.now.get f).size) (h2 : t.size ≤ 4194304 - at_) (h3 : 0 ≤ d.room) (h4 : Dk.more (d.now.get f) t at_ ≤ 0) :
    Calls Tryd.prog 15 #[.pointer (some ⟨b, 0, none⟩), .string f, .int .i64 at_, .string t] w fun e w' => e = .returned (.int .i64 (d.put f at_ t).2) ∧ Step w b s m v w' (d.put f at_ t).1 := by
  have H := Lib.hid h
  have hr := ready_up h hd
  have c1 := h.cs.c1
  have hg := ok.nowSmall.get f
  have hlk := look_run (k := f) h.now (by unfold maxLen; omega)
  have hn := fun w => name_any f w hf
  rw [hnm] at hn
  have hpb : d.putBad f at_ t = false := by unfold Dk.putBad; rw [hnm]; simp; omega
  have hl : ∀ W, DiskAt W b s m v d → Calls Tryd.prog 52 #[.pointer (some ⟨b, 0, none⟩), .iface 93 (.agg #[.string f, .string t, .int .i64 at_])] W fun e w' => e = .returned (.int .i64 (d.lay (.put f t at_)).2) ∧ Step W b s m v w' (d.lay (.put f t at_)).1 := fun W hW => lay_any hW ok hN hd (Dk.put_fits hpb)
  have HL := Lib.hid hl
  clear hl
  have he : d.put f at_ t = d.lay (.put f t at_) := by unfold Dk.put Dk.full; rw [hd, hpb]; have : decide (0 < Dk.more (d.now.get f) t at_) = false := by simpa using h4
                                                       rw [this]; simp
  rw [he]
  clear h ok hd he hnm hpb
  have hdec : decide (0 ≤ d.room) = true := by simpa using h3
  unfold Dk.more at h4
  have hdec2 : decide (0 < (t.size : Int) - ((d.now.get f).size - at_)) = false := decide_eq_false (by omega)
  have hdec3 : decide (((d.now.get f).size : Int) - at_ < t.size) = false := decide_eq_false (by omega)
  go_enter Tryd.func15, Tryd.ntmps15
  go_wp2_with (first | (go_at_call 50; refine hr.mono ?_; rintro e w' ⟨rfl, rfl⟩) | (go_at_call 51; refine (hn _).mono ?_; rintro e w1 ⟨rfl, hk1⟩; have h1 := H.out.kept hk1 (fun _ _ f => f); have q3 := h1.cs.c3; have H1 := Lib.hid h1; clear h1))
  go_quiet (fail)
  go_wp2_with (go_at_call 52; refine (HL.out _ (H1.out.drewN _)).mono ?_; rintro e w2 ⟨rfl, hstep⟩)
  go_ret
  exact ⟨rfl, (hstep.before ((hk1.drewN _)) (fun _ f => f.elim))⟩
set_option maxRecDepth 100000 in
set_option maxHeartbeats 1600000 in
theorem put_used {w : World} {b s m : Nat} {v : Value} {N : Nat} {d : Dk} (h : DiskAt w b s m v d) (ok : d.Ok N) (hN : N + 1 ≤ 1099511627776) (f : ByteArray) (at_ : Int) (t : ByteArray) (hf : f.size ≤ 9223372036854775807) (ht : t.size ≤ 9223372036854775807) (ha0 : -9223372036854775808 ≤ at_) (ha1 : at_ ≤ 9223372036854775807) (hd : d.down = false) (hnm : Dk.name f = true) (h0 : 0 ≤ at_) (h1 : at_ ≤ (d.now.get f).size) (h2 : t.size ≤ 4194304 - at_) (h3 : 0 ≤ d.room) (h4 : 0 < Dk.more (d.now.get f) t at_) :
    Calls Tryd.prog 15 #[.pointer (some ⟨b, 0, none⟩), .string f, .int .i64 at_, .string t] w fun e w' => e = .returned (.int .i64 (d.put f at_ t).2) ∧ Step w b s m v w' (d.put f at_ t).1 := by
  have H := Lib.hid h
  have hr := ready_up h hd
  have c1 := h.cs.c1
  have hg := ok.nowSmall.get f
  have hlk := look_run (k := f) h.now (by unfold maxLen; omega)
  have hn := fun w => name_any f w hf
  rw [hnm] at hn
  have hpb : d.putBad f at_ t = false := by unfold Dk.putBad; rw [hnm]; simp; omega
  have hl : ∀ W, DiskAt W b s m v d → Calls Tryd.prog 52 #[.pointer (some ⟨b, 0, none⟩), .iface 93 (.agg #[.string f, .string t, .int .i64 at_])] W fun e w' => e = .returned (.int .i64 (d.lay (.put f t at_)).2) ∧ Step W b s m v w' (d.lay (.put f t at_)).1 := fun W hW => lay_any hW ok hN hd (Dk.put_fits hpb)
  have HL := Lib.hid hl
  clear hl
  have hus := fun W (h : DiskAt W b s m v d) => used_up h ok (by omega) hd
  have HUS := Lib.hid hus
  have hu0 := Fm.used_nonneg d.now
  have hu1 := ok.room2
  have HD := Lib.hid (show d.down = false from hd)
  have HPB := Lib.hid hpb
  clear h ok hd hnm hpb hus
  have hdec : decide (0 ≤ d.room) = true := by simpa using h3
  have hm4 := h4
  unfold Dk.more at h4
  have hdec2 : decide (0 < (t.size : Int) - ((d.now.get f).size - at_)) = true := decide_eq_true (by omega)
  have hdec3 : decide (((d.now.get f).size : Int) - at_ < t.size) = true := decide_eq_true (by omega)
  go_enter Tryd.func15, Tryd.ntmps15
  go_wp2_with (first | (go_at_call 50; refine hr.mono ?_; rintro e w' ⟨rfl, rfl⟩) | (go_at_call 51; refine (hn _).mono ?_; rintro e w1 ⟨rfl, hk1⟩; have h1 := H.out.kept hk1 (fun _ _ f => f); have q3 := h1.cs.c3; have H1 := Lib.hid h1; clear h1))
  have hwr : IntKind.i64.wrap (d.room - ((t.size : Int) - ((d.now.get f).size - at_))) = d.room - ((t.size : Int) - ((d.now.get f).size - at_)) := IntWalk.i64_in _ (by omega)
  go_region_held3 (fun w' => w'.cell? ⟨b, 3, none⟩ = some (.int .i64 d.room) ∧ Kept (fun _ => False) w1 w') (first | exact ⟨q3, (Kept.refl _ _).drew⟩ | exact held3 H1.out (And.right (by assumption : _ ∧ Kept (fun _ => False) w1 _)) hk2)
    (first | (go_at_call 43; refine (HUS.out _ (H1.out.kept (And.right (by assumption : _ ∧ Kept (fun _ => False) w1 _)) (fun _ _ f => f))).mono ?_; rintro e w2 ⟨rfl, hk2⟩))
  have hh : Kept (fun _ => False) w1 w2 := And.right (by assumption : _ ∧ Kept (fun _ => False) w1 w2)
  have H2 := Lib.hid (H1.out.kept hh (fun _ _ f => f))
  by_cases hfull : d.room - ((t.size : Int) - ((d.now.get f).size - at_)) < d.now.used
  · have he : d.put f at_ t = (d, 7) := by
      unfold Dk.put Dk.full Dk.more
      rw [HD.out, HPB.out]
      simp
      omega
    have HE := Lib.hid he
    clear he
    go_wp2_with fail
    go_ret
    rw [HE.out]
    exact ⟨rfl, Step.same H.out (hk1.trans hh)⟩
  · have he : d.put f at_ t = d.lay (.put f t at_) := by
      have : decide (d.room - Dk.more (d.now.get f) t at_ < d.now.used) = false := decide_eq_false hfull
      unfold Dk.put Dk.full
      rw [HD.out, HPB.out, this]
      simp
    have HE := Lib.hid he
    clear he
    go_wp2_with (go_at_call 52; refine (HL.out _ H2.out).mono ?_; rintro e w3 ⟨rfl, hstep⟩)
    go_ret
    rw [HE.out]
    exact ⟨rfl, hstep.before (hk1.trans hh) (fun _ f => f.elim)⟩
theorem put_any {w : World} {b s m : Nat} {v : Value} {N : Nat} {d : Dk} (h : DiskAt w b s m v d) (ok : d.Ok N) (hN : N + 1 ≤ 1099511627776) (f : ByteArray) (at_ : Int) (t : ByteArray) (hf : f.size ≤ 9223372036854775807) (ht : t.size ≤ 9223372036854775807) (ha0 : -9223372036854775808 ≤ at_) (ha1 : at_ ≤ 9223372036854775807) :
    Calls Tryd.prog 15 #[.pointer (some ⟨b, 0, none⟩), .string f, .int .i64 at_, .string t] w fun e w' => e = .returned (.int .i64 (d.put f at_ t).2) ∧ Step w b s m v w' (d.put f at_ t).1 := by
  cases hd : d.down with
  | true => exact put_down h ok hN f at_ t hf ht ha0 ha1 hd
  | false =>
    cases hnm : Dk.name f with
    | false => exact put_bad_name h ok hN f at_ t hf ht ha0 ha1 hd hnm
    | true =>
      by_cases h0 : at_ < 0
      · exact put_bad_low h ok hN f at_ t hf ht ha0 ha1 hd hnm h0
      · by_cases h1 : (d.now.get f).size < at_
        · exact put_bad_high h ok hN f at_ t hf ht ha0 ha1 hd hnm (by omega) h1
        · by_cases h2 : 4194304 - at_ < t.size
          · exact put_bad_long h ok hN f at_ t hf ht ha0 ha1 hd hnm (by omega) (by omega) h2
          · by_cases h3 : d.room < 0
            · exact put_free h ok hN f at_ t hf ht ha0 ha1 hd hnm (by omega) (by omega) (by omega) h3
            · by_cases h4 : Dk.more (d.now.get f) t at_ ≤ 0
              · exact put_small h ok hN f at_ t hf ht ha0 ha1 hd hnm (by omega) (by omega) (by omega) (by omega) h4
              · exact put_used h ok hN f at_ t hf ht ha0 ha1 hd hnm (by omega) (by omega) (by omega) (by omega) (by omega)
end Go.Proofs.YtjobmlnekpaagaaDoor
