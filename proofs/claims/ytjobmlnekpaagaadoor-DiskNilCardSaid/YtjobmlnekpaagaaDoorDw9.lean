/- Move, Sync, Read, and what tells. -/
import Derived.Test.YtjobmlnekpaagaaDoorDw8
namespace Go.Proofs.YtjobmlnekpaagaaDoor
open Go Go.RowKit Go.Maps
set_option linter.unusedVariables false

set_option maxRecDepth 100000 in
set_option maxHeartbeats 1600000 in
theorem move_any {w : World} {b s m : Nat} {v : Value} {N : Nat} {d : Dk} (h : DiskAt w b s m v d) (ok : d.Ok N) (hN : N + 1 ≤ 1099511627776) (f t : ByteArray) (hf : f.size ≤ 9223372036854775807) (htt : t.size ≤ 9223372036854775807) :
    Calls Tryd.prog 56 #[.pointer (some ⟨b, 0, none⟩), .string f, .string t] w fun e w' => e = .returned (.int .i64 (d.move f t).2) ∧ Step w b s m v w' (d.move f t).1 := by
  have H := Lib.hid h
  have HT := Lib.hid (fun W (h : DiskAt W b s m v d) => there_any h f hf)
  cases hd : d.down with
  | true =>
    have hr := ready_down h hd
    have hq : d.there f = 8 := by unfold Dk.there; rw [hd]; rfl
    have he : d.move f t = (d, 8) := by unfold Dk.move; rw [hd, hq]; rfl
    have HE := Lib.hid he
    rw [hq] at HT
    clear h ok he hq hd
    go_enter Tryd.func56, Tryd.ntmps56
    go_wp2_with (first | (go_at_call 50; refine hr.mono ?_; rintro e w' ⟨rfl, rfl⟩) | (go_at_call 59; refine (HT.out _ H.out).mono ?_; rintro e w1 ⟨rfl, hk1⟩))
    go_ret
    rw [HE.out]
    exact ⟨rfl, Step.same H.out hk1⟩
  | false =>
    have hr := ready_up h hd
    have hn := fun w => name_any t w htt
    cases hnm : Dk.name t with
    | false =>
      have he : d.move f t = (d, 1) := by unfold Dk.move; rw [hd, hnm]; rfl
      have HE := Lib.hid he
      rw [hnm] at hn
      clear h ok he hd hnm
      go_enter Tryd.func56, Tryd.ntmps56
      go_wp2_with (first | (go_at_call 50; refine hr.mono ?_; rintro e w' ⟨rfl, rfl⟩) | (go_at_call 51; refine (hn _).mono ?_; rintro e w1 ⟨rfl, hk1⟩))
      go_ret
      rw [HE.out]
      exact ⟨rfl, Step.same H.out hk1⟩
    | true =>
      rw [hnm] at hn
      by_cases hq : d.there f = 0
      · rw [hq] at HT
        have hnm1 := Dk.there_name (d := d) (a := f) (by omega)
        have hs := Dk.name_size hnm1.2.1
        have hs2 := Dk.name_size hnm
        have he : d.move f t = d.lay (.move f t) := by unfold Dk.move; rw [hd, hnm, hq]; rfl
        have HE := Lib.hid he
        have HL : Hid (∀ W, DiskAt W b s m v d → Calls Tryd.prog 52 #[.pointer (some ⟨b, 0, none⟩), .iface 143 (.agg #[.string f, .string t])] W fun e w' => e = .returned (.int .i64 (d.lay (.move f t)).2) ∧ Step W b s m v w' (d.lay (.move f t)).1) := fun W hW => lay_any hW ok hN hd (c := .move f t) ⟨hs, hs2⟩
        clear h ok he hnm hq hd hnm1
        go_enter Tryd.func56, Tryd.ntmps56
        go_wp2_with (first | (go_at_call 50; refine hr.mono ?_; rintro e w' ⟨rfl, rfl⟩) | (go_at_call 51; refine (hn _).mono ?_; rintro e w1 ⟨rfl, hk1⟩; have H1 := Lib.hid (H.out.kept hk1 (fun _ _ f => f))) | (go_at_call 59; refine (HT.out _ H1.out).mono ?_; rintro e w2 ⟨rfl, hk2⟩; have H2 := Lib.hid (H1.out.kept hk2 (fun _ _ f => f))) | (go_at_call 52; refine (HL.out _ H2.out).mono ?_; rintro e w3 ⟨rfl, hstep⟩))
        go_ret
        rw [HE.out]
        exact ⟨rfl, hstep.before (hk1.trans hk2) (fun _ f => f.elim)⟩
      · have he : d.move f t = (d, d.there f) := by unfold Dk.move; rw [hd, hnm]; simp [hq]
        have HE := Lib.hid he
        generalize d.there f = q at HT hq HE
        have hq1 : (q == 0) = false := by simpa using hq
        have hq2 : (q != 0) = true := by simpa using hq
        clear h ok he hq hd hnm
        go_enter Tryd.func56, Tryd.ntmps56
        go_wp2_with (first | (go_at_call 50; refine hr.mono ?_; rintro e w' ⟨rfl, rfl⟩) | (go_at_call 51; refine (hn _).mono ?_; rintro e w1 ⟨rfl, hk1⟩; have H1 := Lib.hid (H.out.kept hk1 (fun _ _ f => f))) | (go_at_call 59; refine (HT.out _ H1.out).mono ?_; rintro e w2 ⟨rfl, hk2⟩))
        go_ret
        rw [HE.out]
        exact ⟨rfl, Step.same H.out (hk1.trans hk2)⟩
theorem sync_close {w1 : World} {b s m m' : Nat} {v : Value} {d : Dk} (h : DiskAt w1 b s m v d) (hm : MapAt w1 m' d.now) (hne : m' ≠ m) (hb : m' ≠ b) :
    DiskAt ((w1.setCell ⟨b, 0, none⟩ (.map (some m'))).setCell ⟨b, 2, none⟩ (.slice none 0 0)) b m' m (.slice none 0 0) { d with sure := d.now, row := [] } ∧
      Kept (fun j => j = b) w1 ((w1.setCell ⟨b, 0, none⟩ (.map (some m'))).setCell ⟨b, 2, none⟩ (.slice none 0 0)) := by
  have hk := (Kept.own w1 b 0 (.map (some m'))).trans (Kept.own _ b 2 (.slice none 0 0))
  refine ⟨⟨?_, hm.kept hk hb, h.now.kept hk h.ne_m, ⟨by simp, .inl ⟨rfl, rfl⟩⟩, hne⟩, hk⟩
  rw [setCell_block (setCell_block h.cells _ _) _ _]
  simp
set_option maxRecDepth 100000 in
set_option maxHeartbeats 1600000 in
theorem sync_any {w : World} {b s m : Nat} {v : Value} {N : Nat} {d : Dk} (h : DiskAt w b s m v d) (ok : d.Ok N) (hN : N ≤ 1099511627776) :
    Calls Tryd.prog 16 #[.pointer (some ⟨b, 0, none⟩)] w fun e w' => e = .returned (.int .i64 d.sync.2) ∧ Step w b s m v w' d.sync.1 := by
  have H := Lib.hid h
  cases hd : d.down with
  | true =>
    have hr := ready_down h hd
    have he : d.sync = (d, 8) := by unfold Dk.sync; rw [hd]; rfl
    have HE := Lib.hid he
    clear h ok he hd
    go_enter Tryd.func16, Tryd.ntmps16
    go_wp2_with (first | (go_at_call 50; refine hr.mono ?_; rintro e w' ⟨rfl, rfl⟩))
    go_ret
    rw [HE.out]
    exact ⟨rfl, Step.same H.out (Kept.refl _ _)⟩
  | false =>
    have hr := ready_up h hd
    have hc := count_any h ok
    cases ht : d.trips with
    | true =>
      have he : d.sync = (d.counted.fail d.keep, 8) := by unfold Dk.sync; rw [hd, ht]; rfl
      have HE := Lib.hid he
      have hq0 := ok.keep0
      have hq1 := ok.keep1
      have HF := Lib.hid (fun W (hW : DiskAt W b s m v d.counted) => fail_up hW ok.counted hN (show d.counted.down = false from hd) d.keep hq0 hq1)
      rw [ht] at hc
      clear h ok he hd ht
      go_enter Tryd.func16, Tryd.ntmps16
      go_wp2_with (first | (go_at_call 50; refine hr.mono ?_; rintro e w' ⟨rfl, rfl⟩) | (go_at_call 53; refine hc.mono ?_; rintro e w1 ⟨rfl, h1, hk1⟩; have k6 : w1.cell? ⟨b, 6, none⟩ = some (.int .i64 d.keep) := h1.cs.c6; have H1 := Lib.hid h1; clear h1) | (go_at_call 19; refine (HF.out _ H1.out).mono ?_; rintro e w2 ⟨rfl, ⟨m', hd2, hm'⟩, hk2⟩))
      go_ret
      rw [HE.out]
      refine ⟨rfl, ⟨s, m', _, hd2, fun k hf => ?_⟩, ?_⟩
      · rcases hf with e | e | e | e
        · exact .inl (.inl e)
        · exact .inl (.inr (.inl e))
        · exact .inr (by have := hk1.size; omega)
        · simp [Value.ownBlock] at e
      · refine (hk1.mono fun _ _ e => .inl e).step hk2 fun k _ e => ?_
        rcases e with e | e
        · exact .inl e
        · exact .inr (.inl e)
    | false =>
      have he : d.sync = ({ d.counted with sure := d.now, row := [] }, 0) := by unfold Dk.sync; rw [hd, ht]; rfl
      have HE := Lib.hid he
      rw [ht] at hc
      clear h ok he hd ht
      go_enter Tryd.func16, Tryd.ntmps16
      go_wp2_with (first | (go_at_call 50; refine hr.mono ?_; rintro e w' ⟨rfl, rfl⟩) | (go_at_call 53; refine hc.mono ?_; rintro e w1 ⟨rfl, h1, hk1⟩; have k1 := h1.cs.c1; have H1 := Lib.hid h1; clear h1) | (go_at_call 54; refine (clone_any H1.out.now).mono ?_; rintro e w2 ⟨m', rfl, hm', hm2, hk2⟩; have h2 := H1.out.kept hk2 (fun _ _ f => f); have D := h2.cs; have d0 := D.c0; have d2 := D.c2; have f0 := h2.fz 0; have f2 := h2.fz 2; have H2 := Lib.hid h2; clear D h2))
      go_ret
      have hcl := sync_close H2.out hm2 (by have := H1.out.now.lt; omega) (by have := H1.out.lt; omega)
      rw [HE.out]
      refine ⟨rfl, ⟨m', m, _, hcl.1, fun k hf => ?_⟩, ?_⟩
      · rcases hf with e | e | e | e
        · exact .inl (.inl e)
        · exact .inr (by have := hk1.size; omega)
        · exact .inl (.inr (.inr (.inl e)))
        · simp [Value.ownBlock] at e
      · exact ((hk1.mono fun _ _ e => .inl e).step hk2 fun _ _ e => e.elim).step hcl.2 fun _ _ e => .inl e
set_option maxRecDepth 100000 in
set_option maxHeartbeats 1600000 in
theorem read_any {w : World} {b s m : Nat} {v : Value} {d : Dk} (h : DiskAt w b s m v d) (f : ByteArray) (hf : f.size ≤ 9223372036854775807) :
    Calls Tryd.prog 21 #[.pointer (some ⟨b, 0, none⟩), .string f] w fun e w' => e = .returned (.tuple #[.string (d.read f).1, .int .i64 (d.read f).2]) ∧ Kept (fun _ => False) w w' := by
  have H := Lib.hid h
  have ht := there_any h f hf
  by_cases hq : d.there f = 0
  · rw [hq] at ht
    have hnm1 := Dk.there_name (d := d) (a := f) (by omega)
    have hs := Dk.name_size hnm1.2.1
    have he : d.read f = (d.now.get f, 0) := by unfold Dk.read; rw [hq]; simp
    have HE := Lib.hid he
    clear h he hq hnm1
    go_enter Tryd.func21, Tryd.ntmps21
    go_wp2_with (first | (go_at_call 59; refine ht.mono ?_; rintro e w1 ⟨rfl, hk1⟩; have h1 := H.out.kept hk1 (fun _ _ f => f); have q1 := h1.cs.c1; have hlk := look_run (k := f) h1.now (by unfold maxLen; omega); clear h1))
    go_ret2
    rw [HE.out]
    exact ⟨rfl, hk1⟩
  · have he : d.read f = (ByteArray.empty, d.there f) := by unfold Dk.read; simp [hq]
    have HE := Lib.hid he
    generalize d.there f = q at ht hq HE
    have hq1 : (q == 0) = false := by simpa using hq
    have hq2 : (q != 0) = true := by simpa using hq
    clear h he hq
    go_enter Tryd.func21, Tryd.ntmps21
    go_wp2_with (first | (go_at_call 59; refine ht.mono ?_; rintro e w1 ⟨rfl, hk1⟩))
    go_ret2
    rw [HE.out]
    exact ⟨rfl, hk1⟩
set_option maxRecDepth 100000 in
set_option maxHeartbeats 1600000 in
theorem new_any (w : World) : Calls Tryd.prog 13 #[] w fun e w' => ∃ b s m, e = .returned (.pointer (some ⟨b, 0, none⟩)) ∧ DiskAt w' b s m (.slice none 0 0) Dk.new ∧ w.heap.size ≤ b ∧ w.heap.size ≤ s ∧ w.heap.size ≤ m ∧ Kept (fun _ => False) w w' := by
  have hmm := @run_makeMap Tryd.prog
  go_enter Tryd.func13, Tryd.ntmps13
  go_wp2
  go_ret
  have m1 : MapAt ((w.alloc (.map #[] 0)).alloc (.map #[] 0)) w.heap.size [] := MapAt.alloc (MapAt.tight (n := 0) (World.ownsMap_made w _ _ _)) _
  have m2 : MapAt ((w.alloc (.map #[] 0)).alloc (.map #[] 0)) (w.heap.size + 1) [] := by
    have := MapAt.tight (m := []) (n := 0) (World.ownsMap_made (w.alloc (.map #[] 0)) Tryd.prog 9 sR)
    simpa using this
  have hb := block_new ((w.alloc (.map #[] 0)).alloc (.map #[] 0)) (.cells #[.map (some w.heap.size), .map (some (w.heap.size + 1)), .slice none 0 0, .int .i64 (-1), .int .i64 0, .int .i64 0, .int .i64 0, .bool false] 90)
  refine ⟨w.heap.size + 1 + 1, w.heap.size, w.heap.size + 1, rfl, ⟨by simpa [Dk.new] using hb, m1.alloc _, m2.alloc _, ⟨by simp [Dk.new], .inl ⟨rfl, rfl⟩⟩, by omega⟩, by omega, by omega, by omega, (((Kept.refl _ w).alloc _).alloc _).alloc _⟩
set_option maxHeartbeats 400000 in
theorem waits_any {w : World} {b s m : Nat} {v : Value} {d : Dk} (h : DiskAt w b s m v d) :
    Calls Tryd.prog 44 #[.pointer (some ⟨b, 0, none⟩)] w fun e w' => e = .returned (.int .i64 d.waits) ∧ w = w' := by
  cases hd : d.down with
  | true =>
    have hr := ready_down h hd
    have he : d.waits = 0 := by unfold Dk.waits; rw [hd]; rfl
    rw [he]
    clear h hd he
    go_enter Tryd.func44, Tryd.ntmps44
    go_wp2_with (first | (go_at_call 50; refine hr.mono ?_; rintro e w' ⟨rfl, rfl⟩))
    go_ret
    exact ⟨rfl, rfl⟩
  | false =>
    have hr := ready_up h hd
    have he : d.waits = d.row.length := by unfold Dk.waits; rw [hd]; rfl
    rw [he]
    have c2 := h.cs.c2
    have hsh := row_shape h.row
    clear h hd he
    rcases hsh with ⟨rfl, h0, hx⟩ | ⟨g, cap, rfl, _⟩
    · rw [h0]
      go_enter Tryd.func44, Tryd.ntmps44
      go_wp2_with (first | (go_at_call 50; refine hr.mono ?_; rintro e w' ⟨rfl, rfl⟩))
      go_ret
      exact ⟨rfl, rfl⟩
    · go_enter Tryd.func44, Tryd.ntmps44
      go_wp2_with (first | (go_at_call 50; refine hr.mono ?_; rintro e w' ⟨rfl, rfl⟩))
      go_ret
      exact ⟨rfl, rfl⟩
set_option maxHeartbeats 400000 in
theorem down_any {w : World} {b s m : Nat} {v : Value} {d : Dk} (h : DiskAt w b s m v d) :
    Calls Tryd.prog 40 #[.pointer (some ⟨b, 0, none⟩)] w fun e w' => e = .returned (.bool d.down) ∧ w = w' := by
  have c7 := h.cs.c7
  clear h
  go_enter Tryd.func40, Tryd.ntmps40
  go_wp2
  go_ret
  exact ⟨rfl, rfl⟩
set_option maxHeartbeats 400000 in
theorem calls_any {w : World} {b s m : Nat} {v : Value} {d : Dk} (h : DiskAt w b s m v d) :
    Calls Tryd.prog 49 #[.pointer (some ⟨b, 0, none⟩)] w fun e w' => e = .returned (.int .i64 d.calls) ∧ w = w' := by
  have c4 := h.cs.c4
  clear h
  go_enter Tryd.func49, Tryd.ntmps49
  go_wp2
  go_ret
  exact ⟨rfl, rfl⟩
end Go.Proofs.YtjobmlnekpaagaaDoor
