/- A loss of power. -/
import Derived.Test.YtjobmlnekpaagaaDoorDw4
import Derived.Handy
namespace Go.Proofs.YtjobmlnekpaagaaDoor
open Go Go.RowKit Go.Maps

theorem row_shape {w : World} {base n : Nat} {e : TypeId} {v : Value} {xs : List Value} (h : w.ownsRow base e 1 v n xs) :
    (v = .slice none 0 0 ∧ n = 0 ∧ xs = []) ∨ ∃ g cap, v = .slice (some ⟨g, 0, none⟩) n cap ∧ g < w.heap.size ∧ ∀ j u, xs[j]? = some u → w.cell? ⟨g, j, none⟩ = some u := by
  rcases h.2 with ⟨hv, hx⟩ | ⟨g, cap, cur, rfl, hg, hh, r⟩
  · exact .inl ⟨hv, hx, by have h1 := h.1; rw [hx] at h1; simpa using h1⟩
  · exact .inr ⟨g, cap, rfl, (Array.getElem?_eq_some_iff.1 hh).1, fun j u hj => by
      have h1 := h.cells (g := g) rfl j u hj
      have h2 : (⟨g, 0, none⟩ : Addr).add j = ⟨g, j, none⟩ := by unfold Addr.add; split <;> simp_all
      rw [← h2]
      exact h1⟩
/-- What a loss of power leaves. -/
theorem fail_close {w1 : World} {b s m m' : Nat} {v : Value} {d : Dk} {sm : Fm}
    (hb : w1.heap[b]? = some (.cells #[.map (some s), .map (some m), v, .int .i64 d.room, .int .i64 d.calls, .int .i64 d.after, .int .i64 d.keep, .bool d.down] 90 (0, 0)))
    (hs : MapAt w1 s sm) (hm : MapAt w1 m' sm) (hne : s ≠ m') {k : Int} (hd : d.down = false) (he : failed d.sure d.row k = sm) :
    DiskAt ((((w1.setCell ⟨b, 1, none⟩ (.map (some m'))).setCell ⟨b, 2, none⟩ (.slice none 0 0)).setCell ⟨b, 7, none⟩ (.bool true)).setCell ⟨b, 5, none⟩ (.int .i64 0)) b s m' (.slice none 0 0) (d.fail k) ∧
      Kept (fun j => j = b) w1 ((((w1.setCell ⟨b, 1, none⟩ (.map (some m'))).setCell ⟨b, 2, none⟩ (.slice none 0 0)).setCell ⟨b, 7, none⟩ (.bool true)).setCell ⟨b, 5, none⟩ (.int .i64 0)) := by
  have hk := (((Kept.own w1 b 1 (.map (some m'))).trans (Kept.own _ b 2 (.slice none 0 0))).trans (Kept.own _ b 7 (.bool true))).trans (Kept.own _ b 5 (.int .i64 0))
  have hbs : s ≠ b := fun e => by
    subst e
    obtain ⟨es, clock, hx, _⟩ := hs
    rw [hb] at hx
    cases hx
  have hbm : m' ≠ b := fun e => by
    subst e
    obtain ⟨es, clock, hx, _⟩ := hm
    rw [hb] at hx
    cases hx
  have e1 : (d.fail k).sure = sm := by unfold Dk.fail; simp [hd, he]
  have e2 : (d.fail k).now = sm := by unfold Dk.fail; simp [hd, he]
  have e3 : (d.fail k).row = [] := by unfold Dk.fail; simp [hd]
  refine ⟨⟨?_, ?_, ?_, ?_, hne⟩, hk⟩
  · rw [setCell_block (setCell_block (setCell_block (setCell_block hb _ _) _ _) _ _) _ _]
    simp [Dk.fail, hd]
  · rw [e1]; exact hs.kept hk hbs
  · rw [e2]; exact hm.kept hk hbm
  · rw [e3]; exact ⟨by simp, .inl ⟨rfl, rfl⟩⟩
set_option maxRecDepth 100000 in
set_option maxHeartbeats 400000 in
theorem fail_down {w : World} {b s m : Nat} {v : Value} {d : Dk} (h : DiskAt w b s m v d) (hd : d.down = true) (k : Int) :
    Calls Tryd.prog 19 #[.pointer (some ⟨b, 0, none⟩), .int .i64 k] w fun e w' => e = .returned (.tuple #[]) ∧ w = w' := by
  have hr := ready_down h hd
  clear h hd
  go_enter Tryd.func19, Tryd.ntmps19
  go_wp2_with (go_at_call 50; refine hr.mono ?_; rintro e w' ⟨rfl, rfl⟩)
  go_returns
  exact ⟨rfl, rfl⟩
set_option maxRecDepth 100000 in
set_option maxHeartbeats 4000000 in
theorem fail_up {w : World} {b s m : Nat} {v : Value} {N : Nat} {d : Dk} (h : DiskAt w b s m v d) (ok : d.Ok N) (hN : N ≤ 1099511627776) (hd : d.down = false) (k : Int) (hk0 : -9223372036854775808 ≤ k) (hk1 : k ≤ 9223372036854775807) :
    Calls Tryd.prog 19 #[.pointer (some ⟨b, 0, none⟩), .int .i64 k] w fun e w' => e = .returned (.tuple #[]) ∧ (∃ m', DiskAt w' b s m' (.slice none 0 0) (d.fail k) ∧ w.heap.size ≤ m') ∧ Kept (fun j => j = b ∨ j = s) w w' := by
  have hr := ready_up h hd
  have c2 := h.cs.c2
  have H := Lib.hid h
  have hlen := ok.len2
  rcases row_shape h.row with ⟨rfl, hn, hx⟩ | ⟨g, cap, rfl, hg, hcells⟩
  · have hr0 : d.row = [] := by simpa using hx
    have HD := Lib.hid hd
    have HR0 := Lib.hid hr0
    have C0 := h.cs.c0
    have hlt := h.lt
    clear hn hx h ok hd hr0
    go_enter Tryd.func19, Tryd.ntmps19
    go_wp2_with (go_at_call 50; refine hr.mono ?_; rintro e w' ⟨rfl, rfl⟩)
    refine wp_loop_rounds 1 ?_
    rw [rounds_succ]
    go_wp2_with (first | (go_at_call 54; refine (clone_any H.out.sure).mono ?_; rintro e w1 ⟨m', rfl, hm', hm1, hk1⟩; have hb1 := (hk1.block b hlt (fun f => f)).trans H.out.cells; have HB1 := Lib.hid hb1; have D := cells_of hb1; have d1 := D.c1; have d2 := D.c2; have d5 := D.c5; have d7 := D.c7; have f1 := frozen_of_block hb1 1; have f2 := frozen_of_block hb1 2; have f5 := frozen_of_block hb1 5; have f7 := frozen_of_block hb1 7; clear D hb1))
    go_returns
    have hf := fail_close (k := k) HB1.out (H.out.sure.kept hk1 (fun f => f)) hm1 (by have := H.out.sure.lt; omega) HD.out (by rw [HR0.out]; rfl)
    refine ⟨rfl, ⟨_, hf.1, hm'⟩, ?_⟩
    exact ((Kept.refl _ w).step hk1 (fun _ _ h => h.elim)).step hf.2 (fun _ _ h => .inl h)
  · have HC := Lib.hid hcells
    have HO := Lib.hid ok
    have HD := Lib.hid hd
    have hsb : s ≠ b := fun e => by
      subst e
      obtain ⟨es, clock, hx, _⟩ := h.sure
      rw [h.cells] at hx
      cases hx
    have HSB := Lib.hid hsb
    clear hcells h ok hd hsb
    go_enter Tryd.func19, Tryd.ntmps19
    go_wp2_with (go_at_call 50; refine hr.mono ?_; rintro e w' ⟨rfl, rfl⟩)
    go_loopw [1, 16] (fun v1 v16 wr => ∃ (dn rest : List Ch) (kk : Int) (sm : Fm), Hid (d.row = dn ++ rest) ∧ v16 = .int .i64 dn.length ∧ v1 = .int .i64 kk ∧ MapAt wr s sm ∧ sm.Small 4194304 ∧ fitsAll sm rest ∧ Hid (failed d.sure d.row k = failed sm rest kk) ∧ sm.length + rest.length ≤ N ∧ -9223372036854775808 ≤ kk ∧ kk ≤ 9223372036854775807 ∧ Kept (fun j => j = s) w wr)
      (fun _ v16 _ => d.row.length - (intOf v16).toNat)
    case atStart => exact ⟨[], d.row, k, d.sure, rfl, rfl, rfl, H.out.sure, HO.out.small, HO.out.fits, rfl, hlen, hk0, hk1, Kept.refl _ _⟩
    case round =>
      obtain ⟨dn, rest, kk, sm, hrow, rfl, rfl, hm, hsm, hfit, hfail, hlen', k0, k1, hkw⟩ := hrel
      have hlt := H.out.lt
      have hb0 := (hkw.block b hlt (fun e => HSB.out e.symm)).trans H.out.cells
      have HB := Lib.hid hb0
      have C0 := (cells_of hb0).c0
      clear hb0
      cases rest with
      | nil =>
        have hl : decide (dn.length < d.row.length) = false := by rw [hrow.out]; simp
        have hcl := clone_any hm
        have hdn : dn.length ≤ d.row.length := by rw [hrow.out]; simp
        go_wp2_with (go_at_call 54; refine hcl.mono ?_; rintro e w1 ⟨m', rfl, hm', hm1, hk1⟩; have hb1 := (hk1.block b (Nat.lt_of_lt_of_le hlt hkw.size) (fun f => f)).trans HB.out; have HB1 := Lib.hid hb1; have D := cells_of hb1; have d1 := D.c1; have d2 := D.c2; have d5 := D.c5; have d7 := D.c7; have f1 := frozen_of_block hb1 1; have f2 := frozen_of_block hb1 2; have f5 := frozen_of_block hb1 5; have f7 := frozen_of_block hb1 7; clear D hb1)
        go_returns
        have hf := fail_close (k := k) HB1.out (hm.kept hk1 (fun f => f)) hm1 (by have := hm.lt; omega) HD.out (by rw [hfail.out]; rfl)
        refine ⟨rfl, ⟨_, hf.1, by have := hkw.size; omega⟩, ?_⟩
        refine ((hkw.mono (fun _ _ h => .inr h)).step hk1 (fun _ _ h => h.elim)).step hf.2 (fun _ _ h => .inl h)
      | cons c r =>
        have C0a := cell_alloc C0
        have C0b := fun o1 o2 => cell_alloc (C0a o1) o2
        have hl : decide (dn.length < d.row.length) = true := by rw [hrow.out]; simp
        have hl' : dn.length < d.row.length := by rw [hrow.out]; simp
        have hge : g ≠ s := fun e => by
          subst e
          obtain ⟨es, clock, hx, _⟩ := H.out.sure
          obtain ⟨g', cap', cur, hv, _, hh, _⟩ := H.out.row.2.resolve_left (fun h => by cases h.1)
          injection hv with hv
          injection hv with hv
          injection hv with hv
          subst hv
          rw [hx] at hh
          cases hh
        have cr : wr.cell? ⟨g, dn.length, none⟩ = some c.enc := by
          rw [hkw.cell (p := ⟨g, dn.length, none⟩) hg hge]
          refine HC.out dn.length c.enc ?_
          rw [hrow.out]
          simp
        have HG := Lib.hid hge
        clear hge
        have hfc := hfit.1
        have hfr := hfit.2
        have HFC := Lib.hid hfc
        clear hfit
        by_cases hcost : c.cost ≤ kk
        · have hdone := fun W (h : MapAt W s sm) => done_any h (by unfold maxLen; simp at hlen'; omega) hsm hfc
          have HCO := Lib.hid hcost
          have HLE := Lib.hid hlen'
          clear hlen' hcost
          cases c with
          | put f t at_ =>
            simp only [Ch.enc] at cr
            obtain ⟨q0, q1, q2, q3⟩ := hfc
            have hc1 : (1 + t.size : Int) ≤ kk := HCO.out
            go_wp2_with (first | (go_at_call 163; refine (cost_put _ _ _ _ (by omega)).mono ?_; rintro e w1 ⟨rfl, rfl⟩) | (go_at_call 58; refine (hdone _ (hm.alloc _)).mono ?_; rintro e w2 ⟨rfl, hm2, hk2⟩))
            have HM2 := Lib.hid hm2
            clear hm2
            go_roundw
            case rel => exact ⟨dn ++ [.put f t at_], r, kk - (1 + t.size), (Ch.put f t at_).done sm, by rw [hrow.out]; unfold Hid; simp, by simp, rfl, HM2.out.alloc _, Ch.done_small hsm HFC.out, hfr, hfail.out.trans (failed_le HCO.out), by have h1 := Ch.done_length sm (Ch.put f t at_); have h2 := HLE.out; simp at h2; omega, by omega, by omega, ((hkw.alloc _).trans hk2).alloc _⟩
            case measure => simp [intOf]; omega
          | trim f n =>
            simp only [Ch.enc] at cr
            clear hfc
            have hc1 : (1 : Int) ≤ kk := HCO.out
            go_wp2_with (first | (go_at_call 165; refine (cost_trim _ _ _).mono ?_; rintro e w1 ⟨rfl, rfl⟩) | (go_at_call 58; refine (hdone _ (hm.alloc _)).mono ?_; rintro e w2 ⟨rfl, hm2, hk2⟩))
            have HM2 := Lib.hid hm2
            clear hm2
            go_roundw
            case rel => exact ⟨dn ++ [.trim f n], r, kk - (1), (Ch.trim f n).done sm, by rw [hrow.out]; unfold Hid; simp, by simp, rfl, HM2.out.alloc _, Ch.done_small hsm HFC.out, hfr, hfail.out.trans (failed_le HCO.out), by have h1 := Ch.done_length sm (Ch.trim f n); have h2 := HLE.out; simp at h2; omega, by omega, by omega, ((hkw.alloc _).trans hk2).alloc _⟩
            case measure => simp [intOf]; omega
          | move f n =>
            simp only [Ch.enc] at cr
            clear hfc
            have hc1 : (1 : Int) ≤ kk := HCO.out
            go_wp2_with (first | (go_at_call 166; refine (cost_move _ _ _).mono ?_; rintro e w1 ⟨rfl, rfl⟩) | (go_at_call 58; refine (hdone _ (hm.alloc _)).mono ?_; rintro e w2 ⟨rfl, hm2, hk2⟩))
            have HM2 := Lib.hid hm2
            clear hm2
            go_roundw
            case rel => exact ⟨dn ++ [.move f n], r, kk - (1), (Ch.move f n).done sm, by rw [hrow.out]; unfold Hid; simp, by simp, rfl, HM2.out.alloc _, Ch.done_small hsm HFC.out, hfr, hfail.out.trans (failed_le HCO.out), by have h1 := Ch.done_length sm (Ch.move f n); have h2 := HLE.out; simp at h2; omega, by omega, by omega, ((hkw.alloc _).trans hk2).alloc _⟩
            case measure => simp [intOf]; omega
          | drop f =>
            simp only [Ch.enc] at cr
            clear hfc
            have hc1 : (1 : Int) ≤ kk := HCO.out
            go_wp2_with (first | (go_at_call 167; refine (cost_drop _ _).mono ?_; rintro e w1 ⟨rfl, rfl⟩) | (go_at_call 58; refine (hdone _ (hm.alloc _)).mono ?_; rintro e w2 ⟨rfl, hm2, hk2⟩))
            have HM2 := Lib.hid hm2
            clear hm2
            go_roundw
            case rel => exact ⟨dn ++ [.drop f], r, kk - (1), (Ch.drop f).done sm, by rw [hrow.out]; unfold Hid; simp, by simp, rfl, HM2.out.alloc _, Ch.done_small hsm HFC.out, hfr, hfail.out.trans (failed_le HCO.out), by have h1 := Ch.done_length sm (Ch.drop f); have h2 := HLE.out; simp at h2; omega, by omega, by omega, ((hkw.alloc _).trans hk2).alloc _⟩
            case measure => simp [intOf]; omega
        · have hdone := fun W (h : MapAt W s sm) (c' : Ch) (hf : c'.fits sm) => done_any h (by unfold maxLen; simp at hlen'; omega) hsm hf
          have HCO := Lib.hid hcost
          clear hlen' hcost
          cases c with
          | put f t at_ =>
            simp only [Ch.enc] at cr
            obtain ⟨q0, q1, q2, q3⟩ := hfc
            have hc1 : ¬ (1 + (t.size : Int) ≤ kk) := HCO.out
            by_cases hk : 0 < kk
            · have hdk : decide (0 < kk) = true := by simpa using hk
              have hta := as_put_put
              have hds := fun W (h : MapAt W s sm) => hdone W h (.put f (t.extract 0 (kk.toNat - 1)) at_) (fits_torn HFC.out HCO.out hk)
              have HDS := Lib.hid hds
              clear hds hdone
              go_wp2_with (first | (go_at_call 163; refine (cost_put _ _ _ _ (by omega)).mono ?_; rintro e w1 ⟨rfl, rfl⟩))
              refine still_tail 6 (by kernel_rfl) (by kernel_rfl) ?_
              simp only [List.take_succ_cons, List.take_zero, List.drop_succ_cons, List.drop_zero]
              repeat still_step
              refine wpStill_nil ?_
              go_wp2_with (first | (go_at_call 58; refine (HDS.out _ ((hm.alloc _).alloc _).drew).mono ?_; rintro e w2 ⟨rfl, hm2, hk2⟩; have hb2 := (hk2.block b (by have := hkw.size; simp; omega) (fun e => HSB.out e.symm)).trans (block_alloc (block_alloc HB.out _) _); have HB2 := Lib.hid hb2; have E0 := (cells_of hb2).c0; have hs2 := hk2.size; clear hb2) | (go_at_call 54; refine (clone_any hm2).mono ?_; rintro e w1 ⟨m', rfl, hm', hm1, hk1⟩; have hb1 := (hk1.block b (by have := hkw.size; simp at hs2; omega) (fun f => f)).trans HB2.out; have HB1 := Lib.hid hb1; have D := cells_of hb1; have d1 := D.c1; have d2 := D.c2; have d5 := D.c5; have d7 := D.c7; have f1 := frozen_of_block hb1 1; have f2 := frozen_of_block hb1 2; have f5 := frozen_of_block hb1 5; have f7 := frozen_of_block hb1 7; clear D hb1))
              go_returns
              have hf := fail_close (k := k) HB1.out (hm2.kept hk1 (fun f => f)) hm1 (by have := hm2.lt; omega) HD.out (hfail.out.trans (failed_torn (Int.not_le.2 HCO.out) hk))
              refine ⟨rfl, ⟨_, hf.1, by have := hkw.size; simp at hs2; omega⟩, ?_⟩
              exact ((((((hkw.alloc _).alloc _).drew).trans hk2).mono (fun _ _ h => .inr h)).step hk1 (fun _ _ h => h.elim)).step hf.2 (fun _ _ h => .inl h)
            · have hdk : decide (0 < kk) = false := by simpa using hk
              have hta := as_put_put
              have HK := Lib.hid hk
              clear hk
              go_wp2_with (first | (go_at_call 163; refine (cost_put _ _ _ _ (by omega)).mono ?_; rintro e w1 ⟨rfl, rfl⟩) | (go_at_call 54; refine (clone_any ((hm.alloc _).alloc _)).mono ?_; rintro e w1 ⟨m', rfl, hm', hm1, hk1⟩; have hb1 := (hk1.block b (by have := hkw.size; simp; omega) (fun f => f)).trans (block_alloc (block_alloc HB.out _) _); have HB1 := Lib.hid hb1; have D := cells_of hb1; have d1 := D.c1; have d2 := D.c2; have d5 := D.c5; have d7 := D.c7; have f1 := frozen_of_block hb1 1; have f2 := frozen_of_block hb1 2; have f5 := frozen_of_block hb1 5; have f7 := frozen_of_block hb1 7; clear D hb1))
              go_returns
              have hf := fail_close (k := k) HB1.out (((hm.alloc _).alloc _).kept hk1 (fun f => f)) hm1 (by have := hm.lt; simp at hm'; omega) HD.out (hfail.out.trans (failed_none (Int.not_le.2 HCO.out) (Int.not_lt.2 HK.out)))
              refine ⟨rfl, ⟨_, hf.1, by have := hkw.size; simp at hm'; omega⟩, ?_⟩
              exact (((((hkw.alloc _).alloc _)).mono (fun _ _ h => .inr h)).step hk1 (fun _ _ h => h.elim)).step hf.2 (fun _ _ h => .inl h)
          | trim f n =>
            simp only [Ch.enc] at cr
            clear hfc
            have hc1 : ¬ (1 ≤ kk) := HCO.out
            have HK := Lib.hid (show ¬ 0 < kk by omega)
            have hta := as_trim_put
            go_wp2_with (first | (go_at_call 165; refine (cost_trim _ _ _).mono ?_; rintro e w1 ⟨rfl, rfl⟩) | (go_at_call 54; refine (clone_any ((hm.alloc _).alloc _)).mono ?_; rintro e w1 ⟨m', rfl, hm', hm1, hk1⟩; have hb1 := (hk1.block b (by have := hkw.size; simp; omega) (fun f => f)).trans (block_alloc (block_alloc HB.out _) _); have HB1 := Lib.hid hb1; have D := cells_of hb1; have d1 := D.c1; have d2 := D.c2; have d5 := D.c5; have d7 := D.c7; have f1 := frozen_of_block hb1 1; have f2 := frozen_of_block hb1 2; have f5 := frozen_of_block hb1 5; have f7 := frozen_of_block hb1 7; clear D hb1))
            go_returns
            have hf := fail_close (k := k) HB1.out (((hm.alloc _).alloc _).kept hk1 (fun f => f)) hm1 (by have := hm.lt; simp at hm'; omega) HD.out (hfail.out.trans (failed_none (Int.not_le.2 HCO.out) (Int.not_lt.2 HK.out)))
            refine ⟨rfl, ⟨_, hf.1, by have := hkw.size; simp at hm'; omega⟩, ?_⟩
            exact (((((hkw.alloc _).alloc _)).mono (fun _ _ h => .inr h)).step hk1 (fun _ _ h => h.elim)).step hf.2 (fun _ _ h => .inl h)
          | move f n =>
            simp only [Ch.enc] at cr
            clear hfc
            have hc1 : ¬ (1 ≤ kk) := HCO.out
            have HK := Lib.hid (show ¬ 0 < kk by omega)
            have hta := as_move_put
            go_wp2_with (first | (go_at_call 166; refine (cost_move _ _ _).mono ?_; rintro e w1 ⟨rfl, rfl⟩) | (go_at_call 54; refine (clone_any ((hm.alloc _).alloc _)).mono ?_; rintro e w1 ⟨m', rfl, hm', hm1, hk1⟩; have hb1 := (hk1.block b (by have := hkw.size; simp; omega) (fun f => f)).trans (block_alloc (block_alloc HB.out _) _); have HB1 := Lib.hid hb1; have D := cells_of hb1; have d1 := D.c1; have d2 := D.c2; have d5 := D.c5; have d7 := D.c7; have f1 := frozen_of_block hb1 1; have f2 := frozen_of_block hb1 2; have f5 := frozen_of_block hb1 5; have f7 := frozen_of_block hb1 7; clear D hb1))
            go_returns
            have hf := fail_close (k := k) HB1.out (((hm.alloc _).alloc _).kept hk1 (fun f => f)) hm1 (by have := hm.lt; simp at hm'; omega) HD.out (hfail.out.trans (failed_none (Int.not_le.2 HCO.out) (Int.not_lt.2 HK.out)))
            refine ⟨rfl, ⟨_, hf.1, by have := hkw.size; simp at hm'; omega⟩, ?_⟩
            exact (((((hkw.alloc _).alloc _)).mono (fun _ _ h => .inr h)).step hk1 (fun _ _ h => h.elim)).step hf.2 (fun _ _ h => .inl h)
          | drop f =>
            simp only [Ch.enc] at cr
            clear hfc
            have hc1 : ¬ (1 ≤ kk) := HCO.out
            have HK := Lib.hid (show ¬ 0 < kk by omega)
            have hta := as_drop_put
            go_wp2_with (first | (go_at_call 167; refine (cost_drop _ _).mono ?_; rintro e w1 ⟨rfl, rfl⟩) | (go_at_call 54; refine (clone_any ((hm.alloc _).alloc _)).mono ?_; rintro e w1 ⟨m', rfl, hm', hm1, hk1⟩; have hb1 := (hk1.block b (by have := hkw.size; simp; omega) (fun f => f)).trans (block_alloc (block_alloc HB.out _) _); have HB1 := Lib.hid hb1; have D := cells_of hb1; have d1 := D.c1; have d2 := D.c2; have d5 := D.c5; have d7 := D.c7; have f1 := frozen_of_block hb1 1; have f2 := frozen_of_block hb1 2; have f5 := frozen_of_block hb1 5; have f7 := frozen_of_block hb1 7; clear D hb1))
            go_returns
            have hf := fail_close (k := k) HB1.out (((hm.alloc _).alloc _).kept hk1 (fun f => f)) hm1 (by have := hm.lt; simp at hm'; omega) HD.out (hfail.out.trans (failed_none (Int.not_le.2 HCO.out) (Int.not_lt.2 HK.out)))
            refine ⟨rfl, ⟨_, hf.1, by have := hkw.size; simp at hm'; omega⟩, ?_⟩
            exact (((((hkw.alloc _).alloc _)).mono (fun _ _ h => .inr h)).step hk1 (fun _ _ h => h.elim)).step hf.2 (fun _ _ h => .inl h)
end Go.Proofs.YtjobmlnekpaagaaDoor
