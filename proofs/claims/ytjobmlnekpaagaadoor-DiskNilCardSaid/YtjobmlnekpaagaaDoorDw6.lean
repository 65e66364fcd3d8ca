/- A change is laid. -/
import Derived.Test.YtjobmlnekpaagaaDoorDw5
import Derived.Maps.AppendAt
namespace Go.Proofs.YtjobmlnekpaagaaDoor
open Go Go.RowKit Go.Maps

theorem info_ch : (Tryd.prog.info? 99).map (fun i => (i.zero, i.size, i.bytes)) = some (some .nilIface, 1, 16) := by kernel_rfl
theorem uT_chs : Tryd.prog.underlying 88 = some (.slice 99) := by kernel_rfl
theorem Ch.enc_iface (c : Ch) : ∃ T u, c.enc = .iface T u := by cases c <;> exact ⟨_, _, rfl⟩
theorem row_succ {W : World} {base : Nat} {e : TypeId} {size : Nat} {v : Value} {k : Nat} {xs : List Value} (h : W.ownsRow base e size v (k + 1) xs) : ∃ g cap, v = .slice (some ⟨g, 0, none⟩) (k + 1) cap := by
  rcases h.2 with ⟨_, h0⟩ | ⟨g, cap, _, rfl, _⟩
  · omega
  · exact ⟨g, cap, rfl⟩
namespace DiskAt
variable {w : World} {b s m : Nat} {v : Value} {d : Dk}
theorem ne_s (h : DiskAt w b s m v d) : s ≠ b := fun e => by
  subst e
  obtain ⟨es, clock, hx, _⟩ := h.sure
  rw [h.cells] at hx
  cases hx
theorem ne_m (h : DiskAt w b s m v d) : m ≠ b := fun e => by
  subst e
  obtain ⟨es, clock, hx, _⟩ := h.now
  rw [h.cells] at hx
  cases hx
theorem row_block (h : DiskAt w b s m v d) {k : Nat} (hk : v.ownBlock = some k) : ∃ cs fz, w.heap[k]? = some (.cells cs 99 fz) := by
  rcases h.row.2 with ⟨rfl, _⟩ | ⟨g, cap, cur, rfl, _, hh, _⟩
  · simp [Value.ownBlock] at hk
  · have : g = k := by simpa [Value.ownBlock] using hk
    subst this
    exact ⟨_, _, hh⟩
theorem ne_row (h : DiskAt w b s m v d) {k : Nat} (hk : v.ownBlock = some k) : k ≠ b ∧ k ≠ s ∧ k ≠ m := by
  obtain ⟨cs, fz, hh⟩ := h.row_block hk
  refine ⟨fun e => ?_, fun e => ?_, fun e => ?_⟩
  · subst e
    rw [h.cells] at hh
    injection hh with hh
    injection hh with _ ht
    cases ht
  · subst e
    obtain ⟨es, clock, hx, _⟩ := h.sure
    rw [hx] at hh
    cases hh
  · subst e
    obtain ⟨es, clock, hx, _⟩ := h.now
    rw [hx] at hh
    cases hh
end DiskAt
theorem lay_mid {w1 w2 : World} {b s m : Nat} {v : Value} {d : Dk} {o : Obj} (h : DiskAt w1 b s m v d) (hg : (w1.alloc o).grownBy w2 v.ownBlock) :
    w2.cell? ⟨b, 1, none⟩ = some (.map (some m)) ∧ w2.cell? ⟨b, 2, none⟩ = some v ∧ w2.frozen? ⟨b, 2, none⟩ = false ∧ ∀ v', MapAt (w2.setCell ⟨b, 2, none⟩ v') m d.now := by
  have k1 : Kept (fun k => v.ownBlock = some k) w1 w2 := ((Kept.refl _ w1).alloc o).trans ((Kept.refl _ _).grown hg fun _ hk _ => hk)
  have hb2 := (k1.block b h.lt (fun e => (h.ne_row e).1 rfl)).trans h.cells
  exact ⟨cell_of_block hb2 1, cell_of_block hb2 2, frozen_of_block hb2 2, fun v' => (h.now.kept k1 (fun e => (h.ne_row e).2.2 rfl)).kept (Kept.own _ _ _ _) h.ne_m⟩
theorem grown_kept {w w' : World} {v : Value} (h : w.grownBy w' v.ownBlock) : Kept (fun k => v.ownBlock = some k) w w' :=
  (Kept.refl _ w).grown h fun _ hk _ => hk
/-- The disk behind the append, the store and the change. -/
theorem lay_close {w1 w2 w4 : World} {b s m : Nat} {v v' : Value} {d : Dk} {c : Ch} {o : Obj} (h : DiskAt w1 b s m v d.counted)
    (hg : (w1.alloc o).grownBy w2 v.ownBlock) (hrow : w2.ownsRow 0 99 1 v' (d.row.length + 1) (d.row.map Ch.enc ++ [c.enc]))
    (hloc : v'.ownBlock = v.ownBlock ∨ v'.ownBlock = some (w1.alloc o).heap.size) (hm : MapAt w4 m (c.done d.now)) (hk : Kept (fun k => k = m) (w2.setCell ⟨b, 2, none⟩ v') w4) :
    DiskAt w4 b s m v' (d.laid c) ∧ Kept (Feet b s m v) w1 w4 ∧ (∀ k, v'.ownBlock = some k → v.ownBlock = some k ∨ w1.heap.size ≤ k) := by
  have hbs := h.ne_s
  have hbm := h.ne_m
  have k1 : Kept (fun k => v.ownBlock = some k) w1 w2 := ((Kept.refl _ w1).alloc o).trans (grown_kept hg)
  have k2 : Kept (fun k => k = b) w2 (w2.setCell ⟨b, 2, none⟩ v') := Kept.own _ _ _ _
  have hb2 : w2.heap[b]? = _ := (k1.block b h.lt (fun e => (h.ne_row e).1 rfl)).trans h.cells
  have hb3 := setCell_block hb2 2 v'
  have hb4 := (hk.block b (Array.getElem?_eq_some_iff.1 hb3).1 (fun e => hbm e.symm)).trans hb3
  have hs4 : MapAt w4 s d.sure := ((h.sure.kept k1 (fun e => (h.ne_row e).2.1 rfl)).kept k2 hbs).kept hk h.ne
  have hv' : ∀ k, v'.ownBlock = some k → v.ownBlock = some k ∨ w1.heap.size ≤ k := by
    intro k hk
    rcases hloc with e | e
    · exact .inl (by rw [← e]; exact hk)
    · rw [e] at hk
      injection hk with hk
      simp at hk
      exact .inr (by omega)
  have hvb : ∀ k, v'.ownBlock = some k → k ≠ b ∧ k ≠ m := by
    intro k hk
    rcases hv' k hk with e | e
    · exact ⟨(h.ne_row e).1, (h.ne_row e).2.2⟩
    · have := h.lt
      have := h.now.lt
      exact ⟨by omega, by omega⟩
  refine ⟨⟨hb4.trans ?_, hs4, hm, ?_, h.ne⟩, ?_, hv'⟩
  · simp [Dk.laid]
  · have hr3 := row_kept hrow k2 (fun k e => (hvb k e).1)
    have hr4 := row_kept hr3 hk (fun k e => (hvb k e).2)
    have e1 : (d.laid c).row = d.row ++ [c] := rfl
    rw [e1]
    simpa using hr4
  · refine (((k1.mono (fun _ _ e => .inr (.inr (.inr e)))).step k2 (fun _ _ e => .inl e))).step hk (fun _ _ e => .inr (.inr (.inl e)))
set_option maxRecDepth 100000 in
set_option maxHeartbeats 1600000 in
theorem lay_plain {w : World} {b s m : Nat} {v : Value} {N : Nat} {d : Dk} (h : DiskAt w b s m v d) (ok : d.Ok N) (hN : N ≤ 1099511627776) (ht : d.trips = false) {c : Ch} (hf : c.fits d.now) :
    Calls Tryd.prog 52 #[.pointer (some ⟨b, 0, none⟩), c.enc] w fun e w' => e = .returned (.int .i64 (d.lay c).2) ∧ Step w b s m v w' (d.lay c).1 := by
  have hc := count_any h ok
  rw [ht] at hc
  have hl1 := ok.len1
  have hl2 := ok.len2
  have hsm := ok.nowSmall
  obtain ⟨i0, hi, hz0, hz1, hz2⟩ := info_parts info_ch
  obtain ⟨T, u, hx⟩ := c.enc_iface
  have hdone := fun W (h : MapAt W m d.now) => done_any h (by unfold maxLen; omega) hsm hf
  rw [hx] at hdone ⊢
  have HX := Lib.hid hx
  have HT := Lib.hid ht
  clear hx ok ht h hf hsm
  go_enter Tryd.func52, Tryd.ntmps52
  go_wp2_with (first
    | (go_at_call 53; refine hc.mono ?_; rintro e w1 ⟨rfl, h1, hk1⟩; have c1 := h1.cs.c1; have c2 := h1.cs.c2; have hrow : w1.ownsRow 0 99 1 v d.row.length (d.row.map Ch.enc) := h1.row; have H1 := Lib.hid h1; clear h1)
    | (at_builtin; refine wpList_append_own_at _ rfl _ _ 88 rfl 0 99 i0 .nilIface 1 16 uT_chs hi hz0 hz1 hz2 rfl (by decide) _ _ _ rfl (hrow.alloc _) ⟨w1.heap.size, 0, none⟩ 1 1 [.iface T u] rfl rfl (cell_one_new _ _ _) (by simp [Value.oneCell']) (by unfold maxLen; omega) (by omega) (Nat.zero_le _) ?_; intro v' w2 hrow2 hg hnil hloc; obtain ⟨g1, g2, g3, g4⟩ := lay_mid H1.out hg; obtain ⟨gg, gcap, rfl⟩ := row_succ hrow2; have HR2 := Lib.hid hrow2; have HL := Lib.hid hloc; have HG4 := Lib.hid g4; clear hnil hrow2 hloc hrow g4)
    | (go_at_call 58; refine (hdone _ (HG4.out _)).mono ?_; rintro e w4 ⟨rfl, hm4, hk4⟩))
  go_returns
  have hcl := lay_close H1.out hg (by rw [HX.out]; exact HR2.out) HL.out hm4 hk4
  have he : d.lay c = (d.laid c, 0) := by unfold Dk.lay; rw [HT.out]; rfl
  rw [he]
  refine ⟨rfl, ⟨s, m, _, hcl.1, fun k hf => ?_⟩, (hk1.mono fun _ _ e => .inl e).trans hcl.2.1⟩
  rcases hf with e | e | e | e
  · exact .inl (.inl e)
  · exact .inl (.inr (.inl e))
  · exact .inl (.inr (.inr (.inl e)))
  · exact (hcl.2.2 k e).imp (fun e => .inr (.inr (.inr e))) (fun h => Nat.le_trans hk1.size h)
set_option maxRecDepth 100000 in
set_option maxHeartbeats 1600000 in
theorem lay_trips {w : World} {b s m : Nat} {v : Value} {N : Nat} {d : Dk} (h : DiskAt w b s m v d) (ok : d.Ok N) (hN : N + 1 ≤ 1099511627776) (hdn : d.down = false) (ht : d.trips = true) {c : Ch} (hf : c.fits d.now) :
    Calls Tryd.prog 52 #[.pointer (some ⟨b, 0, none⟩), c.enc] w fun e w' => e = .returned (.int .i64 (d.lay c).2) ∧ Step w b s m v w' (d.lay c).1 := by
  have hc := count_any h ok
  rw [ht] at hc
  have hl1 := ok.len1
  have hl2 := ok.len2
  have hsm := ok.nowSmall
  obtain ⟨i0, hi, hz0, hz1, hz2⟩ := info_parts info_ch
  obtain ⟨T, u, hx⟩ := c.enc_iface
  have hdone := fun W (h : MapAt W m d.now) => done_any h (by unfold maxLen; omega) hsm hf
  rw [hx] at hdone ⊢
  have HX := Lib.hid hx
  have HOK := Lib.hid (ok.laid hf)
  have HT := Lib.hid ht
  have hq0 := ok.keep0
  have hq1 := ok.keep1
  have HDN := Lib.hid (show (d.laid c).down = false from hdn)
  clear hdn
  clear hx ok ht h hf hsm
  go_enter Tryd.func52, Tryd.ntmps52
  go_wp2_with (first
    | (go_at_call 53; refine hc.mono ?_; rintro e w1 ⟨rfl, h1, hk1⟩; have c1 := h1.cs.c1; have c2 := h1.cs.c2; have hrow : w1.ownsRow 0 99 1 v d.row.length (d.row.map Ch.enc) := h1.row; have H1 := Lib.hid h1; clear h1)
    | (at_builtin; refine wpList_append_own_at _ rfl _ _ 88 rfl 0 99 i0 .nilIface 1 16 uT_chs hi hz0 hz1 hz2 rfl (by decide) _ _ _ rfl (hrow.alloc _) ⟨w1.heap.size, 0, none⟩ 1 1 [.iface T u] rfl rfl (cell_one_new _ _ _) (by simp [Value.oneCell']) (by unfold maxLen; omega) (by omega) (Nat.zero_le _) ?_; intro v' w2 hrow2 hg hnil hloc; obtain ⟨g1, g2, g3, g4⟩ := lay_mid H1.out hg; obtain ⟨gg, gcap, rfl⟩ := row_succ hrow2; have HR2 := Lib.hid hrow2; have HL := Lib.hid hloc; have HG4 := Lib.hid g4; clear hnil hrow2 hloc hrow g4)
    | (go_at_call 58; refine (hdone _ (HG4.out _)).mono ?_; rintro e w4 ⟨rfl, hm4, hk4⟩; have hcl := lay_close H1.out hg (by rw [HX.out]; exact HR2.out) HL.out hm4 hk4; have k6 : w4.cell? ⟨b, 6, none⟩ = some (.int .i64 d.keep) := hcl.1.cs.c6; have HCL := Lib.hid hcl; clear hcl)
    | (go_at_call 19; refine (fail_up HCL.out.1 HOK.out (by omega) HDN.out d.keep hq0 hq1).mono ?_; rintro e w5 ⟨rfl, ⟨m', hd5, hm'⟩, hk5⟩))
  go_returns
  have he : d.lay c = ((d.laid c).fail d.keep, 8) := by unfold Dk.lay; rw [HT.out]; rfl
  rw [he]
  refine ⟨rfl, ⟨s, m', _, hd5, fun k hf => ?_⟩, ?_⟩
  · rcases hf with e | e | e | e
    · exact .inl (.inl e)
    · exact .inl (.inr (.inl e))
    · refine .inr ?_
      have h1 := hk1.size
      have h2 := HCL.out.2.1.size
      omega
    · simp [Value.ownBlock] at e
  · refine ((hk1.mono fun _ _ e => .inl e).trans HCL.out.2.1).step hk5 fun k _ e => ?_
    rcases e with e | e
    · exact .inl e
    · exact .inr (.inl e)
theorem lay_any {w : World} {b s m : Nat} {v : Value} {N : Nat} {d : Dk} (h : DiskAt w b s m v d) (ok : d.Ok N) (hN : N + 1 ≤ 1099511627776) (hdn : d.down = false) {c : Ch} (hf : c.fits d.now) :
    Calls Tryd.prog 52 #[.pointer (some ⟨b, 0, none⟩), c.enc] w fun e w' => e = .returned (.int .i64 (d.lay c).2) ∧ Step w b s m v w' (d.lay c).1 := by
  cases ht : d.trips with
  | true => exact lay_trips h ok hN hdn ht hf
  | false => exact lay_plain h ok (by omega) ht hf
end Go.Proofs.YtjobmlnekpaagaaDoor
