/- ShelfNil, walked. -/
import Derived.Test.YtjobmlnekpaagaaDoorMF
namespace Go.Proofs.YtjobmlnekpaagaaDoor
open Go Go.RowKit Go.Maps
set_option linter.unusedVariables false

def dkF : Dk := Dk.new.fail 0
theorem dkF_ok : dkF.Ok 0 := Dk.ok_new.fail 0
theorem dkF_vote : dkF.loadVote = (⟨0, 0⟩, 8) := rfl
theorem dkF_snap : dkF.loadSnap = (⟨0, 0, 0, .empty⟩, false, 8) := rfl
theorem dkF_save : (dkF.saveVote ⟨0, 0⟩).2 = 8 := by decide +kernel
/-- A vote that has been laid in a block. -/
def BoxV (w : World) (g : Nat) (v : Vt) : Prop := w.heap[g]? = some (.cells v.cells.toArray 38 (0, 0))
def BoxS (w : World) (g : Nat) (s : Sn) : Prop := w.heap[g]? = some (.cells s.cells.toArray 45 (0, 0))
theorem BoxV.kept {F : Nat → Prop} {w w' : World} {g : Nat} {v : Vt} (h : BoxV w g v) (hk : Kept F w w') (hF : ¬ F g) : BoxV w' g v := (hk.block g (Array.getElem?_eq_some_iff.1 h).1 hF).trans h
theorem BoxS.kept {F : Nat → Prop} {w w' : World} {g : Nat} {v : Sn} (h : BoxS w g v) (hk : Kept F w w') (hF : ¬ F g) : BoxS w' g v := (hk.block g (Array.getElem?_eq_some_iff.1 h).1 hF).trans h
theorem BoxV.cells {w : World} {g : Nat} {v : Vt} (h : BoxV w g v) : w.cell? ⟨g, 0, none⟩ = some (.int .i64 v.term) ∧ w.cell? ⟨g, 1, none⟩ = some (.int .i64 v.to) := ⟨by rw [cell_of_block h]; rfl, by rw [cell_of_block h]; rfl⟩
theorem BoxS.cells {w : World} {g : Nat} {v : Sn} (h : BoxS w g v) : w.cell? ⟨g, 0, none⟩ = some (.int .i64 v.index) ∧ w.cell? ⟨g, 1, none⟩ = some (.int .i64 v.term) ∧ w.cell? ⟨g, 2, none⟩ = some (.int .i64 v.mask) ∧ w.cell? ⟨g, 3, none⟩ = some (.string v.text) := ⟨by rw [cell_of_block h]; rfl, by rw [cell_of_block h]; rfl, by rw [cell_of_block h]; rfl, by rw [cell_of_block h]; rfl⟩
theorem boxV_new (w : World) (v : Vt) : BoxV (w.alloc (.cells v.cells.toArray 38)) w.heap.size v := block_new w _
theorem boxS_new (w : World) (v : Sn) : BoxS (w.alloc (.cells v.cells.toArray 45)) w.heap.size v := block_new w _
theorem packed_none : (packed .empty).size = 7 := by rw [packed_size]; rfl
set_option maxRecDepth 100000 in
set_option maxHeartbeats 4000000 in
theorem shelfNil_any (w : World) (v : Vt) (s : Sn) : Calls Tryd.prog 7 #[.agg v.cells.toArray, .agg s.cells.toArray] w fun e w' => e = .returned (.bool true) ∧ Kept (fun _ => False) w w' := by
  have hbv := boxV_new w v
  have hks := (Kept.refl (fun _ => False) (w.alloc (.cells v.cells.toArray 38))).alloc (.cells s.cells.toArray 45)
  have hbs := boxS_new (w.alloc (.cells v.cells.toArray 38)) s
  have HBV := Lib.hid (hbv.kept hks (fun f => f))
  have HBS := Lib.hid hbs
  have HK0 := Lib.hid (((Kept.refl (fun _ => False) w).alloc (.cells v.cells.toArray 38)).trans hks)
  have hpn := packed_none
  have HPK := Lib.hid (fun w => refPack_any w .empty (by decide))
  have HSV := Lib.hid (fun w => saveVote_nil w v)
  have HSS := Lib.hid (fun w => saveSnap_nil w s)
  have HLS := Lib.hid (fun w => loadSnap_nil w)
  generalize packed .empty = pe at *
  clear hbv hks hbs
  rw [alloc_size] at HBS
  obtain ⟨vt, vf⟩ := v
  obtain ⟨si, st, sm, sx⟩ := s
  simp only [Vt.cells, Sn.cells] at *
  have hpn2 : (pe.size : Int) = 7 := by omega
  have hpn3 : decide ((pe.size : Int) = 7) = true := decide_eq_true hpn2
  have hpn4 : ((pe.size : Int) == 7) = true := by rw [hpn2]; rfl
  have HPN := Lib.hid hpn
  clear hpn hpn2 hpn3
  go_enter Tryd.func7, Tryd.ntmps7
  go_wp2_with fail
  refine (own_new (Kept.refl (fun _ => False) _)).mono ?_
  rintro e w1 ⟨b, rfl, h1⟩
  have H1 := Lib.hid h1
  clear h1
  go_wp2_with fail
  refine (own_fail H1.out Dk.ok_new (by decide) 0 ⟨by decide, by decide⟩).mono ?_
  rintro e w2 ⟨rfl, h2⟩
  have h2' : OwnF (fun _ => False) _ w2 b dkF := h2
  have H2 := Lib.hid h2'
  clear h2 h2'
  go_wp2_with fail
  refine (loadVote_nil _).mono ?_
  rintro e w3 ⟨rfl, hk3⟩
  have H3 := Lib.hid (H2.out.quiet (hk3.alloc (.cells #[.int .i64 0, .int .i64 0] 38)))
  clear hk3
  go_wp2_with fail
  refine (HLS.out _).mono ?_
  rintro e w4 ⟨rfl, hk4⟩
  have H4 := Lib.hid (H3.out.quiet (hk4.alloc (.cells #[.int .i64 0, .int .i64 0, .int .i64 0, .string ⟨#[]⟩] 45)))
  clear hk4
  go_wp2_with fail
  have hc := own_loadVote H4.out dkF_ok
  rw [dkF_vote] at hc
  simp only [Vt.cells] at hc
  refine hc.mono ?_
  clear hc
  rintro e w5 ⟨rfl, h5⟩
  have H5 := Lib.hid (h5.quiet ((Kept.refl (fun _ => False) w5).alloc (.cells #[.int .i64 0, .int .i64 0] 38)))
  clear h5
  go_wp2_with fail
  have hc := own_loadSnap H5.out dkF_ok
  rw [dkF_snap] at hc
  simp only [Sn.cells] at hc
  refine hc.mono ?_
  clear hc
  rintro e w6 ⟨rfl, h6⟩
  have H6 := Lib.hid (h6.quiet ((Kept.refl (fun _ => False) w6).alloc (.cells #[.int .i64 0, .int .i64 0, .int .i64 0, .string .empty] 45)))
  clear h6
  go_wp2_with fail
  refine (HPK.out _).mono ?_
  rintro e w7 ⟨rfl, hk7⟩
  have H7 := Lib.hid (H6.out.quiet hk7)
  clear hk7
  go_wp2_with fail
  refine (awake7 _).mono ?_
  rintro e w8 ⟨rfl, hk8⟩
  have H8 := Lib.hid (H7.out.quiet hk8)
  clear hk8
  obtain ⟨v0, v1⟩ := vote_cells ((H8.out.kept.block _ (Array.getElem?_eq_some_iff.1 HBV.out).1 (fun f => f)).trans HBV.out)
  go_wp2_with fail
  refine (HSV.out _).mono ?_
  rintro e w9 ⟨rfl, hk9⟩
  have H9 := Lib.hid (H8.out.quiet hk9)
  clear hk9 v0 v1
  have hb9 := (H9.out.kept.block _ (Array.getElem?_eq_some_iff.1 HBS.out).1 (fun f => f)).trans HBS.out
  have s0 : w9.cell? ⟨w.heap.size + 1, 0, none⟩ = some (.int .i64 si) := by rw [cell_of_block hb9]; rfl
  have s1 : w9.cell? ⟨w.heap.size + 1, 1, none⟩ = some (.int .i64 st) := by rw [cell_of_block hb9]; rfl
  have s2 : w9.cell? ⟨w.heap.size + 1, 2, none⟩ = some (.int .i64 sm) := by rw [cell_of_block hb9]; rfl
  have s3 : w9.cell? ⟨w.heap.size + 1, 3, none⟩ = some (.string sx) := by rw [cell_of_block hb9]; rfl
  clear hb9
  go_wp2_with fail
  refine (HSS.out _).mono ?_
  rintro e w10 ⟨rfl, hk10⟩
  have H10 := Lib.hid (H9.out.quiet hk10)
  clear hk10 s0 s1 s2 s3
  go_wp2_with fail
  have hc := own_saveVote H10.out dkF_ok (by decide) ⟨0, 0⟩
  rw [dkF_save] at hc
  simp only [Vt.cells] at hc
  refine hc.mono ?_
  clear hc
  rintro e w11 ⟨rfl, h11⟩
  have H11 := Lib.hid h11
  clear h11
  go_wp2_with fail
  go_ret
  exact ⟨rfl, HK0.out.trans H11.out.kept⟩
end Go.Proofs.YtjobmlnekpaagaaDoor
