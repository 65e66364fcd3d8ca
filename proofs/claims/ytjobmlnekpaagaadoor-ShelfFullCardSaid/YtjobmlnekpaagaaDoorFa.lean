/- ShelfFalls, walked. -/
import Derived.Test.YtjobmlnekpaagaaDoorDv
namespace Go.Proofs.YtjobmlnekpaagaaDoor
open Go Go.RowKit Go.Maps
set_option linter.unusedVariables false

/-- A slice of savings is read. -/
def ReadsSvs (w : World) (A : Option Addr) (n : Nat) (xs : List Sv) : Prop :=
  xs.length = n ∧ n ≤ 2513169434916 ∧ (∀ x ∈ xs, x.s.text.size ≤ 9223372036854775807) ∧ (n = 0 ∨ ∃ g off, A = some ⟨g, off, none⟩ ∧ g < w.heap.size ∧ ∀ i x, xs[i]? = some x → ∀ j u, x.cells[j]? = some u → w.cell? ⟨g, off + i * 7 + j, none⟩ = some u)
/-- The cells of a saving that is read, in a later world. -/
theorem svs_at {w wr : World} {g off : Nat} {xs : List Sv} (hg : g < w.heap.size) (hc : ∀ i x, xs[i]? = some x → ∀ j u, x.cells[j]? = some u → w.cell? ⟨g, off + i * 7 + j, none⟩ = some u) (hk : Kept (fun _ => False) w wr) {i : Nat} {x : Sv} (hx : xs[i]? = some x) :
    wr.cell? ⟨g, off + i * 7, none⟩ = some (.bool x.snap) ∧ wr.cell? ⟨g, off + i * 7 + 1, none⟩ = some (.int .i64 x.v.term) ∧ wr.cell? ⟨g, off + i * 7 + 2, none⟩ = some (.int .i64 x.v.to) ∧ wr.cell? ⟨g, off + i * 7 + 3, none⟩ = some (.int .i64 x.s.index) ∧ wr.cell? ⟨g, off + i * 7 + 4, none⟩ = some (.int .i64 x.s.term) ∧ wr.cell? ⟨g, off + i * 7 + 5, none⟩ = some (.int .i64 x.s.mask) ∧ wr.cell? ⟨g, off + i * 7 + 6, none⟩ = some (.string x.s.text) := by
  have h := fun j u hj => (hk.cell (p := ⟨g, off + i * 7 + j, none⟩) hg (fun f => f)).trans (hc i x hx j u hj)
  exact ⟨h 0 _ rfl, h 1 _ rfl, h 2 _ rfl, h 3 _ rfl, h 4 _ rfl, h 5 _ rfl, h 6 _ rfl⟩
theorem bx_cells {W : World} {g : Nat} {x : Sv} (h : W.heap[g]? = some (bX x)) : W.cell? ⟨g, 0, none⟩ = some (.bool x.snap) ∧ W.cell? ⟨g, 1, none⟩ = some (.int .i64 x.v.term) ∧ W.cell? ⟨g, 2, none⟩ = some (.int .i64 x.v.to) ∧ W.cell? ⟨g, 3, none⟩ = some (.int .i64 x.s.index) ∧ W.cell? ⟨g, 4, none⟩ = some (.int .i64 x.s.term) ∧ W.cell? ⟨g, 5, none⟩ = some (.int .i64 x.s.mask) ∧ W.cell? ⟨g, 6, none⟩ = some (.string x.s.text) :=
  ⟨by rw [cell_of_block h]; rfl, by rw [cell_of_block h]; rfl, by rw [cell_of_block h]; rfl, by rw [cell_of_block h]; rfl, by rw [cell_of_block h]; rfl, by rw [cell_of_block h]; rfl, by rw [cell_of_block h]; rfl⟩
theorem bv_cells {W : World} {g : Nat} {v : Vt} (h : W.heap[g]? = some (bV v)) : W.cell? ⟨g, 0, none⟩ = some (.int .i64 v.term) ∧ W.cell? ⟨g, 1, none⟩ = some (.int .i64 v.to) := ⟨by rw [cell_of_block h]; rfl, by rw [cell_of_block h]; rfl⟩
theorem bs_cells {W : World} {g : Nat} {s : Sn} (h : W.heap[g]? = some (bS s)) : W.cell? ⟨g, 0, none⟩ = some (.int .i64 s.index) ∧ W.cell? ⟨g, 1, none⟩ = some (.int .i64 s.term) ∧ W.cell? ⟨g, 2, none⟩ = some (.int .i64 s.mask) ∧ W.cell? ⟨g, 3, none⟩ = some (.string s.text) :=
  ⟨by rw [cell_of_block h]; rfl, by rw [cell_of_block h]; rfl, by rw [cell_of_block h]; rfl, by rw [cell_of_block h]; rfl⟩
set_option maxRecDepth 100000 in
set_option maxHeartbeats 16000000 in
theorem shelfFalls_any {w : World} {A : Option Addr} {n c : Nat} {xs : List Sv} (h : ReadsSvs w A n xs) (nn k : Int) (hn : I64 nn) (hk : I64 k) : Calls Tryd.prog 8 #[.slice A n c, .int .i64 nn, .int .i64 k] w fun e w' => e = .returned (.bool true) ∧ Kept (fun _ => False) w w' := by
  obtain ⟨hl, hn2, hwf, hcells⟩ := h
  have HC := Lib.hid hcells
  have HWF := Lib.hid hwf
  have HL := Lib.hid hl
  have HN0 := Lib.hid hn
  clear hcells hwf hl hn
  go_enter Tryd.func8, Tryd.ntmps8
  go_wp2_with fail
  refine (own_new (Kept.refl (fun _ => False) _)).mono ?_
  rintro e w1 ⟨b, rfl, h1⟩
  have S1 := Lib.hid (Sep.of h1)
  clear h1
  go_wp2_with fail
  have s2 := (S1.out.box (bV ⟨0, -1⟩)).box (bS ⟨0, 0, 0, ⟨#[]⟩⟩)
  rw [alloc_size] at s2
  refine (awake7 _).mono ?_
  rintro e w2 ⟨rfl, hk2⟩
  have S3 := Lib.hid (s2.quiet hk2)
  clear s2 hk2 S1
  go_wp2_with fail
  refine (S3.out.call fun G hG => own_trip hG _ _).mono ?_
  rintro e w3 ⟨rfl, s4⟩
  have hok : (Dk.new.trip (wrap64 ((wrap64 (nn.tmod 60 + 60)).tmod 60 + 1)) k).Ok 0 := Dk.ok_new.trip (by unfold wrap64; omega) ⟨hk.1, hk.2⟩
  have hcalm : Calm (Dk.new.trip (wrap64 ((wrap64 (nn.tmod 60 + 60)).tmod 60 + 1)) k) := ⟨rfl, rfl, rfl⟩
  have hfs : FilesSay (Dk.new.trip (wrap64 ((wrap64 (nn.tmod 60 + 60)).tmod 60 + 1)) k).sure ⟨0, -1⟩ ⟨0, 0, 0, ⟨#[]⟩⟩ false := FilesSay.new
  have hroom : (Dk.new.trip (wrap64 ((wrap64 (nn.tmod 60 + 60)).tmod 60 + 1)) k).room = -1 := rfl
  generalize Dk.new.trip (wrap64 ((wrap64 (nn.tmod 60 + 60)).tmod 60 + 1)) k = d1 at *
  obtain ⟨gv, hgv⟩ : ∃ g, g = w1.heap.size := ⟨_, rfl⟩
  rw [← hgv] at s4 ⊢
  have S4 := Lib.hid s4
  have HOK := Lib.hid hok
  have HCALM := Lib.hid hcalm
  have HFS := Lib.hid hfs
  have HROOM := Lib.hid hroom
  clear s4 hok hcalm hfs hroom S3 hgv HN0
  go_wp2_with fail
  go_loopw [10, 11, 12, 13, 14] (fun v10 v11 v12 v13 v14 wr => ∃ (i : Nat) (dd : Dk) (v : Vt) (s : Sn) (is : Bool), i ≤ n ∧ i ≤ 12 ∧ v11 = .int .i64 i ∧ v10 = .bool is ∧ Sep w wr b dd [(gv + 1, bS s), (gv, bV v)] ∧ Calm dd ∧ FilesSay dd.sure v s is ∧ dd.room = -1 ∧ dd.Ok (3 * i)) (fun _ v11 _ _ _ _ => n - (intOf v11).toNat)
  case atStart => exact ⟨0, d1, _, _, _, Nat.zero_le _, Nat.zero_le _, rfl, rfl, S4.out, HCALM.out, HFS.out, HROOM.out, HOK.out⟩
  case round =>
    obtain ⟨i, dd, ⟨vt, vf⟩, ⟨si, st, sm, sx⟩, is, hi, hi12, rfl, rfl, hS, hcalm, hfs, hroom, hok⟩ := hrel
    have SS := Lib.hid hS
    have CA := Lib.hid hcalm
    have FS := Lib.hid hfs
    have RM := Lib.hid hroom
    have OK := Lib.hid hok
    clear hS hcalm hfs hroom hok S4 HOK HCALM HFS HROOM
    by_cases hin : i < n ∧ i < 12
    · obtain ⟨hlt, h12⟩ := hin
      have hd1 : decide (i < n) = true := by simpa using hlt
      have hd2 : decide ((i : Int) < 12) = true := decide_eq_true (by omega)
      obtain ⟨⟨sn, ⟨xa, xb⟩, ⟨yi, yt, ym, yx⟩⟩, hx⟩ : ∃ x, xs[i]? = some x := ⟨xs[i]'(by rw [HL.out]; exact hlt), List.getElem?_eq_getElem _⟩
      have hz : yx.size ≤ 9223372036854775807 := HWF.out _ (List.mem_of_getElem? hx)
      rcases HC.out with h0 | ⟨g, off, rfl, hg, hc⟩
      · omega
      obtain ⟨x0, x1, x2, x3, x4, x5, x6⟩ := svs_at hg hc SS.out.kept hx
      simp only at x0 x1 x2 x3 x4 x5 x6
      clear hc hx HC
      by_cases h3 : 3000 < yx.size
      · have hd3 : decide ((yx.size : Int) > 3000) = true := decide_eq_true (by omega)
        clear h12 h3
        go_wp2_with fail
        go_roundw
        case rel => exact ⟨i + 1, dd, _, _, _, by have := of_decide_eq_true hd1; omega, by have := of_decide_eq_true hd2; omega, by simp, rfl, (SS.out.box (bX ⟨sn, ⟨xa, xb⟩, ⟨yi, yt, ym, yx⟩⟩)).tail, CA.out, FS.out, RM.out, OK.out.mono (by omega)⟩
        case measure => have := of_decide_eq_true hd1; simp [intOf]; omega
      · have hd3 : decide ((yx.size : Int) > 3000) = false := decide_eq_false (by omega)
        have SX := Lib.hid (SS.out.box (bX ⟨sn, ⟨xa, xb⟩, ⟨yi, yt, ym, yx⟩⟩))
        have HSV := Lib.hid (SX.out.call fun G hG => own_saveAct hG OK.out (by omega) ⟨sn, ⟨xa, xb⟩, ⟨yi, yt, ym, yx⟩⟩)
        have OK2 := Lib.hid (OK.out.saveAct ⟨sn, ⟨xa, xb⟩, ⟨yi, yt, ym, yx⟩⟩)
        have HFA := Lib.hid (fun hm => saveAct_falls (x := ⟨sn, ⟨xa, xb⟩, ⟨yi, yt, ym, yx⟩⟩) CA.out FS.out RM.out hm)
        have HNO := Lib.hid (fun hm => saveAct_not (d := dd) (x := ⟨sn, ⟨xa, xb⟩, ⟨yi, yt, ym, yx⟩⟩) hm)
        clear h3 h12
        cases sn with
        | true =>
          have HDOC := Lib.hid (fun w => docMay w ⟨yi, yt, ym, yx⟩)
          simp only [Sn.cells] at HDOC
          cases hm : Sn.may ⟨yi, yt, ym, yx⟩ with
          | false =>
            rw [hm] at HDOC
            rw [HNO.out hm] at HSV
            clear hm
            simp only [Sv.cells] at HSV
            go_wp2_with fail
            refine HSV.out.mono ?_
            rintro e w4 ⟨rfl, s5⟩
            have S5 := Lib.hid s5
            obtain ⟨c0, c1, c2, c3, c4, c5, c6⟩ := bx_cells (S5.out.blk (x := (wr.heap.size, bX ⟨true, ⟨xa, xb⟩, ⟨yi, yt, ym, yx⟩⟩)) (by simp))
            simp only at c0 c1 c2 c3 c4 c5 c6
            clear s5
            go_wp2_with fail
            refine (HDOC.out _).mono ?_
            rintro e w5 ⟨rfl, hk5⟩
            have S6 := Lib.hid (S5.out.quiet hk5)
            clear hk5 c0 c1 c2 c3 c4 c5 c6
            obtain ⟨c0, c1, c2, c3, c4, c5, c6⟩ := bx_cells (S6.out.blk (x := (wr.heap.size, bX ⟨true, ⟨xa, xb⟩, ⟨yi, yt, ym, yx⟩⟩)) (by simp))
            simp only at c0 c1 c2 c3 c4 c5 c6
            go_wp2_with fail
            go_roundw
            case rel => exact ⟨i + 1, _, _, _, _, by have := of_decide_eq_true hd1; omega, by have := of_decide_eq_true hd2; omega, by simp, rfl, S6.out.tail, CA.out, FS.out, RM.out, OK.out.mono (by omega)⟩
            case measure => have := of_decide_eq_true hd1; simp [intOf]; omega
          | true =>
            rw [hm] at HDOC
            have hfa := HFA.out hm
            clear hm HFA HNO
            generalize Dk.saveAct dd ⟨true, ⟨xa, xb⟩, ⟨yi, yt, ym, yx⟩⟩ = R at *
            obtain ⟨d2, e2⟩ := R
            simp only [Sv.cells] at HSV
            simp only at OK2
            simp only [Sv.nv, Sv.ns, Sv.ni, if_true] at hfa
            rcases hfa with ⟨rfl, hc2, hf2, hr2⟩ | ⟨rfl, hdn, hc2, hf2, hr2⟩
            · have CA2 := Lib.hid hc2
              have FS2 := Lib.hid hf2
              have RM2 := Lib.hid hr2
              clear hc2 hf2 hr2
              go_wp2_with fail
              refine HSV.out.mono ?_
              rintro e w4 ⟨rfl, s5⟩
              have S5 := Lib.hid s5
              obtain ⟨c0, c1, c2, c3, c4, c5, c6⟩ := bx_cells (S5.out.blk (x := (wr.heap.size, bX ⟨true, ⟨xa, xb⟩, ⟨yi, yt, ym, yx⟩⟩)) (by simp))
              simp only at c0 c1 c2 c3 c4 c5 c6
              clear s5
              go_wp2_with fail
              refine (HDOC.out _).mono ?_
              rintro e w5 ⟨rfl, hk5⟩
              have S6 := Lib.hid (S5.out.quiet hk5)
              clear hk5 c0 c1 c2 c3 c4 c5 c6
              obtain ⟨c0, c1, c2, c3, c4, c5, c6⟩ := bx_cells (S6.out.blk (x := (wr.heap.size, bX ⟨true, ⟨xa, xb⟩, ⟨yi, yt, ym, yx⟩⟩)) (by simp))
              obtain ⟨v0, v1⟩ := bv_cells (S6.out.blk (x := (gv, bV ⟨vt, vf⟩)) (by simp))
              obtain ⟨s0, s1, s2, s3⟩ := bs_cells (S6.out.blk (x := (gv + 1, bS ⟨si, st, sm, sx⟩)) (by simp))
              simp only at c0 c1 c2 c3 c4 c5 c6 v0 v1 s0 s1 s2 s3
              have f0 := frozen_of_block (S6.out.blk (x := (gv + 1, bS ⟨si, st, sm, sx⟩)) (by simp)) 0
              have f1 := frozen_of_block (S6.out.blk (x := (gv + 1, bS ⟨si, st, sm, sx⟩)) (by simp)) 1
              have f2 := frozen_of_block (S6.out.blk (x := (gv + 1, bS ⟨si, st, sm, sx⟩)) (by simp)) 2
              have f3 := frozen_of_block (S6.out.blk (x := (gv + 1, bS ⟨si, st, sm, sx⟩)) (by simp)) 3
              have ST := Lib.hid (Sep.setS ((S6.out.tail).sub (M := [(gv + 1, bS ⟨si, st, sm, sx⟩), (gv, bV ⟨vt, vf⟩)]) (by simp)) (by simp) ⟨yi, yt, ym, yx⟩)
              go_wp2_with fail
              have hl := sep_loads ST.out OK2.out ⟨vt, vf⟩ ⟨yi, yt, ym, yx⟩ true true (.inl ⟨rfl, FS2.out.loads CA2.out.up CA2.out.now⟩)
              simp only [Vt.cells, Sn.cells] at hl
              refine hl.mono ?_
              clear hl
              rintro e wz ⟨rfl, sz⟩
              have SZ := Lib.hid sz
              clear sz v0 v1 s0 s1 s2 s3 c0 c1 c2 c3 c4 c5 c6
              go_wp2_with fail
              go_roundw
              case rel => exact ⟨i + 1, _, _, _, _, by have := of_decide_eq_true hd1; omega, by have := of_decide_eq_true hd2; omega, by simp, rfl, SZ.out, CA2.out, FS2.out, RM2.out, OK2.out.mono (by omega)⟩
              case measure => have := of_decide_eq_true hd1; simp [intOf]; omega
            · have DN := Lib.hid hdn
              have CA2 := Lib.hid hc2
              have RM2 := Lib.hid hr2
              have FS2 := Lib.hid hf2
              clear hc2 hr2 hf2 hdn
              go_wp2_with fail
              refine HSV.out.mono ?_
              rintro e w4 ⟨rfl, s5⟩
              have S5 := Lib.hid s5
              obtain ⟨c0, c1, c2, c3, c4, c5, c6⟩ := bx_cells (S5.out.blk (x := (wr.heap.size, bX ⟨true, ⟨xa, xb⟩, ⟨yi, yt, ym, yx⟩⟩)) (by simp))
              simp only at c0 c1 c2 c3 c4 c5 c6
              clear s5
              go_wp2_with fail
              refine (HDOC.out _).mono ?_
              rintro e w5 ⟨rfl, hk5⟩
              have S6 := Lib.hid (S5.out.quiet hk5)
              clear hk5 c0 c1 c2 c3 c4 c5 c6
              go_wp2_with fail
              have hc := S6.out.call fun G hG => own_down hG
              rw [DN.out] at hc
              refine hc.mono ?_
              clear hc
              rintro e w6 ⟨rfl, s7⟩
              have S7 := Lib.hid s7
              clear s7
              go_wp2_with fail
              refine (S7.out.call fun G hG => own_wake hG).mono ?_
              rintro e w7 ⟨rfl, s8⟩
              have S8 := Lib.hid s8
              clear s8
              have OK3 := Lib.hid OK2.out.wake
              have RM3 : Hid (d2.wake.room = -1) := RM2.out
              obtain ⟨v0, v1⟩ := bv_cells (S8.out.blk (x := (gv, bV ⟨vt, vf⟩)) (by simp))
              obtain ⟨s0, s1, s2, s3⟩ := bs_cells (S8.out.blk (x := (gv + 1, bS ⟨si, st, sm, sx⟩)) (by simp))
              simp only at v0 v1 s0 s1 s2 s3
              by_cases hold : FilesSay d2.wake.sure ⟨vt, vf⟩ ⟨si, st, sm, sx⟩ is
              · have FS3 := Lib.hid hold
                clear hold
                go_wp2_with fail
                have hl := sep_loads S8.out OK3.out ⟨vt, vf⟩ ⟨si, st, sm, sx⟩ is true (.inl ⟨rfl, FS3.out.loads CA2.out.up CA2.out.now⟩)
                simp only [Vt.cells, Sn.cells] at hl
                refine hl.mono ?_
                clear hl
                rintro e w8 ⟨rfl, s9⟩
                have S9 := Lib.hid s9
                clear s9 v0 v1 s0 s1 s2 s3
                go_wp2_with fail
                go_roundw
                case rel => exact ⟨i + 1, _, _, _, _, by have := of_decide_eq_true hd1; omega, by have := of_decide_eq_true hd2; omega, by simp, rfl, S9.out.tail, CA2.out, FS3.out, RM3.out, OK3.out.mono (by omega)⟩
                case measure => have := of_decide_eq_true hd1; simp [intOf]; omega
              · have hnew : FilesSay d2.wake.sure ⟨vt, vf⟩ ⟨yi, yt, ym, yx⟩ true := by
                  rcases FS2.out with h | h
                  · exact absurd h hold
                  · exact h
                have hno : d2.wake.loadVote ≠ (⟨vt, vf⟩, 0) ∨ d2.wake.loadSnap ≠ (⟨si, st, sm, sx⟩, is, 0) := by
                  have hl := hnew.loads CA2.out.up CA2.out.now
                  refine Classical.byContradiction fun hq => hold ?_
                  have q1 : d2.wake.loadVote = (⟨vt, vf⟩, 0) := Classical.byContradiction fun e => hq (.inl e)
                  have q2 : d2.wake.loadSnap = (⟨si, st, sm, sx⟩, is, 0) := Classical.byContradiction fun e => hq (.inr e)
                  rw [hl.1] at q1
                  rw [hl.2] at q2
                  have e1 : (⟨vt, vf⟩ : Vt) = ⟨vt, vf⟩ := congrArg Prod.fst q1
                  have e2 : (⟨yi, yt, ym, yx⟩ : Sn) = ⟨si, st, sm, sx⟩ := congrArg Prod.fst q2
                  have e3 : true = is := congrArg (fun z : Sn × Bool × Int => z.2.1) q2
                  rw [← e1, ← e2, ← e3]
                  exact hnew
                have FS3 := Lib.hid hnew
                have HNL := Lib.hid hno
                clear hnew hno hold
                go_wp2_with fail
                have hl := sep_loads S8.out OK3.out ⟨vt, vf⟩ ⟨si, st, sm, sx⟩ is false (.inr ⟨rfl, HNL.out⟩)
                simp only [Vt.cells, Sn.cells] at hl
                refine hl.mono ?_
                clear hl
                rintro e w8 ⟨rfl, s9⟩
                have S9 := Lib.hid s9
                clear s9 v0 v1 s0 s1 s2 s3
                obtain ⟨c0, c1, c2, c3, c4, c5, c6⟩ := bx_cells (S9.out.blk (x := (wr.heap.size, bX ⟨true, ⟨xa, xb⟩, ⟨yi, yt, ym, yx⟩⟩)) (by simp))
                obtain ⟨v0, v1⟩ := bv_cells (S9.out.blk (x := (gv, bV ⟨vt, vf⟩)) (by simp))
                obtain ⟨s0, s1, s2, s3⟩ := bs_cells (S9.out.blk (x := (gv + 1, bS ⟨si, st, sm, sx⟩)) (by simp))
                simp only at c0 c1 c2 c3 c4 c5 c6 v0 v1 s0 s1 s2 s3
                have f0 := frozen_of_block (S9.out.blk (x := (gv + 1, bS ⟨si, st, sm, sx⟩)) (by simp)) 0
                have f1 := frozen_of_block (S9.out.blk (x := (gv + 1, bS ⟨si, st, sm, sx⟩)) (by simp)) 1
                have f2 := frozen_of_block (S9.out.blk (x := (gv + 1, bS ⟨si, st, sm, sx⟩)) (by simp)) 2
                have f3 := frozen_of_block (S9.out.blk (x := (gv + 1, bS ⟨si, st, sm, sx⟩)) (by simp)) 3
                have ST := Lib.hid (Sep.setS ((S9.out.tail).sub (M := [(gv + 1, bS ⟨si, st, sm, sx⟩), (gv, bV ⟨vt, vf⟩)]) (by simp)) (by simp) ⟨yi, yt, ym, yx⟩)
                go_wp2_with fail
                have hl := sep_loads ST.out OK3.out ⟨vt, vf⟩ ⟨yi, yt, ym, yx⟩ true true (.inl ⟨rfl, FS3.out.loads CA2.out.up CA2.out.now⟩)
                simp only [Vt.cells, Sn.cells] at hl
                refine hl.mono ?_
                clear hl
                rintro e wz ⟨rfl, sz⟩
                have SZ := Lib.hid sz
                clear sz v0 v1 s0 s1 s2 s3 c0 c1 c2 c3 c4 c5 c6
                go_wp2_with fail
                go_roundw
                case rel => exact ⟨i + 1, _, _, _, _, by have := of_decide_eq_true hd1; omega, by have := of_decide_eq_true hd2; omega, by simp, rfl, SZ.out, CA2.out, FS3.out, RM3.out, OK3.out.mono (by omega)⟩
                case measure => have := of_decide_eq_true hd1; simp [intOf]; omega
        | false =>
          have HDOC := Lib.hid (fun w => docVoted w ⟨xa, xb⟩)
          simp only [Vt.cells] at HDOC
          cases hm : Vt.may ⟨xa, xb⟩ with
          | false =>
            rw [hm] at HDOC
            rw [HNO.out hm] at HSV
            clear hm
            simp only [Sv.cells] at HSV
            go_wp2_with fail
            refine HSV.out.mono ?_
            rintro e w4 ⟨rfl, s5⟩
            have S5 := Lib.hid s5
            obtain ⟨c0, c1, c2, c3, c4, c5, c6⟩ := bx_cells (S5.out.blk (x := (wr.heap.size, bX ⟨false, ⟨xa, xb⟩, ⟨yi, yt, ym, yx⟩⟩)) (by simp))
            simp only at c0 c1 c2 c3 c4 c5 c6
            clear s5
            go_wp2_with fail
            refine (HDOC.out _).mono ?_
            rintro e w5 ⟨rfl, hk5⟩
            have S6 := Lib.hid (S5.out.quiet hk5)
            clear hk5 c0 c1 c2 c3 c4 c5 c6
            obtain ⟨c0, c1, c2, c3, c4, c5, c6⟩ := bx_cells (S6.out.blk (x := (wr.heap.size, bX ⟨false, ⟨xa, xb⟩, ⟨yi, yt, ym, yx⟩⟩)) (by simp))
            simp only at c0 c1 c2 c3 c4 c5 c6
            go_wp2_with fail
            go_roundw
            case rel => exact ⟨i + 1, _, _, _, _, by have := of_decide_eq_true hd1; omega, by have := of_decide_eq_true hd2; omega, by simp, rfl, S6.out.tail, CA.out, FS.out, RM.out, OK.out.mono (by omega)⟩
            case measure => have := of_decide_eq_true hd1; simp [intOf]; omega
          | true =>
            rw [hm] at HDOC
            have hfa := HFA.out hm
            clear hm HFA HNO
            generalize Dk.saveAct dd ⟨false, ⟨xa, xb⟩, ⟨yi, yt, ym, yx⟩⟩ = R at *
            obtain ⟨d2, e2⟩ := R
            simp only [Sv.cells] at HSV
            simp only at OK2
            simp only [Sv.nv, Sv.ns, Sv.ni, Bool.false_eq_true, if_false] at hfa
            rcases hfa with ⟨rfl, hc2, hf2, hr2⟩ | ⟨rfl, hdn, hc2, hf2, hr2⟩
            · have CA2 := Lib.hid hc2
              have FS2 := Lib.hid hf2
              have RM2 := Lib.hid hr2
              clear hc2 hf2 hr2
              go_wp2_with fail
              refine HSV.out.mono ?_
              rintro e w4 ⟨rfl, s5⟩
              have S5 := Lib.hid s5
              obtain ⟨c0, c1, c2, c3, c4, c5, c6⟩ := bx_cells (S5.out.blk (x := (wr.heap.size, bX ⟨false, ⟨xa, xb⟩, ⟨yi, yt, ym, yx⟩⟩)) (by simp))
              simp only at c0 c1 c2 c3 c4 c5 c6
              clear s5
              go_wp2_with fail
              refine (HDOC.out _).mono ?_
              rintro e w5 ⟨rfl, hk5⟩
              have S6 := Lib.hid (S5.out.quiet hk5)
              clear hk5 c0 c1 c2 c3 c4 c5 c6
              obtain ⟨c0, c1, c2, c3, c4, c5, c6⟩ := bx_cells (S6.out.blk (x := (wr.heap.size, bX ⟨false, ⟨xa, xb⟩, ⟨yi, yt, ym, yx⟩⟩)) (by simp))
              obtain ⟨v0, v1⟩ := bv_cells (S6.out.blk (x := (gv, bV ⟨vt, vf⟩)) (by simp))
              obtain ⟨s0, s1, s2, s3⟩ := bs_cells (S6.out.blk (x := (gv + 1, bS ⟨si, st, sm, sx⟩)) (by simp))
              simp only at c0 c1 c2 c3 c4 c5 c6 v0 v1 s0 s1 s2 s3
              have f0 := frozen_of_block (S6.out.blk (x := (gv, bV ⟨vt, vf⟩)) (by simp)) 0
              have f1 := frozen_of_block (S6.out.blk (x := (gv, bV ⟨vt, vf⟩)) (by simp)) 1
              have ST := Lib.hid (Sep.setV ((S6.out.tail).sub (M := [(gv, bV ⟨vt, vf⟩), (gv + 1, bS ⟨si, st, sm, sx⟩)]) (by simp)) (by simp) ⟨xa, xb⟩)
              go_wp2_with fail
              have hl := sep_loads ST.out OK2.out ⟨xa, xb⟩ ⟨si, st, sm, sx⟩ is true (.inl ⟨rfl, FS2.out.loads CA2.out.up CA2.out.now⟩)
              simp only [Vt.cells, Sn.cells] at hl
              refine hl.mono ?_
              clear hl
              rintro e wz ⟨rfl, sz⟩
              have SZ := Lib.hid sz
              clear sz v0 v1 s0 s1 s2 s3 c0 c1 c2 c3 c4 c5 c6
              go_wp2_with fail
              go_roundw
              case rel => exact ⟨i + 1, _, _, _, _, by have := of_decide_eq_true hd1; omega, by have := of_decide_eq_true hd2; omega, by simp, rfl, SZ.out.swap, CA2.out, FS2.out, RM2.out, OK2.out.mono (by omega)⟩
              case measure => have := of_decide_eq_true hd1; simp [intOf]; omega
            · have DN := Lib.hid hdn
              have CA2 := Lib.hid hc2
              have RM2 := Lib.hid hr2
              have FS2 := Lib.hid hf2
              clear hc2 hr2 hf2 hdn
              go_wp2_with fail
              refine HSV.out.mono ?_
              rintro e w4 ⟨rfl, s5⟩
              have S5 := Lib.hid s5
              obtain ⟨c0, c1, c2, c3, c4, c5, c6⟩ := bx_cells (S5.out.blk (x := (wr.heap.size, bX ⟨false, ⟨xa, xb⟩, ⟨yi, yt, ym, yx⟩⟩)) (by simp))
              simp only at c0 c1 c2 c3 c4 c5 c6
              clear s5
              go_wp2_with fail
              refine (HDOC.out _).mono ?_
              rintro e w5 ⟨rfl, hk5⟩
              have S6 := Lib.hid (S5.out.quiet hk5)
              clear hk5 c0 c1 c2 c3 c4 c5 c6
              go_wp2_with fail
              have hc := S6.out.call fun G hG => own_down hG
              rw [DN.out] at hc
              refine hc.mono ?_
              clear hc
              rintro e w6 ⟨rfl, s7⟩
              have S7 := Lib.hid s7
              clear s7
              go_wp2_with fail
              refine (S7.out.call fun G hG => own_wake hG).mono ?_
              rintro e w7 ⟨rfl, s8⟩
              have S8 := Lib.hid s8
              clear s8
              have OK3 := Lib.hid OK2.out.wake
              have RM3 : Hid (d2.wake.room = -1) := RM2.out
              obtain ⟨v0, v1⟩ := bv_cells (S8.out.blk (x := (gv, bV ⟨vt, vf⟩)) (by simp))
              obtain ⟨s0, s1, s2, s3⟩ := bs_cells (S8.out.blk (x := (gv + 1, bS ⟨si, st, sm, sx⟩)) (by simp))
              simp only at v0 v1 s0 s1 s2 s3
              by_cases hold : FilesSay d2.wake.sure ⟨vt, vf⟩ ⟨si, st, sm, sx⟩ is
              · have FS3 := Lib.hid hold
                clear hold
                go_wp2_with fail
                have hl := sep_loads S8.out OK3.out ⟨vt, vf⟩ ⟨si, st, sm, sx⟩ is true (.inl ⟨rfl, FS3.out.loads CA2.out.up CA2.out.now⟩)
                simp only [Vt.cells, Sn.cells] at hl
                refine hl.mono ?_
                clear hl
                rintro e w8 ⟨rfl, s9⟩
                have S9 := Lib.hid s9
                clear s9 v0 v1 s0 s1 s2 s3
                go_wp2_with fail
                go_roundw
                case rel => exact ⟨i + 1, _, _, _, _, by have := of_decide_eq_true hd1; omega, by have := of_decide_eq_true hd2; omega, by simp, rfl, S9.out.tail, CA2.out, FS3.out, RM3.out, OK3.out.mono (by omega)⟩
                case measure => have := of_decide_eq_true hd1; simp [intOf]; omega
              · have hnew : FilesSay d2.wake.sure ⟨xa, xb⟩ ⟨si, st, sm, sx⟩ is := by
                  rcases FS2.out with h | h
                  · exact absurd h hold
                  · exact h
                have hno : d2.wake.loadVote ≠ (⟨vt, vf⟩, 0) ∨ d2.wake.loadSnap ≠ (⟨si, st, sm, sx⟩, is, 0) := by
                  have hl := hnew.loads CA2.out.up CA2.out.now
                  refine Classical.byContradiction fun hq => hold ?_
                  have q1 : d2.wake.loadVote = (⟨vt, vf⟩, 0) := Classical.byContradiction fun e => hq (.inl e)
                  have q2 : d2.wake.loadSnap = (⟨si, st, sm, sx⟩, is, 0) := Classical.byContradiction fun e => hq (.inr e)
                  rw [hl.1] at q1
                  rw [hl.2] at q2
                  have e1 : (⟨xa, xb⟩ : Vt) = ⟨vt, vf⟩ := congrArg Prod.fst q1
                  have e2 : (⟨si, st, sm, sx⟩ : Sn) = ⟨si, st, sm, sx⟩ := congrArg Prod.fst q2
                  have e3 : is = is := congrArg (fun z : Sn × Bool × Int => z.2.1) q2
                  rw [← e1, ← e2, ← e3]
                  exact hnew
                have FS3 := Lib.hid hnew
                have HNL := Lib.hid hno
                clear hnew hno hold
                go_wp2_with fail
                have hl := sep_loads S8.out OK3.out ⟨vt, vf⟩ ⟨si, st, sm, sx⟩ is false (.inr ⟨rfl, HNL.out⟩)
                simp only [Vt.cells, Sn.cells] at hl
                refine hl.mono ?_
                clear hl
                rintro e w8 ⟨rfl, s9⟩
                have S9 := Lib.hid s9
                clear s9 v0 v1 s0 s1 s2 s3
                obtain ⟨c0, c1, c2, c3, c4, c5, c6⟩ := bx_cells (S9.out.blk (x := (wr.heap.size, bX ⟨false, ⟨xa, xb⟩, ⟨yi, yt, ym, yx⟩⟩)) (by simp))
                obtain ⟨v0, v1⟩ := bv_cells (S9.out.blk (x := (gv, bV ⟨vt, vf⟩)) (by simp))
                obtain ⟨s0, s1, s2, s3⟩ := bs_cells (S9.out.blk (x := (gv + 1, bS ⟨si, st, sm, sx⟩)) (by simp))
                simp only at c0 c1 c2 c3 c4 c5 c6 v0 v1 s0 s1 s2 s3
                have f0 := frozen_of_block (S9.out.blk (x := (gv, bV ⟨vt, vf⟩)) (by simp)) 0
                have f1 := frozen_of_block (S9.out.blk (x := (gv, bV ⟨vt, vf⟩)) (by simp)) 1
                have ST := Lib.hid (Sep.setV ((S9.out.tail).sub (M := [(gv, bV ⟨vt, vf⟩), (gv + 1, bS ⟨si, st, sm, sx⟩)]) (by simp)) (by simp) ⟨xa, xb⟩)
                go_wp2_with fail
                have hl := sep_loads ST.out OK3.out ⟨xa, xb⟩ ⟨si, st, sm, sx⟩ is true (.inl ⟨rfl, FS3.out.loads CA2.out.up CA2.out.now⟩)
                simp only [Vt.cells, Sn.cells] at hl
                refine hl.mono ?_
                clear hl
                rintro e wz ⟨rfl, sz⟩
                have SZ := Lib.hid sz
                clear sz v0 v1 s0 s1 s2 s3 c0 c1 c2 c3 c4 c5 c6
                go_wp2_with fail
                go_roundw
                case rel => exact ⟨i + 1, _, _, _, _, by have := of_decide_eq_true hd1; omega, by have := of_decide_eq_true hd2; omega, by simp, rfl, SZ.out.swap, CA2.out, FS3.out, RM3.out, OK3.out.mono (by omega)⟩
                case measure => have := of_decide_eq_true hd1; simp [intOf]; omega
    · have hd : decide (i < n) = false ∨ (decide (i < n) = true ∧ decide ((i : Int) < 12) = false) := by
        by_cases h : i < n
        · exact .inr ⟨by simpa using h, decide_eq_false (by omega)⟩
        · exact .inl (by simpa using h)
      have HFW := Lib.hid (fail_wake CA.out k)
      have OKF := Lib.hid ((OK.out.fail k).wake)
      clear hin
      rcases hd with hd1 | ⟨hd1, hd2⟩
      all_goals
        go_wp2_with fail
        refine (SS.out.call fun G hG => own_fail hG OK.out (by omega) k hk).mono ?_
        rintro e w4 ⟨rfl, s5⟩
        have S5 := Lib.hid s5
        clear s5
        go_wp2_with fail
        refine (S5.out.call fun G hG => own_wake hG).mono ?_
        rintro e w5 ⟨rfl, s6⟩
        have S6 := Lib.hid s6
        clear s6
        obtain ⟨v0, v1⟩ := bv_cells (S6.out.blk (x := (gv, bV ⟨vt, vf⟩)) (by simp))
        obtain ⟨s0, s1, s2, s3⟩ := bs_cells (S6.out.blk (x := (gv + 1, bS ⟨si, st, sm, sx⟩)) (by simp))
        simp only at v0 v1 s0 s1 s2 s3
        go_wp2_with fail
        have hl := sep_loads S6.out OKF.out ⟨vt, vf⟩ ⟨si, st, sm, sx⟩ is true (.inl ⟨rfl, by
          have hf := FS.out
          rw [← HFW.out.2] at hf
          exact hf.loads HFW.out.1.up HFW.out.1.now⟩)
        simp only [Vt.cells, Sn.cells] at hl
        refine hl.mono ?_
        clear hl
        rintro e w6 ⟨rfl, s7⟩
        have S7 := Lib.hid s7
        clear s7 v0 v1 s0 s1 s2 s3
        go_wp2_with fail
        go_ret
        exact ⟨rfl, S7.out.kept⟩
end Go.Proofs.YtjobmlnekpaagaaDoor
