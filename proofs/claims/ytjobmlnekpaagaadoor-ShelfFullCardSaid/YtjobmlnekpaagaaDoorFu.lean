/- ShelfFull, walked. -/
import Derived.Test.YtjobmlnekpaagaaDoorFa
namespace Go.Proofs.YtjobmlnekpaagaaDoor
open Go Go.RowKit Go.Maps
set_option linter.unusedVariables false

/-- A slice of whole numbers is read. -/
def ReadsInts (w : World) (A : Option Addr) (n : Nat) (xs : List Int) : Prop :=
  xs.length = n ∧ n ≤ 17592186044416 ∧ (∀ x ∈ xs, I64 x) ∧ (n = 0 ∨ ∃ g off, A = some ⟨g, off, none⟩ ∧ g < w.heap.size ∧ ∀ i x, xs[i]? = some x → ∀ j u, [Value.int .i64 x][j]? = some u → w.cell? ⟨g, off + i * 1 + j, none⟩ = some u)
theorem i64_wrap_le (n : Int) : IntKind.i64.wrap n ≤ 9223372036854775807 := by
  simp [IntKind.wrap, IntKind.bits, IntKind.signed]
  omega
theorem own_used {F : Nat → Prop} {w w1 : World} {b N : Nat} {d : Dk} (h : OwnF F w w1 b d) (ok : d.Ok N) (hN : N ≤ 1099511627776) (hd : d.down = false) : Calls Tryd.prog 43 #[.pointer (some ⟨b, 0, none⟩)] w1 fun e w' => e = .returned (.int .i64 d.now.used) ∧ OwnF F w w' b d := by
  have h0 := h
  obtain ⟨s, m, v, h1, h2, h3⟩ := h
  exact (used_up h1 ok hN hd).mono fun e w' ⟨g1, g2⟩ => ⟨g1, h0.quiet g2⟩
theorem calm_room {d : Dk} (h : Calm d) (n : Int) : Calm (d.setRoom n) := ⟨h.up, h.row, h.now⟩
theorem read_none {d : Dk} {f : ByteArray} (hd : d.down = false) (hn : Dk.name f = true) (h : d.now.find f = none) : d.read f = (.empty, 4) := by
  have hh : d.now.has f = false := by rw [Fm.has_find, h]; rfl
  have ht : d.there f = 4 := by rw [there_has hd hn, hh]; rfl
  unfold Dk.read
  rw [ht]
  rfl
/-- The answer of a saving, and the disk behind it. -/
theorem saveAct_full' {d : Dk} {x : Sv} {v : Vt} {s : Sn} {is : Bool} (h : Calm d) (hf : FilesSay d.sure v s is) (hn : NoNew d.sure) (h0 : d.after = 0) :
    ((d.saveAct x).2 = 0 ∧ Calm (d.saveAct x).1 ∧ FilesSay (d.saveAct x).1.sure (x.nv v) (x.ns s) (x.ni is) ∧ NoNew (d.saveAct x).1.sure ∧ (d.saveAct x).1.after = 0) ∨
    (((d.saveAct x).2 = 1 ∨ ((d.saveAct x).2 = 7 ∧ 0 ≤ d.room)) ∧ (d.saveAct x).1 = d) := by
  cases hm : x.may with
  | true =>
    rcases saveAct_full (x := x) h hf hn h0 hm with h1 | ⟨h1, h2, h3⟩
    · exact .inl h1
    · exact .inr ⟨.inr ⟨h1, h2⟩, h3⟩
  | false =>
    rw [saveAct_not hm]
    exact .inr ⟨.inl rfl, rfl⟩
theorem own_waits0 {F : Nat → Prop} {w w1 : World} {b : Nat} {d : Dk} (h : OwnF F w w1 b d) (hc : Calm d) : Calls Tryd.prog 44 #[.pointer (some ⟨b, 0, none⟩)] w1 fun e w' => e = .returned (.int .i64 0) ∧ OwnF F w w' b d := by
  have := own_waits h
  have e : d.waits = 0 := by unfold Dk.waits; rw [hc.up, hc.row]; rfl
  rwa [e] at this
theorem Sep.drew {w0 w : World} {b : Nat} {d : Dk} {L : List (Nat × Obj)} (h : Sep w0 w b d L) : Sep w0 w.drew b d L := h.quiet (Kept.refl _ _).drew
set_option maxRecDepth 100000 in
set_option maxHeartbeats 16000000 in
theorem shelfFull_any {w : World} {A B : Option Addr} {n c m cb : Nat} {xs : List Sv} {rs : List Int} (h : ReadsSvs w A n xs) (hB : ReadsInts w B m rs) : Calls Tryd.prog 9 #[.slice A n c, .slice B m cb] w fun e w' => e = .returned (.bool true) ∧ Kept (fun _ => False) w w' := by
  obtain ⟨hl, hn2, hwf, hcells⟩ := h
  obtain ⟨hlb, hmb, hwb, hcb⟩ := hB
  have HC := Lib.hid hcells
  have HWF := Lib.hid hwf
  have HL := Lib.hid hl
  have HCB := Lib.hid hcb
  have HWB := Lib.hid hwb
  have HLB := Lib.hid hlb
  clear hcells hwf hl hcb hwb hlb
  go_enter Tryd.func9, Tryd.ntmps9
  go_wp2_with fail
  refine (own_new (Kept.refl (fun _ => False) _)).mono ?_
  rintro e w1 ⟨b, rfl, h1⟩
  have S1 := Lib.hid (Sep.of h1)
  clear h1
  go_wp2_with fail
  have s2 := (S1.out.box (bV ⟨0, -1⟩)).box (bS ⟨0, 0, 0, ⟨#[]⟩⟩)
  rw [alloc_size] at s2
  refine (awake7 _).mono ?_
  rintro e w2 ⟨rfl, hk2⟩
  have s3 := s2.quiet hk2
  clear s2 hk2 S1
  obtain ⟨gv, hgv⟩ : ∃ g, g = w1.heap.size := ⟨_, rfl⟩
  rw [← hgv] at s3 ⊢
  have S4 := Lib.hid s3
  clear s3 hgv
  go_wp2_with fail
  go_loopw [8, 9, 10, 11, 12, 13, 14, 15] (fun v8 v9 v10 v11 v12 v13 v14 v15 wr => ∃ (i : Nat) (dd : Dk) (v : Vt) (s : Sn) (is : Bool), i ≤ n ∧ i ≤ 12 ∧ v9 = .int .i64 i ∧ v8 = .bool is ∧ Sep w wr b dd [(gv + 1, bS s), (gv, bV v)] ∧ Calm dd ∧ FilesSay dd.sure v s is ∧ NoNew dd.sure ∧ dd.after = 0 ∧ dd.Ok (3 * i)) (fun _ v9 _ _ _ _ _ _ _ => n - (intOf v9).toNat)
  case atStart => exact ⟨0, Dk.new, _, _, _, Nat.zero_le _, Nat.zero_le _, rfl, rfl, S4.out, ⟨rfl, rfl, rfl⟩, FilesSay.new, ⟨rfl, rfl⟩, rfl, Dk.ok_new⟩
  case round =>
    obtain ⟨i, dd, ⟨vt, vf⟩, ⟨si, st, sm, sx⟩, is, hi, hi12, rfl, rfl, hS, hcalm, hfs, hnn, haf, hok⟩ := hrel
    have SS := Lib.hid hS
    have CA := Lib.hid hcalm
    have FS := Lib.hid hfs
    have NN := Lib.hid hnn
    have AF := Lib.hid haf
    have OK := Lib.hid hok
    clear hS hcalm hfs hnn haf hok S4
    by_cases hin : i < n ∧ i < 12
    · obtain ⟨hlt, h12⟩ := hin
      have hd1 : decide (i < n) = true := by simpa using hlt
      have hd2 : decide ((i : Int) < 12) = true := decide_eq_true (by omega)
      obtain ⟨⟨sn, ⟨xa, xb⟩, ⟨yi, yt, ym, yx⟩⟩, hx⟩ : ∃ x, xs[i]? = some x := ⟨xs[i]'(by rw [HL.out]; exact hlt), List.getElem?_eq_getElem _⟩
      have hz : yx.size ≤ 9223372036854775807 := HWF.out _ (List.mem_of_getElem? hx)
      rcases HC.out with h0 | ⟨g, off, rfl, hg, hc⟩
      · omega
      obtain ⟨x0, x1, x2, x3, x4, x5, x6⟩ := svs_at hg hc SS.out.kept hx
      simp only at x0 x1 x2 x3 x4 x5 x6
      clear hc hx HC
      by_cases h3 : 3000 < yx.size
      · have hd3 : decide ((yx.size : Int) > 3000) = true := decide_eq_true (by omega)
        clear h12 h3
        go_wp2_with fail
        go_roundw
        case rel => exact ⟨i + 1, dd, _, _, _, by have := of_decide_eq_true hd1; omega, by have := of_decide_eq_true hd2; omega, by simp, rfl, (SS.out.box (bX ⟨sn, ⟨xa, xb⟩, ⟨yi, yt, ym, yx⟩⟩)).tail, CA.out, FS.out, NN.out, AF.out, OK.out.mono (by omega)⟩
        case measure => have := of_decide_eq_true hd1; simp [intOf]; omega
      · have hd3 : decide ((yx.size : Int) > 3000) = false := decide_eq_false (by omega)
        have SX := Lib.hid (SS.out.box (bX ⟨sn, ⟨xa, xb⟩, ⟨yi, yt, ym, yx⟩⟩))
        clear h3 h12
        go_wp2_with fail
        refine (SX.out.call fun G hG => own_room hG (-1)).mono ?_
        rintro e w4 ⟨rfl, s5⟩
        have S5 := Lib.hid s5
        clear s5 x0 x1 x2 x3 x4 x5 x6
        have OK5 := Lib.hid (OK.out.setRoom (n := -1) (by decide))
        by_cases him : i < m
        · have hd4 : decide (i < m) = true := by simpa using him
          obtain ⟨r, hr⟩ : ∃ x, rs[i]? = some x := ⟨rs[i]'(by rw [HLB.out]; exact him), List.getElem?_eq_getElem _⟩
          rcases HCB.out with h0 | ⟨gb, ob, rfl, hgb, hcb⟩
          · omega
          have hr0 : w.cell? ⟨gb, ob + i, none⟩ = some (.int .i64 r) := by
            have := hcb i r hr 0 _ rfl
            rw [Nat.mul_one, Nat.add_zero] at this
            exact this
          have HRC := Lib.hid (fun (w' : World) (z : Dk) (L : List (Nat × Obj)) (h : Sep w w' b z L) => (h.kept.cell (p := ⟨gb, ob + i, none⟩) hgb (fun f => f)).trans hr0)
          have r0 := HRC.out _ _ _ S5.out
          clear hcb hr0 hr
          obtain ⟨L, hL⟩ : ∃ L, L = [(wr.heap.size, bX ⟨sn, ⟨xa, xb⟩, ⟨yi, yt, ym, yx⟩⟩), (gv + 1, bS ⟨si, st, sm, sx⟩), (gv, bV ⟨vt, vf⟩)] := ⟨_, rfl⟩
          rw [← hL] at S5
          have HLL := Lib.hid hL
          clear hL
          have CA5 := Lib.hid (calm_room CA.out (-1))
          have FS5 : Hid (FilesSay (dd.setRoom (-1)).sure ⟨vt, vf⟩ ⟨si, st, sm, sx⟩ is) := FS.out
          have NN5 : Hid (NoNew (dd.setRoom (-1)).sure) := NN.out
          have AF5 : Hid ((dd.setRoom (-1)).after = 0) := AF.out
          generalize dd.setRoom (-1) = d5 at *
          have HUS := Lib.hid (fun w' (h : Sep w w' b d5 L) => h.call fun G hG => own_used hG OK5.out (by omega) CA5.out.up)
          have HS : Hid (∀ w', Sep w w' b d5 L → w'.cell? ⟨gb, ob + i, none⟩ = some (.int .i64 r) ∧ (Sep w w' b d5 L ∨ ∃ X, Sep w w' b (d5.setRoom X) L)) := fun w' h => ⟨HRC.out _ _ _ h, .inl h⟩
          have HS2 : Hid (∀ w' X, Sep w w' b (d5.setRoom X) L → w'.cell? ⟨gb, ob + i, none⟩ = some (.int .i64 r) ∧ (Sep w w' b d5 L ∨ ∃ X, Sep w w' b (d5.setRoom X) L)) := fun w' X h => ⟨HRC.out _ _ _ h, .inr ⟨X, h⟩⟩
          go_wp2_with fail
          have s5 := S5.out
          go_region_held3 (fun w' => w'.cell? ⟨gb, ob + i, none⟩ = some (.int .i64 r) ∧ (Sep w w' b d5 L ∨ ∃ X, Sep w w' b (d5.setRoom X) L))
            (first | exact HS.out _ s5.drew | exact HS.out _ s6 | exact HS2.out _ _ s7)
            (first | (go_at_call 43; refine (HUS.out _ s5.drew).mono ?_; rintro e w6 ⟨rfl, s6⟩) | (go_at_call 42; refine (s6.call fun G hG => own_room hG _).mono ?_; rintro e w7 ⟨rfl, s7⟩))
          -- TAIL
          have CA6 := Lib.hid (calm_room CA5.out (IntKind.i64.wrap (d5.now.used + (IntKind.i64.wrap (r.tmod 3100 + 3100)).tmod 3100)))
          have OK6 := Lib.hid (OK5.out.setRoom (n := IntKind.i64.wrap (d5.now.used + (IntKind.i64.wrap (r.tmod 3100 + 3100)).tmod 3100)) (i64_wrap_le _))
          have FS6 : Hid (FilesSay (d5.setRoom (IntKind.i64.wrap (d5.now.used + (IntKind.i64.wrap (r.tmod 3100 + 3100)).tmod 3100))).sure ⟨vt, vf⟩ ⟨si, st, sm, sx⟩ is) := FS5.out
          have NN6 : Hid (NoNew (d5.setRoom (IntKind.i64.wrap (d5.now.used + (IntKind.i64.wrap (r.tmod 3100 + 3100)).tmod 3100))).sure) := NN5.out
          have AF6 : Hid ((d5.setRoom (IntKind.i64.wrap (d5.now.used + (IntKind.i64.wrap (r.tmod 3100 + 3100)).tmod 3100))).after = 0) := AF5.out
          generalize d5.setRoom (IntKind.i64.wrap (d5.now.used + (IntKind.i64.wrap (r.tmod 3100 + 3100)).tmod 3100)) = d6 at *
          rw [HLL.out] at s7
          clear s6 s5 S5 HUS HS HS2 HLL r0 HRC CA5 OK5 FS5 NN5 AF5 hd4
          have hq1 : decide (m ≤ i) = false := decide_eq_false (by omega)
          have hq2 : decide ((i : Int) ≥ (m : Int)) = false := decide_eq_false (by omega)
          clear him
          have S7 := Lib.hid s7
          clear s7
          have hlt7 : gv + 1 < wr.heap.size := (Array.getElem?_eq_some_iff.1 (SS.out.blk (x := (gv + 1, bS ⟨si, st, sm, sx⟩)) (by simp))).1
          have n1 : (wr.heap.size = gv + 1) = False := eq_false (by omega)
          have n2 : (gv + 1 = wr.heap.size) = False := eq_false (by omega)
          have n3 : (wr.heap.size = gv) = False := eq_false (by omega)
          have n4 : (gv = wr.heap.size) = False := eq_false (by omega)
          clear hlt7
          have SV := Lib.hid (S7.out.call fun G hG => own_saveAct hG OK6.out (by omega) ⟨sn, ⟨xa, xb⟩, ⟨yi, yt, ym, yx⟩⟩)
          have OK7 := Lib.hid (OK6.out.saveAct ⟨sn, ⟨xa, xb⟩, ⟨yi, yt, ym, yx⟩⟩)
          have hfa := saveAct_full' (x := ⟨sn, ⟨xa, xb⟩, ⟨yi, yt, ym, yx⟩⟩) CA6.out FS6.out NN6.out AF6.out
          simp only [Sv.cells] at SV
          obtain ⟨c0, c1, c2, c3, c4, c5, c6⟩ := bx_cells (S7.out.blk (x := (wr.heap.size, bX ⟨sn, ⟨xa, xb⟩, ⟨yi, yt, ym, yx⟩⟩)) (by simp))
          simp only at c0 c1 c2 c3 c4 c5 c6
          go_wp2_with fail
          generalize Dk.saveAct d6 ⟨sn, ⟨xa, xb⟩, ⟨yi, yt, ym, yx⟩⟩ = R at *
          obtain ⟨d7, e7⟩ := R
          simp only at hfa OK7
          refine SV.out.mono ?_
          rintro e w8 ⟨rfl, s8⟩
          have S8 := Lib.hid s8
          clear s8 c0 c1 c2 c3 c4 c5 c6 SV
          rcases hfa with ⟨rfl, hc7, hf7, hn7, ha7⟩ | ⟨hee, rfl⟩
          · have CA7 := Lib.hid hc7
            have FS7 := Lib.hid hf7
            have NN7 := Lib.hid hn7
            have AF7 := Lib.hid ha7
            clear hc7 hf7 hn7 ha7
            cases sn with
            | true =>
              simp only [Sv.nv, Sv.ns, Sv.ni, if_true] at FS7
              go_wp2_with fail
              refine (S8.out.call fun G hG => own_waits0 hG CA7.out).mono ?_
              rintro e wa ⟨rfl, sa⟩
              have SA := Lib.hid sa
              clear sa
              obtain ⟨c0, c1, c2, c3, c4, c5, c6⟩ := bx_cells (SA.out.blk (x := (wr.heap.size, bX ⟨true, ⟨xa, xb⟩, ⟨yi, yt, ym, yx⟩⟩)) (by simp))
              simp only at c0 c1 c2 c3 c4 c5 c6
              obtain ⟨s0, s1, s2, s3⟩ := bs_cells (SA.out.blk (x := (gv + 1, bS ⟨si, st, sm, sx⟩)) (by simp))
              simp only at s0 s1 s2 s3
              have f0 := frozen_of_block (SA.out.blk (x := (gv + 1, bS ⟨si, st, sm, sx⟩)) (by simp)) 0
              have f1 := frozen_of_block (SA.out.blk (x := (gv + 1, bS ⟨si, st, sm, sx⟩)) (by simp)) 1
              have f2 := frozen_of_block (SA.out.blk (x := (gv + 1, bS ⟨si, st, sm, sx⟩)) (by simp)) 2
              have f3 := frozen_of_block (SA.out.blk (x := (gv + 1, bS ⟨si, st, sm, sx⟩)) (by simp)) 3
              have ST := Lib.hid (Sep.setS ((SA.out.tail).sub (M := [(gv + 1, bS ⟨si, st, sm, sx⟩), (gv, bV ⟨vt, vf⟩)]) (by simp)) (by simp) ⟨yi, yt, ym, yx⟩)
              go_wp2_with fail
              have hrd := ST.out.call fun G hG => own_read hG nVoteNew (by decide)
              rw [read_none CA7.out.up name_vote_new (by rw [CA7.out.now]; exact NN7.out.1)] at hrd
              refine hrd.mono ?_
              clear hrd
              rintro e wb ⟨rfl, sb⟩
              have SB := Lib.hid sb
              clear sb
              go_wp2_with fail
              have hrd := SB.out.call fun G hG => own_read hG nSnapNew (by decide)
              rw [read_none CA7.out.up name_snap_new (by rw [CA7.out.now]; exact NN7.out.2)] at hrd
              refine hrd.mono ?_
              clear hrd
              rintro e wc ⟨rfl, sc⟩
              have SC := Lib.hid sc
              clear sc s0 s1 s2 s3 f0 f1 f2 f3 c0 c1 c2 c3 c4 c5 c6 SA ST SB
              obtain ⟨v0, v1⟩ := bv_cells (SC.out.blk (x := (gv, bV ⟨vt, vf⟩)) (by simp))
              obtain ⟨s0, s1, s2, s3⟩ := bs_cells (SC.out.blk (x := (gv + 1, bS ⟨yi, yt, ym, yx⟩)) (by simp))
              simp only at v0 v1 s0 s1 s2 s3
              go_wp2_with fail
              have hl := sep_loads SC.out OK7.out ⟨vt, vf⟩ ⟨yi, yt, ym, yx⟩ true true (.inl ⟨rfl, FS7.out.loads CA7.out.up CA7.out.now⟩)
              simp only [Vt.cells, Sn.cells] at hl
              refine hl.mono ?_
              clear hl
              rintro e wz ⟨rfl, sz⟩
              have SZ := Lib.hid sz
              clear sz v0 v1 s0 s1 s2 s3
              go_wp2_with fail
              go_roundw
              case rel => exact ⟨i + 1, _, _, _, _, by have := of_decide_eq_true hd1; omega, by have := of_decide_eq_true hd2; omega, by simp, rfl, SZ.out, CA7.out, FS7.out, NN7.out, AF7.out, OK7.out.mono (by omega)⟩
              case measure => have := of_decide_eq_true hd1; simp [intOf]; omega
            | false =>
              simp only [Sv.nv, Sv.ns, Sv.ni, Bool.false_eq_true, if_false] at FS7
              go_wp2_with fail
              refine (S8.out.call fun G hG => own_waits0 hG CA7.out).mono ?_
              rintro e wa ⟨rfl, sa⟩
              have SA := Lib.hid sa
              clear sa
              obtain ⟨c0, c1, c2, c3, c4, c5, c6⟩ := bx_cells (SA.out.blk (x := (wr.heap.size, bX ⟨false, ⟨xa, xb⟩, ⟨yi, yt, ym, yx⟩⟩)) (by simp))
              simp only at c0 c1 c2 c3 c4 c5 c6
              obtain ⟨v0, v1⟩ := bv_cells (SA.out.blk (x := (gv, bV ⟨vt, vf⟩)) (by simp))
              simp only at v0 v1
              have f0 := frozen_of_block (SA.out.blk (x := (gv, bV ⟨vt, vf⟩)) (by simp)) 0
              have f1 := frozen_of_block (SA.out.blk (x := (gv, bV ⟨vt, vf⟩)) (by simp)) 1
              have ST := Lib.hid (Sep.setV ((SA.out.tail).sub (M := [(gv, bV ⟨vt, vf⟩), (gv + 1, bS ⟨si, st, sm, sx⟩)]) (by simp)) (by simp) ⟨xa, xb⟩)
              go_wp2_with fail
              have hrd := ST.out.call fun G hG => own_read hG nVoteNew (by decide)
              rw [read_none CA7.out.up name_vote_new (by rw [CA7.out.now]; exact NN7.out.1)] at hrd
              refine hrd.mono ?_
              clear hrd
              rintro e wb ⟨rfl, sb⟩
              have SB := Lib.hid sb
              clear sb
              go_wp2_with fail
              have hrd := SB.out.call fun G hG => own_read hG nSnapNew (by decide)
              rw [read_none CA7.out.up name_snap_new (by rw [CA7.out.now]; exact NN7.out.2)] at hrd
              refine hrd.mono ?_
              clear hrd
              rintro e wc ⟨rfl, sc⟩
              have SC := Lib.hid sc
              clear sc v0 v1 f0 f1 c0 c1 c2 c3 c4 c5 c6 SA ST SB
              obtain ⟨v0, v1⟩ := bv_cells (SC.out.blk (x := (gv, bV ⟨xa, xb⟩)) (by simp))
              obtain ⟨s0, s1, s2, s3⟩ := bs_cells (SC.out.blk (x := (gv + 1, bS ⟨si, st, sm, sx⟩)) (by simp))
              simp only at v0 v1 s0 s1 s2 s3
              go_wp2_with fail
              have hl := sep_loads SC.out OK7.out ⟨xa, xb⟩ ⟨si, st, sm, sx⟩ is true (.inl ⟨rfl, FS7.out.loads CA7.out.up CA7.out.now⟩)
              simp only [Vt.cells, Sn.cells] at hl
              refine hl.mono ?_
              clear hl
              rintro e wz ⟨rfl, sz⟩
              have SZ := Lib.hid sz
              clear sz v0 v1 s0 s1 s2 s3
              go_wp2_with fail
              go_roundw
              case rel => exact ⟨i + 1, _, _, _, _, by have := of_decide_eq_true hd1; omega, by have := of_decide_eq_true hd2; omega, by simp, rfl, SZ.out.swap, CA7.out, FS7.out, NN7.out, AF7.out, OK7.out.mono (by omega)⟩
              case measure => have := of_decide_eq_true hd1; simp [intOf]; omega
          · rcases hee with rfl | ⟨rfl, hroom⟩
            · go_wp2_with fail
              refine (S8.out.call fun G hG => own_waits0 hG CA6.out).mono ?_
              rintro e wa ⟨rfl, sa⟩
              have SA := Lib.hid sa
              clear sa
              go_wp2_with fail
              have hrd := SA.out.call fun G hG => own_read hG nVoteNew (by decide)
              rw [read_none CA6.out.up name_vote_new (by rw [CA6.out.now]; exact NN6.out.1)] at hrd
              refine hrd.mono ?_
              clear hrd
              rintro e wb ⟨rfl, sb⟩
              have SB := Lib.hid sb
              clear sb
              go_wp2_with fail
              have hrd := SB.out.call fun G hG => own_read hG nSnapNew (by decide)
              rw [read_none CA6.out.up name_snap_new (by rw [CA6.out.now]; exact NN6.out.2)] at hrd
              refine hrd.mono ?_
              clear hrd
              rintro e wc ⟨rfl, sc⟩
              have SC := Lib.hid sc
              clear sc SA SB
              obtain ⟨v0, v1⟩ := bv_cells (SC.out.blk (x := (gv, bV ⟨vt, vf⟩)) (by simp))
              obtain ⟨s0, s1, s2, s3⟩ := bs_cells (SC.out.blk (x := (gv + 1, bS ⟨si, st, sm, sx⟩)) (by simp))
              simp only at v0 v1 s0 s1 s2 s3
              go_wp2_with fail
              have hl := sep_loads SC.out OK6.out ⟨vt, vf⟩ ⟨si, st, sm, sx⟩ is true (.inl ⟨rfl, FS6.out.loads CA6.out.up CA6.out.now⟩)
              simp only [Vt.cells, Sn.cells] at hl
              refine hl.mono ?_
              clear hl
              rintro e wz ⟨rfl, sz⟩
              have SZ := Lib.hid sz
              clear sz v0 v1 s0 s1 s2 s3
              go_wp2_with fail
              go_roundw
              case rel => exact ⟨i + 1, _, _, _, _, by have := of_decide_eq_true hd1; omega, by have := of_decide_eq_true hd2; omega, by simp, rfl, SZ.out.tail, CA6.out, FS6.out, NN6.out, AF6.out, OK6.out.mono (by omega)⟩
              case measure => have := of_decide_eq_true hd1; simp [intOf]; omega
            · skip
              go_wp2_with fail
              refine (S8.out.call fun G hG => own_waits0 hG CA6.out).mono ?_
              rintro e wa ⟨rfl, sa⟩
              have SA := Lib.hid sa
              clear sa
              go_wp2_with fail
              have hrd := SA.out.call fun G hG => own_read hG nVoteNew (by decide)
              rw [read_none CA6.out.up name_vote_new (by rw [CA6.out.now]; exact NN6.out.1)] at hrd
              refine hrd.mono ?_
              clear hrd
              rintro e wb ⟨rfl, sb⟩
              have SB := Lib.hid sb
              clear sb
              go_wp2_with fail
              have hrd := SB.out.call fun G hG => own_read hG nSnapNew (by decide)
              rw [read_none CA6.out.up name_snap_new (by rw [CA6.out.now]; exact NN6.out.2)] at hrd
              refine hrd.mono ?_
              clear hrd
              rintro e wc ⟨rfl, sc⟩
              have SC := Lib.hid sc
              clear sc SA SB
              obtain ⟨v0, v1⟩ := bv_cells (SC.out.blk (x := (gv, bV ⟨vt, vf⟩)) (by simp))
              obtain ⟨s0, s1, s2, s3⟩ := bs_cells (SC.out.blk (x := (gv + 1, bS ⟨si, st, sm, sx⟩)) (by simp))
              simp only at v0 v1 s0 s1 s2 s3
              go_wp2_with fail
              have hl := sep_loads SC.out OK6.out ⟨vt, vf⟩ ⟨si, st, sm, sx⟩ is true (.inl ⟨rfl, FS6.out.loads CA6.out.up CA6.out.now⟩)
              simp only [Vt.cells, Sn.cells] at hl
              refine hl.mono ?_
              clear hl
              rintro e wz ⟨rfl, sz⟩
              have SZ := Lib.hid sz
              clear sz v0 v1 s0 s1 s2 s3
              go_wp2_with fail
              go_roundw
              case rel => exact ⟨i + 1, _, _, _, _, by have := of_decide_eq_true hd1; omega, by have := of_decide_eq_true hd2; omega, by simp, rfl, SZ.out.tail, CA6.out, FS6.out, NN6.out, AF6.out, OK6.out.mono (by omega)⟩
              case measure => have := of_decide_eq_true hd1; simp [intOf]; omega
        · have hd4 : decide (i < m) = false := by simpa using him
          have CA6 := Lib.hid (calm_room CA.out (-1))
          have OK6 := Lib.hid OK5.out
          have RM6 : Hid ((dd.setRoom (-1)).room = -1) := rfl
          have FS6 : Hid (FilesSay (dd.setRoom (-1)).sure ⟨vt, vf⟩ ⟨si, st, sm, sx⟩ is) := FS.out
          have NN6 : Hid (NoNew (dd.setRoom (-1)).sure) := NN.out
          have AF6 : Hid ((dd.setRoom (-1)).after = 0) := AF.out
          have s7 := S5.out
          clear S5 OK5
          generalize dd.setRoom (-1) = d6 at *
          clear him
          have S7 := Lib.hid s7
          clear s7
          have hlt7 : gv + 1 < wr.heap.size := (Array.getElem?_eq_some_iff.1 (SS.out.blk (x := (gv + 1, bS ⟨si, st, sm, sx⟩)) (by simp))).1
          have n1 : (wr.heap.size = gv + 1) = False := eq_false (by omega)
          have n2 : (gv + 1 = wr.heap.size) = False := eq_false (by omega)
          have n3 : (wr.heap.size = gv) = False := eq_false (by omega)
          have n4 : (gv = wr.heap.size) = False := eq_false (by omega)
          clear hlt7
          have SV := Lib.hid (S7.out.call fun G hG => own_saveAct hG OK6.out (by omega) ⟨sn, ⟨xa, xb⟩, ⟨yi, yt, ym, yx⟩⟩)
          have OK7 := Lib.hid (OK6.out.saveAct ⟨sn, ⟨xa, xb⟩, ⟨yi, yt, ym, yx⟩⟩)
          have hfa := saveAct_full' (x := ⟨sn, ⟨xa, xb⟩, ⟨yi, yt, ym, yx⟩⟩) CA6.out FS6.out NN6.out AF6.out
          simp only [Sv.cells] at SV
          obtain ⟨c0, c1, c2, c3, c4, c5, c6⟩ := bx_cells (S7.out.blk (x := (wr.heap.size, bX ⟨sn, ⟨xa, xb⟩, ⟨yi, yt, ym, yx⟩⟩)) (by simp))
          simp only at c0 c1 c2 c3 c4 c5 c6
          go_wp2_with fail
          generalize Dk.saveAct d6 ⟨sn, ⟨xa, xb⟩, ⟨yi, yt, ym, yx⟩⟩ = R at *
          obtain ⟨d7, e7⟩ := R
          simp only at hfa OK7
          refine SV.out.mono ?_
          rintro e w8 ⟨rfl, s8⟩
          have S8 := Lib.hid s8
          clear s8 c0 c1 c2 c3 c4 c5 c6 SV
          rcases hfa with ⟨rfl, hc7, hf7, hn7, ha7⟩ | ⟨hee, rfl⟩
          · have CA7 := Lib.hid hc7
            have FS7 := Lib.hid hf7
            have NN7 := Lib.hid hn7
            have AF7 := Lib.hid ha7
            clear hc7 hf7 hn7 ha7
            cases sn with
            | true =>
              simp only [Sv.nv, Sv.ns, Sv.ni, if_true] at FS7
              go_wp2_with fail
              refine (S8.out.call fun G hG => own_waits0 hG CA7.out).mono ?_
              rintro e wa ⟨rfl, sa⟩
              have SA := Lib.hid sa
              clear sa
              obtain ⟨c0, c1, c2, c3, c4, c5, c6⟩ := bx_cells (SA.out.blk (x := (wr.heap.size, bX ⟨true, ⟨xa, xb⟩, ⟨yi, yt, ym, yx⟩⟩)) (by simp))
              simp only at c0 c1 c2 c3 c4 c5 c6
              obtain ⟨s0, s1, s2, s3⟩ := bs_cells (SA.out.blk (x := (gv + 1, bS ⟨si, st, sm, sx⟩)) (by simp))
              simp only at s0 s1 s2 s3
              have f0 := frozen_of_block (SA.out.blk (x := (gv + 1, bS ⟨si, st, sm, sx⟩)) (by simp)) 0
              have f1 := frozen_of_block (SA.out.blk (x := (gv + 1, bS ⟨si, st, sm, sx⟩)) (by simp)) 1
              have f2 := frozen_of_block (SA.out.blk (x := (gv + 1, bS ⟨si, st, sm, sx⟩)) (by simp)) 2
              have f3 := frozen_of_block (SA.out.blk (x := (gv + 1, bS ⟨si, st, sm, sx⟩)) (by simp)) 3
              have ST := Lib.hid (Sep.setS ((SA.out.tail).sub (M := [(gv + 1, bS ⟨si, st, sm, sx⟩), (gv, bV ⟨vt, vf⟩)]) (by simp)) (by simp) ⟨yi, yt, ym, yx⟩)
              go_wp2_with fail
              have hrd := ST.out.call fun G hG => own_read hG nVoteNew (by decide)
              rw [read_none CA7.out.up name_vote_new (by rw [CA7.out.now]; exact NN7.out.1)] at hrd
              refine hrd.mono ?_
              clear hrd
              rintro e wb ⟨rfl, sb⟩
              have SB := Lib.hid sb
              clear sb
              go_wp2_with fail
              have hrd := SB.out.call fun G hG => own_read hG nSnapNew (by decide)
              rw [read_none CA7.out.up name_snap_new (by rw [CA7.out.now]; exact NN7.out.2)] at hrd
              refine hrd.mono ?_
              clear hrd
              rintro e wc ⟨rfl, sc⟩
              have SC := Lib.hid sc
              clear sc s0 s1 s2 s3 f0 f1 f2 f3 c0 c1 c2 c3 c4 c5 c6 SA ST SB
              obtain ⟨v0, v1⟩ := bv_cells (SC.out.blk (x := (gv, bV ⟨vt, vf⟩)) (by simp))
              obtain ⟨s0, s1, s2, s3⟩ := bs_cells (SC.out.blk (x := (gv + 1, bS ⟨yi, yt, ym, yx⟩)) (by simp))
              simp only at v0 v1 s0 s1 s2 s3
              go_wp2_with fail
              have hl := sep_loads SC.out OK7.out ⟨vt, vf⟩ ⟨yi, yt, ym, yx⟩ true true (.inl ⟨rfl, FS7.out.loads CA7.out.up CA7.out.now⟩)
              simp only [Vt.cells, Sn.cells] at hl
              refine hl.mono ?_
              clear hl
              rintro e wz ⟨rfl, sz⟩
              have SZ := Lib.hid sz
              clear sz v0 v1 s0 s1 s2 s3
              go_wp2_with fail
              go_roundw
              case rel => exact ⟨i + 1, _, _, _, _, by have := of_decide_eq_true hd1; omega, by have := of_decide_eq_true hd2; omega, by simp, rfl, SZ.out, CA7.out, FS7.out, NN7.out, AF7.out, OK7.out.mono (by omega)⟩
              case measure => have := of_decide_eq_true hd1; simp [intOf]; omega
            | false =>
              simp only [Sv.nv, Sv.ns, Sv.ni, Bool.false_eq_true, if_false] at FS7
              go_wp2_with fail
              refine (S8.out.call fun G hG => own_waits0 hG CA7.out).mono ?_
              rintro e wa ⟨rfl, sa⟩
              have SA := Lib.hid sa
              clear sa
              obtain ⟨c0, c1, c2, c3, c4, c5, c6⟩ := bx_cells (SA.out.blk (x := (wr.heap.size, bX ⟨false, ⟨xa, xb⟩, ⟨yi, yt, ym, yx⟩⟩)) (by simp))
              simp only at c0 c1 c2 c3 c4 c5 c6
              obtain ⟨v0, v1⟩ := bv_cells (SA.out.blk (x := (gv, bV ⟨vt, vf⟩)) (by simp))
              simp only at v0 v1
              have f0 := frozen_of_block (SA.out.blk (x := (gv, bV ⟨vt, vf⟩)) (by simp)) 0
              have f1 := frozen_of_block (SA.out.blk (x := (gv, bV ⟨vt, vf⟩)) (by simp)) 1
              have ST := Lib.hid (Sep.setV ((SA.out.tail).sub (M := [(gv, bV ⟨vt, vf⟩), (gv + 1, bS ⟨si, st, sm, sx⟩)]) (by simp)) (by simp) ⟨xa, xb⟩)
              go_wp2_with fail
              have hrd := ST.out.call fun G hG => own_read hG nVoteNew (by decide)
              rw [read_none CA7.out.up name_vote_new (by rw [CA7.out.now]; exact NN7.out.1)] at hrd
              refine hrd.mono ?_
              clear hrd
              rintro e wb ⟨rfl, sb⟩
              have SB := Lib.hid sb
              clear sb
              go_wp2_with fail
              have hrd := SB.out.call fun G hG => own_read hG nSnapNew (by decide)
              rw [read_none CA7.out.up name_snap_new (by rw [CA7.out.now]; exact NN7.out.2)] at hrd
              refine hrd.mono ?_
              clear hrd
              rintro e wc ⟨rfl, sc⟩
              have SC := Lib.hid sc
              clear sc v0 v1 f0 f1 c0 c1 c2 c3 c4 c5 c6 SA ST SB
              obtain ⟨v0, v1⟩ := bv_cells (SC.out.blk (x := (gv, bV ⟨xa, xb⟩)) (by simp))
              obtain ⟨s0, s1, s2, s3⟩ := bs_cells (SC.out.blk (x := (gv + 1, bS ⟨si, st, sm, sx⟩)) (by simp))
              simp only at v0 v1 s0 s1 s2 s3
              go_wp2_with fail
              have hl := sep_loads SC.out OK7.out ⟨xa, xb⟩ ⟨si, st, sm, sx⟩ is true (.inl ⟨rfl, FS7.out.loads CA7.out.up CA7.out.now⟩)
              simp only [Vt.cells, Sn.cells] at hl
              refine hl.mono ?_
              clear hl
              rintro e wz ⟨rfl, sz⟩
              have SZ := Lib.hid sz
              clear sz v0 v1 s0 s1 s2 s3
              go_wp2_with fail
              go_roundw
              case rel => exact ⟨i + 1, _, _, _, _, by have := of_decide_eq_true hd1; omega, by have := of_decide_eq_true hd2; omega, by simp, rfl, SZ.out.swap, CA7.out, FS7.out, NN7.out, AF7.out, OK7.out.mono (by omega)⟩
              case measure => have := of_decide_eq_true hd1; simp [intOf]; omega
          · rcases hee with rfl | ⟨rfl, hroom⟩
            · go_wp2_with fail
              refine (S8.out.call fun G hG => own_waits0 hG CA6.out).mono ?_
              rintro e wa ⟨rfl, sa⟩
              have SA := Lib.hid sa
              clear sa
              go_wp2_with fail
              have hrd := SA.out.call fun G hG => own_read hG nVoteNew (by decide)
              rw [read_none CA6.out.up name_vote_new (by rw [CA6.out.now]; exact NN6.out.1)] at hrd
              refine hrd.mono ?_
              clear hrd
              rintro e wb ⟨rfl, sb⟩
              have SB := Lib.hid sb
              clear sb
              go_wp2_with fail
              have hrd := SB.out.call fun G hG => own_read hG nSnapNew (by decide)
              rw [read_none CA6.out.up name_snap_new (by rw [CA6.out.now]; exact NN6.out.2)] at hrd
              refine hrd.mono ?_
              clear hrd
              rintro e wc ⟨rfl, sc⟩
              have SC := Lib.hid sc
              clear sc SA SB
              obtain ⟨v0, v1⟩ := bv_cells (SC.out.blk (x := (gv, bV ⟨vt, vf⟩)) (by simp))
              obtain ⟨s0, s1, s2, s3⟩ := bs_cells (SC.out.blk (x := (gv + 1, bS ⟨si, st, sm, sx⟩)) (by simp))
              simp only at v0 v1 s0 s1 s2 s3
              go_wp2_with fail
              have hl := sep_loads SC.out OK6.out ⟨vt, vf⟩ ⟨si, st, sm, sx⟩ is true (.inl ⟨rfl, FS6.out.loads CA6.out.up CA6.out.now⟩)
              simp only [Vt.cells, Sn.cells] at hl
              refine hl.mono ?_
              clear hl
              rintro e wz ⟨rfl, sz⟩
              have SZ := Lib.hid sz
              clear sz v0 v1 s0 s1 s2 s3
              go_wp2_with fail
              go_roundw
              case rel => exact ⟨i + 1, _, _, _, _, by have := of_decide_eq_true hd1; omega, by have := of_decide_eq_true hd2; omega, by simp, rfl, SZ.out.tail, CA6.out, FS6.out, NN6.out, AF6.out, OK6.out.mono (by omega)⟩
              case measure => have := of_decide_eq_true hd1; simp [intOf]; omega
            · exact absurd hroom (by rw [RM6.out]; decide)
    · have hd : decide (i < n) = false ∨ (decide (i < n) = true ∧ decide ((i : Int) < 12) = false) := by
        by_cases h : i < n
        · exact .inr ⟨by simpa using h, decide_eq_false (by omega)⟩
        · exact .inl (by simpa using h)
      clear hin
      rcases hd with hd1 | ⟨hd1, hd2⟩
      all_goals
        go_wp2_with fail
        go_ret
        exact ⟨rfl, SS.out.kept⟩
end Go.Proofs.YtjobmlnekpaagaaDoor
