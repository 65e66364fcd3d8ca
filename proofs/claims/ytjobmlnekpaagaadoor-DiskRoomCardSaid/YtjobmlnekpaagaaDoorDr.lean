/- DiskRoom, walked. -/
import Derived.Test.YtjobmlnekpaagaaDoorFl
import Derived.Test.YtjobmlnekpaagaaDoorRm
namespace Go.Proofs.YtjobmlnekpaagaaDoor
open Go Go.RowKit Go.Maps
set_option linter.unusedVariables false

theorem own_usedR {F : Nat → Prop} {w w1 : World} {b N : Nat} {d : Dk} (h : OwnF F w w1 b d) (ok : d.Ok N) (hN : N ≤ 1099511627776) (hd : d.down = false) : Calls Tryd.prog 43 #[.pointer (some ⟨b, 0, none⟩)] w1 fun e w' => e = .returned (.int .i64 d.now.used) ∧ OwnF F w w' b d := by
  have h0 := h
  obtain ⟨s, m, v, h1, h2, h3⟩ := h
  exact (used_up h1 ok hN hd).mono fun e w' ⟨g1, g2⟩ => ⟨g1, h0.quiet g2⟩
/-- A block that holds acts. -/
def HoldsActs (o : Obj) (xs : List DAct) : Prop := ∃ cs t fz, o = .cells cs t fz ∧ ∀ i x, xs[i]? = some x → ∀ j u, x.cells[j]? = some u → cs[i * 5 + j]? = some u
theorem flat_atR {xs : List DAct} {i : Nat} {x : DAct} (hx : xs[i]? = some x) (j : Nat) (u : Value) (hj : x.cells[j]? = some u) : (flat xs)[i * 5 + j]? = some u := by
  induction xs generalizing i with
  | nil => simp at hx
  | cons y r ih =>
    have e : flat (y :: r) = y.cells ++ flat r := by unfold flat; rw [List.flatMap_cons]
    have hj5 : j < 5 := by
      have := (List.getElem?_eq_some_iff.1 hj).1
      simpa [cells_length] using this
    rw [e]
    cases i with
    | zero =>
      simp only [List.getElem?_cons_zero, Option.some.injEq] at hx
      subst hx
      rw [List.getElem?_append_left (by simp [cells_length]; omega)]
      simpa using hj
    | succ i =>
      simp only [List.getElem?_cons_succ] at hx
      rw [List.getElem?_append_right (by simp [cells_length]; omega), cells_length, show (i + 1) * 5 + j - 5 = i * 5 + j by omega]
      exact ih hx
theorem row_actsO {w : World} {base : Nat} {v : Value} {xs : List DAct} (h : w.ownsRow base 31 5 v xs.length (flat xs)) :
    (v = .slice none 0 0 ∧ xs = []) ∨ ∃ g cap o, v = .slice (some ⟨g, 0, none⟩) xs.length cap ∧ base ≤ g ∧ w.heap[g]? = some o ∧ HoldsActs o xs := by
  rcases h.2 with ⟨hv, hx⟩ | ⟨g, cap, cur, rfl, hg, hh, r⟩
  · exact .inl ⟨hv, List.length_eq_zero_iff.1 hx⟩
  · refine .inr ⟨g, cap, _, rfl, hg, hh, _, _, _, rfl, fun i x hx j u hj => ?_⟩
    have h1 := h.cells (g := g) rfl (i * 5 + j) u (flat_atR hx j u hj)
    have e1 : (⟨g, 0, none⟩ : Addr).add (i * 5 + j) = ⟨g, i * 5 + j, none⟩ := by unfold Addr.add; split <;> simp_all
    rw [e1, cell_of_block hh] at h1
    exact h1
theorem act_cells {W : World} {g i : Nat} {o : Obj} {xs : List DAct} {x : DAct} (hb : W.heap[g]? = some o) (ho : HoldsActs o xs) (hx : xs[i]? = some x) : W.cell? ⟨g, i * 5, none⟩ = some (.int .i64 x.kind) ∧ W.cell? ⟨g, i * 5 + 1, none⟩ = some (.string x.name) ∧ W.cell? ⟨g, i * 5 + 2, none⟩ = some (.int .i64 x.n) ∧ W.cell? ⟨g, i * 5 + 3, none⟩ = some (.int .i64 x.m) ∧ W.cell? ⟨g, i * 5 + 4, none⟩ = some (.string x.s) := by
  obtain ⟨cs, t, fz, rfl, hc⟩ := ho
  have h := hc i x hx
  refine ⟨?_, ?_, ?_, ?_, ?_⟩
  · rw [cell_of_block hb]; exact h 0 _ rfl
  · rw [cell_of_block hb]; exact h 1 _ rfl
  · rw [cell_of_block hb]; exact h 2 _ rfl
  · rw [cell_of_block hb]; exact h 3 _ rfl
  · rw [cell_of_block hb]; exact h 4 _ rfl
set_option maxRecDepth 100000 in
set_option maxHeartbeats 16000000 in
theorem diskRoom_any {w : World} {A : Option Addr} {n c : Nat} {xs : List DAct} (h : ReadsActs w A n xs) (nn : Int) (hn : I64 nn) : Calls Tryd.prog 11 #[.slice A n c, .int .i64 nn] w fun e w' => e = .returned (.bool true) ∧ Kept (fun _ => False) w w' := by
  have H := Lib.hid h
  have HN0 := Lib.hid hn
  clear h hn
  go_enter Tryd.func11, Tryd.ntmps11
  go_wp2_with fail
  refine (own_new (Kept.refl (fun _ => False) _)).mono ?_
  rintro e w1 ⟨b, rfl, h1⟩
  have S1 := Lib.hid (Sep.of h1)
  clear h1
  go_wp2_with fail
  refine (awake5 _).mono ?_
  rintro e w2 ⟨rfl, hk2⟩
  have S2 := Lib.hid (S1.out.quiet hk2)
  clear hk2 S1
  go_wp2_with fail
  -- TAIL
  refine (S2.out.call fun G hG => own_room hG _).mono ?_
  rintro e w3 ⟨rfl, s3⟩
  obtain ⟨X, hX⟩ : ∃ X, X = (wrap64 (nn.tmod 5000 + 5000)).tmod 5000 := ⟨_, rfl⟩
  rw [← hX] at s3 ⊢
  have hx0 : 0 ≤ X ∧ X ≤ 4999 := by
    have h1 := Int.tmod_lt_of_pos nn (show (0 : Int) < 5000 by decide)
    have h2 := Int.lt_tmod_of_pos nn (show (0 : Int) < 5000 by decide)
    have e : wrap64 (nn.tmod 5000 + 5000) = nn.tmod 5000 + 5000 := by unfold wrap64; omega
    rw [hX, e, Int.tmod_eq_emod_of_nonneg (by omega)]
    omega
  have S3 := Lib.hid s3
  have HX0 := Lib.hid hx0
  have hok := Dk.ok_new.setRoom (n := X) (by omega)
  have hro := room_new hx0.1
  clear s3 hX S2 HN0
  go_wp2_with fail
  refine (most_any (H.out.kept S3.out.kept)).mono ?_
  rintro e w4 ⟨v', rfl, hrow, hk4⟩
  have hsh := row_actsO hrow
  have hlen : (mostOf xs).length ≤ 60 := mostGo_length 0 xs
  have HM : Hid (∀ x ∈ mostOf xs, x.Wf) := fun x hx => H.out.2.2.1 x (mostGo_sub 0 xs x hx).1
  clear hrow H
  generalize mostOf xs = ms at *
  generalize Dk.new.setRoom X = d1 at *
  rcases hsh with ⟨rfl, rfl⟩ | ⟨g, cap, ob, rfl, hg, hb, ho⟩
  · have S4 := Lib.hid (S3.out.quiet hk4)
    clear hk4 hok hro hx0
    go_wp2_with fail
    refine wp_loop_rounds 1 ?_
    rw [rounds_succ]
    go_wp2_with fail
    go_ret
    exact ⟨rfl, S4.out.kept⟩
  · have S4 := Lib.hid (S3.out.add hk4 hg hb)
    have HO := Lib.hid ho
    have OK1 := Lib.hid hok
    have RO1 := Lib.hid hro
    clear hk4 hg hb ho hok hro S3 hx0
    go_wp2_with fail
    go_loopw [7, 8, 9, 10] (fun v7 v8 v9 v10 wr => ∃ (i : Nat) (dd : Dk), i ≤ ms.length ∧ v7 = .int .i64 i ∧ Sep w wr b dd [(g, ob)] ∧ RoomOk dd X ∧ dd.Ok i) (fun v7 _ _ _ _ => ms.length - (intOf v7).toNat)
    case atStart => exact ⟨0, d1, Nat.zero_le _, rfl, S4.out, RO1.out, OK1.out⟩
    case round =>
      obtain ⟨i, dd, hi, rfl, hS, hro, hok⟩ := hrel
      have SS := Lib.hid hS
      have RO := Lib.hid hro
      have OK := Lib.hid hok
      clear hS hro hok S4 OK1 RO1
      by_cases hlt : i < ms.length
      · have hd1 : decide (i < ms.length) = true := by simpa using hlt
        obtain ⟨x, hx⟩ : ∃ x, ms[i]? = some x := ⟨ms[i]'hlt, List.getElem?_eq_getElem _⟩
        have HXX := Lib.hid hx
        have HWX := Lib.hid (HM.out x (List.mem_of_getElem? hx))
        have hcx := act_cells (SS.out.blk (x := (g, ob)) (by simp)) HO.out hx
        obtain ⟨x0, x1, x2, x3, x4⟩ := hcx
        clear hx
        by_cases h8 : x.kind = 8
        · have e8 : (x.kind == 8) = true := by simpa using h8
          clear h8
          go_wp2_with fail
          go_roundw
          case rel => exact ⟨i + 1, dd, by omega, by go_num, SS.out, RO.out, OK.out.mono (by omega)⟩
          case measure => simp [intOf]; omega
        · have e8 : (x.kind == 8) = false := by simpa using h8
          have RO2 := Lib.hid (RO.out.does HX0.out.1 OK.out h8)
          have OK2 := Lib.hid (OK.out.does HWX.out)
          have H7 := Lib.hid (fun h => does_seven (d := dd) (x := x) h)
          clear h8
          go_wp2_with fail
          refine (sep_files SS.out OK.out (by omega)).mono ?_
          rintro e w5 ⟨Aw, cw, LL, rfl, s5, hrd⟩
          have S5 := Lib.hid s5
          have HRD := Lib.hid hrd
          clear s5 hrd x0 x1 x2 x3 x4
          go_wp2_with fail
          refine (S5.out.call fun G hG => own_down hG).mono ?_
          rintro e w6 ⟨rfl, s6⟩
          have S6 := Lib.hid s6
          clear s6
          obtain ⟨x0, x1, x2, x3, x4⟩ := act_cells (S6.out.blk (x := (g, ob)) (by simp)) HO.out HXX.out
          go_wp2_with fail
          have hdo := S6.out.call fun G hG => own_does hG OK.out (by omega) x HWX.out
          generalize hR : dd.does x = R at *
          obtain ⟨d7, e7⟩ := R
          have HR := Lib.hid hR
          clear hR
          simp only [DAct.cells] at hdo
          simp only at RO2 OK2 H7
          refine hdo.mono ?_
          clear hdo
          rintro e w7 ⟨rfl, s7⟩
          have S7 := Lib.hid s7
          clear s7 x0 x1 x2 x3 x4
          by_cases h7 : e7 = 7
          · subst h7
            obtain ⟨hk0, hsame⟩ := H7.out rfl
            have ek : (x.kind != 0) = false := by rw [hk0]; rfl
            obtain ⟨x0, x1, x2, x3, x4⟩ := act_cells (S7.out.blk (x := (g, ob)) (by simp)) HO.out HXX.out
            clear hk0
            subst hsame
            go_wp2_with fail
            refine (sep_files S7.out OK2.out (by omega)).mono ?_
            rintro e w8 ⟨Aw2, cw2, LL2, rfl, s8, hrd2⟩
            have hq1 := hrd2 _ _ s8
            have hq2 := HRD.out _ _ (s8.sub (M := LL ++ [(g, ob)]) (by intro z hz; exact List.mem_append_right _ hz))
            have S8 := Lib.hid s8
            clear s8 hrd2 x0 x1 x2 x3 x4
            go_wp2_with fail
            refine (same_any hq2 hq1 true (by simp)).mono ?_
            rintro e w9 ⟨rfl, hk9⟩
            have S11 := Lib.hid (S8.out.quiet hk9)
            clear hk9 hq1 hq2
            cases hdn : d7.down with
            | true =>
              clear hdn
              go_wp2_with fail
              go_roundw
              case rel => exact ⟨i + 1, _, by omega, by go_num, S11.out.sub (by simp), RO2.out, OK2.out⟩
              case measure => simp [intOf]; omega
            | false =>
              clear hdn
              go_wp2_with fail
              have hc := S11.out.call fun G hG => own_down hG
              cases hdn : d7.down with
              | true =>
                rw [hdn] at hc
                clear hdn
                refine hc.mono ?_
                clear hc
                rintro e w9 ⟨rfl, s9⟩
                have S9 := Lib.hid s9
                clear s9
                go_wp2_with fail
                go_roundw
                case rel => exact ⟨i + 1, _, by omega, by go_num, S9.out.sub (by simp), RO2.out, OK2.out⟩
                case measure => simp [intOf]; omega
              | false =>
                rw [hdn] at hc
                have HDN := Lib.hid hdn
                clear hdn
                refine hc.mono ?_
                clear hc
                rintro e w9 ⟨rfl, s9⟩
                have S9 := Lib.hid s9
                clear s9
                go_wp2_with fail
                refine (S9.out.call fun G hG => own_usedR hG OK2.out (by omega) HDN.out).mono ?_
                rintro e w10 ⟨rfl, s10⟩
                have S10 := Lib.hid s10
                clear s10
                have hu := RO2.out.now OK2.out
                have hg1 : decide (d7.now.used > X) = false := decide_eq_false (by omega)
                clear hu
                go_wp2_with fail
                go_roundw
                case rel => exact ⟨i + 1, _, by omega, by go_num, S10.out.sub (by simp), RO2.out, OK2.out⟩
                case measure => simp [intOf]; omega
          · have g7 : (e7 == 7) = false := beq_eq_false_iff_ne.2 h7
            clear h7
            cases hdn : dd.down with
            | true =>
              clear hdn
              go_wp2_with fail
              go_roundw
              case rel => exact ⟨i + 1, _, by omega, by go_num, S7.out.sub (by simp), RO2.out, OK2.out⟩
              case measure => simp [intOf]; omega
            | false =>
              clear hdn
              go_wp2_with fail
              have hc := S7.out.call fun G hG => own_down hG
              cases hdn : d7.down with
              | true =>
                rw [hdn] at hc
                clear hdn
                refine hc.mono ?_
                clear hc
                rintro e w9 ⟨rfl, s9⟩
                have S9 := Lib.hid s9
                clear s9
                go_wp2_with fail
                go_roundw
                case rel => exact ⟨i + 1, _, by omega, by go_num, S9.out.sub (by simp), RO2.out, OK2.out⟩
                case measure => simp [intOf]; omega
              | false =>
                rw [hdn] at hc
                have HDN := Lib.hid hdn
                clear hdn
                refine hc.mono ?_
                clear hc
                rintro e w9 ⟨rfl, s9⟩
                have S9 := Lib.hid s9
                clear s9
                go_wp2_with fail
                refine (S9.out.call fun G hG => own_usedR hG OK2.out (by omega) HDN.out).mono ?_
                rintro e w10 ⟨rfl, s10⟩
                have S10 := Lib.hid s10
                clear s10
                have hu := RO2.out.now OK2.out
                have hg1 : decide (d7.now.used > X) = false := decide_eq_false (by omega)
                clear hu
                go_wp2_with fail
                go_roundw
                case rel => exact ⟨i + 1, _, by omega, by go_num, S10.out.sub (by simp), RO2.out, OK2.out⟩
                case measure => simp [intOf]; omega
      · have hd1 : decide (i < ms.length) = false := by simpa using hlt
        go_wp2_with fail
        go_ret
        exact ⟨rfl, SS.out.kept⟩
end Go.Proofs.YtjobmlnekpaagaaDoor
