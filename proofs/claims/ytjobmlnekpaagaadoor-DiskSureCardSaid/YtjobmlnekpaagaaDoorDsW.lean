/- DiskSure, walked. -/
import Derived.Test.YtjobmlnekpaagaaDoorSure
namespace Go.Proofs.YtjobmlnekpaagaaDoor
open Go Go.RowKit Go.Maps
set_option linter.unusedVariables false

/-- The cells of a row of acts of the call's own. -/
theorem flat_at {xs : List DAct} {i : Nat} {x : DAct} (hx : xs[i]? = some x) (j : Nat) (u : Value) (hj : x.cells[j]? = some u) : (flat xs)[i * 5 + j]? = some u := by
  induction xs generalizing i with
  | nil => simp at hx
  | cons y r ih =>
    have e : flat (y :: r) = y.cells ++ flat r := by unfold flat; rw [List.flatMap_cons]
    have hj5 : j < 5 := by
      have := (List.getElem?_eq_some_iff.1 hj).1
      simpa [cells_length] using this
    rw [e]
    cases i with
    | zero =>
      simp only [List.getElem?_cons_zero, Option.some.injEq] at hx
      subst hx
      rw [List.getElem?_append_left (by simp [cells_length]; omega)]
      simpa using hj
    | succ i =>
      simp only [List.getElem?_cons_succ] at hx
      rw [List.getElem?_append_right (by simp [cells_length]; omega), cells_length, show (i + 1) * 5 + j - 5 = i * 5 + j by omega]
      exact ih hx
theorem row_acts {w : World} {base : Nat} {v : Value} {xs : List DAct} (h : w.ownsRow base 31 5 v xs.length (flat xs)) :
    (v = .slice none 0 0 ∧ xs = []) ∨ ∃ g cap, v = .slice (some ⟨g, 0, none⟩) xs.length cap ∧ base ≤ g ∧ g < w.heap.size ∧ ∀ i x, xs[i]? = some x → ∀ j u, x.cells[j]? = some u → w.cell? ⟨g, i * 5 + j, none⟩ = some u := by
  rcases h.2 with ⟨hv, hx⟩ | ⟨g, cap, cur, rfl, hg, hh, r⟩
  · exact .inl ⟨hv, List.length_eq_zero_iff.1 hx⟩
  · refine .inr ⟨g, cap, rfl, hg, (Array.getElem?_eq_some_iff.1 hh).1, fun i x hx j u hj => ?_⟩
    have h1 := h.cells (g := g) rfl (i * 5 + j) u (flat_at hx j u hj)
    have h2 : (⟨g, 0, none⟩ : Addr).add (i * 5 + j) = ⟨g, i * 5 + j, none⟩ := by unfold Addr.add; split <;> simp_all
    rw [← h2]
    exact h1
set_option maxRecDepth 100000 in
set_option maxHeartbeats 4000000 in
theorem diskSure_long {w : World} {A : Option Addr} {n c : Nat} {s : ByteArray} (hs : s.size ≤ 9223372036854775807) (h3 : 3000 < s.size) (k : Int) :
    Calls Tryd.prog 3 #[.string s, .slice A n c, .int .i64 k] w fun e w' => e = .returned (.bool true) ∧ Kept (fun _ => False) w w' := by
  go_enter Tryd.func3, Tryd.ntmps3
  go_wp2_with (first | (go_at_call 13; refine (own_new (Kept.refl (fun _ => False) w)).mono ?_; rintro e w1 ⟨b, rfl, h1⟩; have H1 := Lib.hid h1; clear h1))
  refine (awake5 w1).mono ?_
  rintro e w2 ⟨rfl, hk2⟩
  go_wp2_with fail
  refine (awake5 w2).mono ?_
  rintro e w3 ⟨rfl, hk3⟩
  go_wp2_with fail
  go_ret
  exact ⟨rfl, ((H1.out.quiet hk2).quiet hk3).kept⟩
set_option maxRecDepth 100000 in
set_option maxHeartbeats 4000000 in
theorem diskSure_short {w : World} {A : Option Addr} {n c : Nat} {xs : List DAct} (h : ReadsActs w A n xs) {s : ByteArray} (h3 : s.size ≤ 3000) (k : Int) (hk : I64 k) :
    Calls Tryd.prog 3 #[.string s, .slice A n c, .int .i64 k] w fun e w' => e = .returned (.bool true) ∧ Kept (fun _ => False) w w' := by
  have HS := Lib.hid (sure_put s h3)
  have H := Lib.hid h
  clear h
  go_enter Tryd.func3, Tryd.ntmps3
  go_wp2_with (first | (go_at_call 13; refine (own_new (Kept.refl (fun _ => False) w)).mono ?_; rintro e w1 ⟨b, rfl, h1⟩; have H1 := Lib.hid h1; clear h1))
  refine (awake5 w1).mono ?_
  rintro e w2 ⟨rfl, hk2⟩
  go_wp2_with fail
  have hc := own_put (H1.out.quiet hk2) Dk.ok_new (by decide) nSure 0 s (by decide) (by omega) ⟨by decide, by decide⟩
  rw [HS.out.1] at hc
  refine hc.mono ?_
  clear hc
  rintro e w3 ⟨rfl, h3'⟩
  have H3 := Lib.hid h3'
  clear h3'
  go_wp2_with fail
  have hc := own_sync H3.out (Dk.ok_new.put _ _ _) (by decide)
  rw [HS.out.2.1] at hc
  refine hc.mono ?_
  clear hc
  rintro e w4 ⟨rfl, h4⟩
  have H4 := Lib.hid h4
  clear h4
  go_wp2_with fail
  refine (most_any (H.out.kept H4.out.kept)).mono ?_
  rintro e w5 ⟨v', rfl, hrow, hk5⟩
  have hsh := row_acts hrow
  have H5 := Lib.hid (H4.out.quiet hk5)
  have hlen : (mostOf xs).length ≤ 60 := mostGo_length 0 xs
  have HM : Hid (∀ x ∈ mostOf xs, x.Wf) := fun x hx => H.out.2.2.1 x (mostGo_sub 0 xs x hx).1
  have hsz := hk5.size
  clear hrow
  generalize mostOf xs = ms at hsh hlen HM
  have HOK := Lib.hid ((Dk.ok_new.put nSure 0 s).sync)
  have HKP := Lib.hid HS.out.2.2
  generalize (Dk.new.put nSure 0 s).1.sync.1 = d0 at *
  rcases hsh with ⟨rfl, rfl⟩ | ⟨g, cap, rfl, hgb, hg, hcells⟩
  · go_wp2_with fail
    refine wp_loop_rounds 1 ?_
    rw [rounds_succ]
    go_wp2_with fail
    refine (own_fail (H5.out) HOK.out (by omega) k hk).mono ?_
    rintro e w6 ⟨rfl, h6⟩
    have H6 := Lib.hid h6
    clear h6
    go_wp2_with fail
    refine (own_wake H6.out).mono ?_
    rintro e w7 ⟨rfl, h7⟩
    have H7 := Lib.hid h7
    clear h7
    go_wp2_with fail
    have hc := own_read H7.out nSure (by decide)
    rw [((HKP.out.fail k).wake).read rfl] at hc
    refine hc.mono ?_
    clear hc
    rintro e w8 ⟨rfl, h8⟩
    have H8 := Lib.hid h8
    clear h8
    go_wp2_with fail
    go_ret
    exact ⟨rfl, H8.out.kept⟩
  · obtain ⟨G, hG, hG1, hG2⟩ := H4.out.rebase_quiet hk5
    have HG := Lib.hid hG
    have HG1 := Lib.hid hG1
    have HC := Lib.hid hcells
    have hgG : ¬ G g := fun e => by have := hG2 g e; omega
    have HGG := Lib.hid hgG
    clear hG hG1 hG2 hcells hgG
    go_wp2_with fail
    go_loopw [9] (fun v9 wr => ∃ (i : Nat) (dd : Dk), i ≤ ms.length ∧ v9 = .int .i64 i ∧ OwnF G w5 wr b dd ∧ Keeps dd s ∧ dd.Ok (1 + i)) (fun v9 _ => ms.length - (intOf v9).toNat)
    case atStart => exact ⟨0, d0, Nat.zero_le _, rfl, HG.out, HKP.out, HOK.out⟩
    case round =>
      obtain ⟨i, dd, hi, rfl, hown, hkp, hok⟩ := hrel
      have HOW := Lib.hid hown
      have HKD := Lib.hid hkp
      have HKO := Lib.hid hok
      clear hown hkp hok
      by_cases hlt : i < ms.length
      · have hd1 : decide (i < ms.length) = true := by simpa using hlt
        obtain ⟨x, hx⟩ : ∃ x, ms[i]? = some x := ⟨ms[i]'hlt, List.getElem?_eq_getElem _⟩
        have hcx := fun j u h => (HOW.out.kept.cell (p := ⟨g, i * 5 + j, none⟩) hg HGG.out).trans (HC.out i x hx j u h)
        have x0 : wr.cell? ⟨g, i * 5, none⟩ = some (.int .i64 x.kind) := hcx 0 _ rfl
        have x1 := hcx 1 _ rfl
        have x2 := hcx 2 _ rfl
        have x3 := hcx 3 _ rfl
        have x4 := hcx 4 _ rfl
        have HW := Lib.hid (HM.out x (List.mem_of_getElem? hx))
        clear hcx hx
        by_cases hn : x.name = nSure
        · have hb : (x.name.toList == [115, 117, 114, 101]) = true := by rw [hn]; decide +kernel
          have hb2 : (x.name.toList != [115, 117, 114, 101]) = false := by rw [hn]; decide +kernel
          clear hn
          go_wp2_with fail
          go_roundw
          case rel => exact ⟨i + 1, dd, by omega, by go_num, HOW.out, HKD.out, HKO.out.mono (by omega)⟩
          case measure => simp [intOf]; omega
        · have hb : (x.name.toList == [115, 117, 114, 101]) = false := by
            rw [ByteArray.toList_eq]
            exact (Fm.beq_data x.name nSure).trans (decide_eq_false hn)
          have hb2 : (x.name.toList != [115, 117, 114, 101]) = true := by rw [bne, hb]; rfl
          by_cases hk2 : x.kind = 2
          · have e2 : (x.kind == 2) = true := by simpa using hk2
            by_cases hs2 : x.s = nSure
            · have hb3 : (x.s.toList == [115, 117, 114, 101]) = true := by rw [hs2]; decide +kernel
              clear hk2 hs2 hn
              go_wp2_with fail
              go_roundw
              case rel => exact ⟨i + 1, dd, by omega, by go_num, HOW.out, HKD.out, HKO.out.mono (by omega)⟩
              case measure => simp [intOf]; omega
            · have hb3 : (x.s.toList == [115, 117, 114, 101]) = false := by
                rw [ByteArray.toList_eq]
                exact (Fm.beq_data x.s nSure).trans (decide_eq_false hs2)
              have hm : ¬ (x.kind = 2 ∧ x.s = nSure) := fun e => hs2 e.2
              have HN := Lib.hid hn
              have HMM := Lib.hid hm
              clear hn hm hk2 hs2
              have hdo := own_does HOW.out HKO.out (by omega) x HW.out
              go_wp2_with (go_at_call 18; refine hdo.mono ?_; rintro e w6 ⟨rfl, h6⟩; have H6 := Lib.hid h6; clear h6)
              go_roundw
              case rel => exact ⟨i + 1, (dd.does x).1, by omega, by go_num, H6.out, HKD.out.does HN.out HMM.out, (HKO.out.does HW.out).mono (by omega)⟩
              case measure => simp [intOf]; omega
          · have e2 : (x.kind == 2) = false := by simpa using hk2
            have hm : ¬ (x.kind = 2 ∧ x.s = nSure) := fun e => hk2 e.1
            have HN := Lib.hid hn
            have HMM := Lib.hid hm
            clear hn hm hk2
            have hdo := own_does HOW.out HKO.out (by omega) x HW.out
            go_wp2_with (go_at_call 18; refine hdo.mono ?_; rintro e w6 ⟨rfl, h6⟩; have H6 := Lib.hid h6; clear h6)
            go_roundw
            case rel => exact ⟨i + 1, (dd.does x).1, by omega, by go_num, H6.out, HKD.out.does HN.out HMM.out, (HKO.out.does HW.out).mono (by omega)⟩
            case measure => simp [intOf]; omega
      · have hd1 : decide (i < ms.length) = false := by simpa using hlt
        go_wp2_with fail
        refine (own_fail ((OwnF.back (H4.out.kept.trans hk5) (fun k e => HG1.out k e) HOW.out)) HKO.out (by omega) k hk).mono ?_
        rintro e w6 ⟨rfl, h6⟩
        have H6 := Lib.hid h6
        clear h6
        go_wp2_with fail
        refine (own_wake H6.out).mono ?_
        rintro e w7 ⟨rfl, h7⟩
        have H7 := Lib.hid h7
        clear h7
        go_wp2_with fail
        have hc := own_read H7.out nSure (by decide)
        rw [((HKD.out.fail k).wake).read rfl] at hc
        refine hc.mono ?_
        clear hc
        rintro e w8 ⟨rfl, h8⟩
        have H8 := Lib.hid h8
        clear h8
        go_wp2_with fail
        go_ret
        exact ⟨rfl, H8.out.kept⟩
end Go.Proofs.YtjobmlnekpaagaaDoor
