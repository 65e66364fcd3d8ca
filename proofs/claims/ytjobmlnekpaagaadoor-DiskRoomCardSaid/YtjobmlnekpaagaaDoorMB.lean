/- Merged texts: the calls of a disk, walked. -/
import Derived.Test.YtjobmlnekpaagaaDoorMA
import Derived.Maps.RangeWalk
import Derived.Test.YtjobmlnekpaagaaDoorLay
import Derived.Handy
import Derived.Maps.AppendAt
import Derived.Deep.RegionHeld3
import Derived.Deep.QuietTactic
import Derived.BigQuiet
import Derived.IntWalk
/-! ### Used: the sum over a map. -/
namespace Go.Proofs.YtjobmlnekpaagaaDoor
open Go Go.RowKit Go.Maps

theorem isKey_str {key : Value} {kl : Lit} (h : keyOf Tryd.prog 9 key = some kl) : ∃ s : ByteArray, key = .string s ∧ kl = Fm.key s := by
  obtain ⟨s, rfl, rfl, _⟩ := Go.WideMaps.string_of_keyOf uT_str h
  exact ⟨s, rfl, rfl⟩
set_option maxRecDepth 100000 in
set_option maxHeartbeats 800000 in
theorem used_up {w : World} {b s m : Nat} {v : Value} {N : Nat} {d : Dk} (h : DiskAt w b s m v d) (ok : d.Ok N) (hN : N ≤ 1099511627776) (hd : d.down = false) :
    Calls Tryd.prog 43 #[.pointer (some ⟨b, 0, none⟩)] w fun e w' => e = .returned (.int .i64 d.now.used) ∧ Kept (fun _ => False) w w' := by
  have c1 := h.cs.c1
  have hr := ready_up h hd
  have hm := h.now
  have hap : d.now.Apart := Fm.apart_of_tidy (World.ownsMap.tidy hm klaw)
  have hu1 := Fm.used_le ok.nowSmall
  have hu2 : d.now.used ≤ 4611686018427387904 := by
    have := ok.len1
    have : (d.now.length : Int) * (4194304 : Nat) ≤ 1099511627776 * (4194304 : Nat) := Int.mul_le_mul_of_nonneg_right (by omega) (by omega)
    omega
  clear hu1 ok h hd hN
  go_enter Tryd.func43, Tryd.ntmps43
  go_wp2_with (first | (go_at_call 50; refine hr.mono ?_; rintro e w' ⟨rfl, rfl⟩) | (at_range; refine wpList_range_own _ rfl _ _ rfl 9 9 klaw uT_map sR m d.now.length (Fm.toD d.now) rfl hm ?_; intro w1 hrg hg1 hs1))
  go_frame
  go_loopw [3] (fun x wr => ∃ (left : Lit → Bool) (cnt : Nat), wr.ranges Tryd.prog 9 sR m w.heap.size d.now.length (Fm.toD d.now) left cnt ∧ x = .int .i64 (Fm.come left d.now) ∧ Kept (fun _ => False) w wr)
    (fun _ wr => wr.rangeLeft m w.heap.size)
  case atStart =>
    refine ⟨_, _, hrg, ?_, (Kept.refl _ w).grown hg1 fun k hk => by cases hk⟩
    rw [Fm.come_all]
    intro p hp
    rw [Fm.toD_has, Fm.has_mem hp]
  case round =>
    obtain ⟨left, cnt, hrg, rfl, hgw⟩ := hrel
    have hc := Fm.come_range left d.now
    have hc0 := hc.1
    have hc1 := hc.2
    clear hc
    go_wp2_with (first
      | (at_next; refine wpList_next_ranges _ rfl _ rfl 9 klaw sR Value.string Value.string (fun key kl hk => ?hinvk) (fun v y hv => ?hinvv) m w.heap.size d.now.length _ _ _ rfl hrg ?_ ?_))
    case hinvk => obtain ⟨s, rfl, _⟩ := isKey_str hk; exact ⟨s, rfl⟩
    case hinvv => obtain ⟨c, rfl, _⟩ := plainElem_string_inv uT_str hv; exact ⟨c, rfl⟩
    · intro _ hl0
      have he := Fm.come_none hl0 d.now
      rw [he]
      clear he
      go_wp2
      go_ret
      exact ⟨rfl, hgw⟩
    · intro x c kl yd yp w2 cnt2 hkey hlk hv hat hrg2 hlt hg2 hs2 hen
      have hgw1 : Kept (fun _ => False) w w2 := hgw.grown hg2 fun k hk hlt => by cases hk; omega
      have hstep : Fm.come (fun z => left z && !z.sameKey kl) d.now = Fm.come left d.now + c.size ∧ Fm.come left d.now + c.size ≤ d.now.used := by
        obtain ⟨x', ex, rfl⟩ := isKey_str hkey
        cases ex
        have hhas : d.now.has x = true := by
          rw [← Fm.toD_has (H := Unit)]
          exact Maps.has_true_of_atKey hat
        have hg : d.now.get x = c := by
          have h1 := hat (.lit (.string []))
          rw [Fm.toD_get] at h1
          obtain ⟨s', es, hz, _⟩ := plainElem_string_inv uT_str hv
          cases es
          rw [← h1] at hz
          simp only [Fm.val, Prod.mk.injEq, DataW.lit.injEq, Lit.string.injEq] at hz
          exact Fm.data_inj hz.1
        have e := Fm.come_step hlk hap hhas
        rw [hg] at e
        refine ⟨e, ?_⟩
        rw [← e]
        exact (Fm.come_range _ _).2
      have hs := hstep.2
      have H := Lib.hid hstep.1
      clear hs2 hat hkey hv hlk hstep
      go_wp2
      go_roundw
      case rel => exact ⟨_, cnt2, hrg2, by rw [H.out], hgw1⟩
      case measure => rw [hrg2.left_eq, hrg.left_eq]; exact hlt
end Go.Proofs.YtjobmlnekpaagaaDoor

/-! ### Names; costs; a clone. -/
namespace Go.Proofs.YtjobmlnekpaagaaDoor
open Go Go.RowKit Go.Maps

set_option maxHeartbeats 400000 in
theorem cost_put (n s : ByteArray) (at_ : Int) (w : World) (hs : s.size ≤ 9223372036854775806) : Calls Tryd.prog 163 #[.agg #[.string n, .string s, .int .i64 at_]] w fun e w' => e = .returned (.int .i64 (1 + s.size)) ∧ w.alloc (.cells #[.string n, .string s, .int .i64 at_] 93) = w' := by
  go_enter Tryd.func163, Tryd.ntmps163
  go_wp2
  go_ret
  exact ⟨rfl, rfl⟩
set_option maxHeartbeats 400000 in
theorem cost_trim (x : ByteArray) (y : Int) (w : World) : Calls Tryd.prog 165 #[.agg #[.string x, .int .i64 y]] w fun e w' => e = .returned (.int .i64 1) ∧ w.alloc (.cells #[.string x, .int .i64 y] 141) = w' := by
  go_enter Tryd.func165, Tryd.ntmps165
  go_wp2
  go_ret
  exact ⟨rfl, rfl⟩
set_option maxHeartbeats 400000 in
theorem cost_move (x y : ByteArray) (w : World) : Calls Tryd.prog 166 #[.agg #[.string x, .string y]] w fun e w' => e = .returned (.int .i64 1) ∧ w.alloc (.cells #[.string x, .string y] 143) = w' := by
  go_enter Tryd.func166, Tryd.ntmps166
  go_wp2
  go_ret
  exact ⟨rfl, rfl⟩
set_option maxHeartbeats 400000 in
theorem cost_drop (x : ByteArray) (w : World) : Calls Tryd.prog 167 #[.agg #[.string x]] w fun e w' => e = .returned (.int .i64 1) ∧ w.alloc (.cells #[.string x] 145) = w' := by
  go_enter Tryd.func167, Tryd.ntmps167
  go_wp2
  go_ret
  exact ⟨rfl, rfl⟩

theorem clone_any {w : World} {b : Nat} {m : Fm} (h : MapAt w b m) : Calls Tryd.prog 54 #[.map (some b)] w fun e w' => ∃ m', e = .returned (.map (some m')) ∧ w.heap.size ≤ m' ∧ MapAt w' m' m ∧ Kept (fun _ => False) w w' := by
  have hcon := AnyW.maps_Clone_owns Tryd.laysClone 9 sR b m.length (Fm.toD m) w h
  change Calls Tryd.prog 54 _ _ _ at hcon
  exact hcon.mono fun e w' ⟨h1, h2, _, h4⟩ => ⟨w.heap.size, h1, Nat.le_refl _, h2, Kept.of_below_all h4 _⟩

/-! ### names -/
def cutset : List UInt8 := [97, 98, 99, 100, 101, 102, 103, 104, 105, 106, 107, 108, 109, 110, 111, 112, 113, 114, 115, 116, 117, 118, 119, 120, 121, 122, 48, 49, 50, 51, 52, 53, 54, 55, 56, 57, 46, 45]
theorem cutset_ok (c : UInt8) : cutset.contains c = Dk.okByte c := by
  have h : ∀ n : Fin 256, cutset.contains (UInt8.ofNat n) = Dk.okByte (UInt8.ofNat n) := by decide +kernel
  have := h ⟨c.toNat, c.toNat_lt⟩
  simpa using this
theorem dropWhile_nil {p : UInt8 → Bool} : ∀ l : List UInt8, (l.dropWhile p == []) = l.all p
  | [] => rfl
  | a :: r => by
    rw [List.dropWhile_cons]
    cases h : p a with
    | true => simpa [h] using dropWhile_nil r
    | false => simp [h]
theorem trimS_nil (l : List UInt8) : (Lib.trimS l cutset == []) = l.all Dk.okByte := by
  unfold Lib.trimS Lib.trimLeftS Lib.trimRightS
  rw [dropWhile_nil]
  simp only [cutset_ok]
  rw [Bool.eq_iff_iff]
  constructor
  · intro h
    rw [List.all_eq_true] at h ⊢
    intro x hx
    cases hp : Dk.okByte x with
    | true => rfl
    | false =>
      have hm : x ∈ (l.reverse.dropWhile Dk.okByte).reverse := by
        rw [List.mem_reverse]
        have := List.takeWhile_append_dropWhile (p := Dk.okByte) (l := l.reverse)
        have hx' : x ∈ l.reverse.takeWhile Dk.okByte ++ l.reverse.dropWhile Dk.okByte := by rw [this]; simpa using hx
        rcases List.mem_append.1 hx' with h1 | h1
        · have := List.all_eq_true.1 (List.all_takeWhile (p := Dk.okByte) (l := l.reverse)) x h1
          rw [hp] at this
          cases this
        · exact h1
      have := h x hm
      rw [hp] at this
      exact this
  · intro h
    have : l.reverse.dropWhile Dk.okByte = [] := by
      have h2 := dropWhile_nil (p := Dk.okByte) l.reverse
      rw [List.all_reverse, h] at h2
      simpa using h2
    rw [this]
    rfl
set_option maxRecDepth 100000 in
set_option maxHeartbeats 400000 in
theorem name_any (s : ByteArray) (w : World) (hs : s.size ≤ 9223372036854775807) :
    Calls Tryd.prog 51 #[.string s] w fun e w' => e = .returned (.bool (Dk.name s)) ∧ Kept (fun _ => False) w w' := by
  by_cases h0 : s.data.toList = []
  · have h0' : (s.toList == []) = true := by rw [ByteArray.toList_eq, h0]; rfl
    have hr : Dk.name s = false := by unfold Dk.name; rw [h0]; rfl
    have HR := Lib.hid hr
    clear hr h0
    go_enter Tryd.func51, Tryd.ntmps51
    go_wp2_with fail
    go_ret
    exact ⟨by rw [HR.out]; rfl, Kept.refl _ w⟩
  · have h0' : (s.toList == []) = false := by rw [ByteArray.toList_eq]; simpa using h0
    have h0'' : s.toList.isEmpty = false := by rw [ByteArray.toList_eq]; simpa using h0
    have hI : s.data.toList.isEmpty = false := by simpa using h0
    clear h0
    by_cases h64 : s.size ≤ 64
    · have hcon := Any.strings_Trim_laid Tryd.laysTrim (by kernel_rfl) s ⟨cutset.toArray⟩ w hs (by decide) (ascii_of_all (by decide))
      change Calls Tryd.prog 88 _ _ _ at hcon
      have hr : Dk.name s = (Lib.trimS s.data.toList cutset == []) := by
        unfold Dk.name
        rw [trimS_nil, hI]
        simp [h64]
      have HR := Lib.hid hr
      clear hr hI
      have hc2 : Calls Tryd.prog 88 #[.string s, .string ⟨#[97, 98, 99, 100, 101, 102, 103, 104, 105, 106, 107, 108, 109, 110, 111, 112, 113, 114, 115, 116, 117, 118, 119, 120, 121, 122, 48, 49, 50, 51, 52, 53, 54, 55, 56, 57, 46, 45]⟩] w fun e w' => ∃ t : List UInt8, e = .returned (.string ⟨t.toArray⟩) ∧ Hid (t = Lib.trimS s.data.toList cutset) ∧ Below w.heap.size w w' := hcon.mono fun e w' ⟨h1, h2⟩ => ⟨_, h1, rfl, h2⟩
      clear hcon
      go_enter Tryd.func51, Tryd.ntmps51
      go_wp2_with (go_at_call 88; refine hc2.mono ?_; rintro e w' ⟨t, rfl, HT, hb⟩)
      go_ret
      refine ⟨ret_bool ?_, Kept.of_below_all hb _⟩
      rw [HR.out, ← HT.out]
      simp
    · have hr : Dk.name s = false := by unfold Dk.name; simp [h64]
      have HR := Lib.hid hr
      clear hr hI
      go_enter Tryd.func51, Tryd.ntmps51
      go_wp2_with fail
      go_ret
      exact ⟨by rw [HR.out]; rfl, Kept.refl _ w⟩
end Go.Proofs.YtjobmlnekpaagaaDoor

/-! ### A loss of power. -/
namespace Go.Proofs.YtjobmlnekpaagaaDoor
open Go Go.RowKit Go.Maps

theorem row_shape {w : World} {base n : Nat} {e : TypeId} {v : Value} {xs : List Value} (h : w.ownsRow base e 1 v n xs) :
    (v = .slice none 0 0 ∧ n = 0 ∧ xs = []) ∨ ∃ g cap, v = .slice (some ⟨g, 0, none⟩) n cap ∧ g < w.heap.size ∧ ∀ j u, xs[j]? = some u → w.cell? ⟨g, j, none⟩ = some u := by
  rcases h.2 with ⟨hv, hx⟩ | ⟨g, cap, cur, rfl, hg, hh, r⟩
  · exact .inl ⟨hv, hx, by have h1 := h.1; rw [hx] at h1; simpa using h1⟩
  · exact .inr ⟨g, cap, rfl, (Array.getElem?_eq_some_iff.1 hh).1, fun j u hj => by
      have h1 := h.cells (g := g) rfl j u hj
      have h2 : (⟨g, 0, none⟩ : Addr).add j = ⟨g, j, none⟩ := by unfold Addr.add; split <;> simp_all
      rw [← h2]
      exact h1⟩
/-- What a loss of power leaves. -/
theorem fail_close {w1 : World} {b s m m' : Nat} {v : Value} {d : Dk} {sm : Fm}
    (hb : w1.heap[b]? = some (.cells #[.map (some s), .map (some m), v, .int .i64 d.room, .int .i64 d.calls, .int .i64 d.after, .int .i64 d.keep, .bool d.down] 90 (0, 0)))
    (hs : MapAt w1 s sm) (hm : MapAt w1 m' sm) (hne : s ≠ m') {k : Int} (hd : d.down = false) (he : failed d.sure d.row k = sm) :
    DiskAt ((((w1.setCell ⟨b, 1, none⟩ (.map (some m'))).setCell ⟨b, 2, none⟩ (.slice none 0 0)).setCell ⟨b, 7, none⟩ (.bool true)).setCell ⟨b, 5, none⟩ (.int .i64 0)) b s m' (.slice none 0 0) (d.fail k) ∧
      Kept (fun j => j = b) w1 ((((w1.setCell ⟨b, 1, none⟩ (.map (some m'))).setCell ⟨b, 2, none⟩ (.slice none 0 0)).setCell ⟨b, 7, none⟩ (.bool true)).setCell ⟨b, 5, none⟩ (.int .i64 0)) := by
  have hk := (((Kept.own w1 b 1 (.map (some m'))).trans (Kept.own _ b 2 (.slice none 0 0))).trans (Kept.own _ b 7 (.bool true))).trans (Kept.own _ b 5 (.int .i64 0))
  have hbs : s ≠ b := fun e => by
    subst e
    obtain ⟨es, clock, hx, _⟩ := hs
    rw [hb] at hx
    cases hx
  have hbm : m' ≠ b := fun e => by
    subst e
    obtain ⟨es, clock, hx, _⟩ := hm
    rw [hb] at hx
    cases hx
  have e1 : (d.fail k).sure = sm := by unfold Dk.fail; simp [hd, he]
  have e2 : (d.fail k).now = sm := by unfold Dk.fail; simp [hd, he]
  have e3 : (d.fail k).row = [] := by unfold Dk.fail; simp [hd]
  refine ⟨⟨?_, ?_, ?_, ?_, hne⟩, hk⟩
  · rw [setCell_block (setCell_block (setCell_block (setCell_block hb _ _) _ _) _ _) _ _]
    simp [Dk.fail, hd]
  · rw [e1]; exact hs.kept hk hbs
  · rw [e2]; exact hm.kept hk hbm
  · rw [e3]; exact ⟨by simp, .inl ⟨rfl, rfl⟩⟩
set_option maxRecDepth 100000 in
set_option maxHeartbeats 400000 in
theorem fail_down {w : World} {b s m : Nat} {v : Value} {d : Dk} (h : DiskAt w b s m v d) (hd : d.down = true) (k : Int) :
    Calls Tryd.prog 19 #[.pointer (some ⟨b, 0, none⟩), .int .i64 k] w fun e w' => e = .returned (.tuple #[]) ∧ w = w' := by
  have hr := ready_down h hd
  clear h hd
  go_enter Tryd.func19, Tryd.ntmps19
  go_wp2_with (go_at_call 50; refine hr.mono ?_; rintro e w' ⟨rfl, rfl⟩)
  go_returns
  exact ⟨rfl, rfl⟩
set_option maxRecDepth 100000 in
set_option maxHeartbeats 4000000 in
theorem fail_up {w : World} {b s m : Nat} {v : Value} {N : Nat} {d : Dk} (h : DiskAt w b s m v d) (ok : d.Ok N) (hN : N ≤ 1099511627776) (hd : d.down = false) (k : Int) (hk0 : -9223372036854775808 ≤ k) (hk1 : k ≤ 9223372036854775807) :
    Calls Tryd.prog 19 #[.pointer (some ⟨b, 0, none⟩), .int .i64 k] w fun e w' => e = .returned (.tuple #[]) ∧ (∃ m', DiskAt w' b s m' (.slice none 0 0) (d.fail k) ∧ w.heap.size ≤ m') ∧ Kept (fun j => j = b ∨ j = s) w w' := by
  have hr := ready_up h hd
  have c2 := h.cs.c2
  have H := Lib.hid h
  have hlen := ok.len2
  rcases row_shape h.row with ⟨rfl, hn, hx⟩ | ⟨g, cap, rfl, hg, hcells⟩
  · have hr0 : d.row = [] := by simpa using hx
    have HD := Lib.hid hd
    have HR0 := Lib.hid hr0
    have C0 := h.cs.c0
    have hlt := h.lt
    clear hn hx h ok hd hr0
    go_enter Tryd.func19, Tryd.ntmps19
    go_wp2_with (go_at_call 50; refine hr.mono ?_; rintro e w' ⟨rfl, rfl⟩)
    refine wp_loop_rounds 1 ?_
    rw [rounds_succ]
    go_wp2_with (first | (go_at_call 54; refine (clone_any H.out.sure).mono ?_; rintro e w1 ⟨m', rfl, hm', hm1, hk1⟩; have hb1 := (hk1.block b hlt (fun f => f)).trans H.out.cells; have HB1 := Lib.hid hb1; have D := cells_of hb1; have d1 := D.c1; have d2 := D.c2; have d5 := D.c5; have d7 := D.c7; have f1 := frozen_of_block hb1 1; have f2 := frozen_of_block hb1 2; have f5 := frozen_of_block hb1 5; have f7 := frozen_of_block hb1 7; clear D hb1))
    go_returns
    have hf := fail_close (k := k) HB1.out (H.out.sure.kept hk1 (fun f => f)) hm1 (by have := H.out.sure.lt; omega) HD.out (by rw [HR0.out]; rfl)
    refine ⟨rfl, ⟨_, hf.1, hm'⟩, ?_⟩
    exact ((Kept.refl _ w).step hk1 (fun _ _ h => h.elim)).step hf.2 (fun _ _ h => .inl h)
  · have HC := Lib.hid hcells
    have HO := Lib.hid ok
    have HD := Lib.hid hd
    have hsb : s ≠ b := fun e => by
      subst e
      obtain ⟨es, clock, hx, _⟩ := h.sure
      rw [h.cells] at hx
      cases hx
    have HSB := Lib.hid hsb
    clear hcells h ok hd hsb
    go_enter Tryd.func19, Tryd.ntmps19
    go_wp2_with (go_at_call 50; refine hr.mono ?_; rintro e w' ⟨rfl, rfl⟩)
    go_loopw [1, 16] (fun v1 v16 wr => ∃ (dn rest : List Ch) (kk : Int) (sm : Fm), Hid (d.row = dn ++ rest) ∧ v16 = .int .i64 dn.length ∧ v1 = .int .i64 kk ∧ MapAt wr s sm ∧ sm.Small 4194304 ∧ fitsAll sm rest ∧ Hid (failed d.sure d.row k = failed sm rest kk) ∧ sm.length + rest.length ≤ N ∧ -9223372036854775808 ≤ kk ∧ kk ≤ 9223372036854775807 ∧ Kept (fun j => j = s) w wr)
      (fun _ v16 _ => d.row.length - (intOf v16).toNat)
    case atStart => exact ⟨[], d.row, k, d.sure, rfl, rfl, rfl, H.out.sure, HO.out.small, HO.out.fits, rfl, hlen, hk0, hk1, Kept.refl _ _⟩
    case round =>
      obtain ⟨dn, rest, kk, sm, hrow, rfl, rfl, hm, hsm, hfit, hfail, hlen', k0, k1, hkw⟩ := hrel
      have hlt := H.out.lt
      have hb0 := (hkw.block b hlt (fun e => HSB.out e.symm)).trans H.out.cells
      have HB := Lib.hid hb0
      have C0 := (cells_of hb0).c0
      clear hb0
      cases rest with
      | nil =>
        have hl : decide (dn.length < d.row.length) = false := by rw [hrow.out]; simp
        have hcl := clone_any hm
        have hdn : dn.length ≤ d.row.length := by rw [hrow.out]; simp
        go_wp2_with (go_at_call 54; refine hcl.mono ?_; rintro e w1 ⟨m', rfl, hm', hm1, hk1⟩; have hb1 := (hk1.block b (Nat.lt_of_lt_of_le hlt hkw.size) (fun f => f)).trans HB.out; have HB1 := Lib.hid hb1; have D := cells_of hb1; have d1 := D.c1; have d2 := D.c2; have d5 := D.c5; have d7 := D.c7; have f1 := frozen_of_block hb1 1; have f2 := frozen_of_block hb1 2; have f5 := frozen_of_block hb1 5; have f7 := frozen_of_block hb1 7; clear D hb1)
        go_returns
        have hf := fail_close (k := k) HB1.out (hm.kept hk1 (fun f => f)) hm1 (by have := hm.lt; omega) HD.out (by rw [hfail.out]; rfl)
        refine ⟨rfl, ⟨_, hf.1, by have := hkw.size; omega⟩, ?_⟩
        refine ((hkw.mono (fun _ _ h => .inr h)).step hk1 (fun _ _ h => h.elim)).step hf.2 (fun _ _ h => .inl h)
      | cons c r =>
        have C0a := cell_alloc C0
        have C0b := fun o1 o2 => cell_alloc (C0a o1) o2
        have hl : decide (dn.length < d.row.length) = true := by rw [hrow.out]; simp
        have hl' : dn.length < d.row.length := by rw [hrow.out]; simp
        have hge : g ≠ s := fun e => by
          subst e
          obtain ⟨es, clock, hx, _⟩ := H.out.sure
          obtain ⟨g', cap', cur, hv, _, hh, _⟩ := H.out.row.2.resolve_left (fun h => by cases h.1)
          injection hv with hv
          injection hv with hv
          injection hv with hv
          subst hv
          rw [hx] at hh
          cases hh
        have cr : wr.cell? ⟨g, dn.length, none⟩ = some c.enc := by
          rw [hkw.cell (p := ⟨g, dn.length, none⟩) hg hge]
          refine HC.out dn.length c.enc ?_
          rw [hrow.out]
          simp
        have HG := Lib.hid hge
        clear hge
        have hfc := hfit.1
        have hfr := hfit.2
        have HFC := Lib.hid hfc
        clear hfit
        by_cases hcost : c.cost ≤ kk
        · have hdone := fun W (h : MapAt W s sm) => done_any h (by unfold maxLen; simp at hlen'; omega) hsm hfc
          have HCO := Lib.hid hcost
          have HLE := Lib.hid hlen'
          clear hlen' hcost
          cases c with
          | put f t at_ =>
            simp only [Ch.enc] at cr
            obtain ⟨q0, q1, q2, q3⟩ := hfc
            have hc1 : (1 + t.size : Int) ≤ kk := HCO.out
            go_wp2_with (first | (go_at_call 163; refine (cost_put _ _ _ _ (by omega)).mono ?_; rintro e w1 ⟨rfl, rfl⟩) | (go_at_call 58; refine (hdone _ (hm.alloc _)).mono ?_; rintro e w2 ⟨rfl, hm2, hk2⟩))
            have HM2 := Lib.hid hm2
            clear hm2
            go_roundw
            case rel => exact ⟨dn ++ [.put f t at_], r, kk - (1 + t.size), (Ch.put f t at_).done sm, by rw [hrow.out]; unfold Hid; simp, by simp, rfl, HM2.out.alloc _, Ch.done_small hsm HFC.out, hfr, hfail.out.trans (failed_le HCO.out), by have h1 := Ch.done_length sm (Ch.put f t at_); have h2 := HLE.out; simp at h2; omega, by omega, by omega, ((hkw.alloc _).trans hk2).alloc _⟩
            case measure => simp [intOf]; omega
          | trim f n =>
            simp only [Ch.enc] at cr
            clear hfc
            have hc1 : (1 : Int) ≤ kk := HCO.out
            go_wp2_with (first | (go_at_call 165; refine (cost_trim _ _ _).mono ?_; rintro e w1 ⟨rfl, rfl⟩) | (go_at_call 58; refine (hdone _ (hm.alloc _)).mono ?_; rintro e w2 ⟨rfl, hm2, hk2⟩))
            have HM2 := Lib.hid hm2
            clear hm2
            go_roundw
            case rel => exact ⟨dn ++ [.trim f n], r, kk - (1), (Ch.trim f n).done sm, by rw [hrow.out]; unfold Hid; simp, by simp, rfl, HM2.out.alloc _, Ch.done_small hsm HFC.out, hfr, hfail.out.trans (failed_le HCO.out), by have h1 := Ch.done_length sm (Ch.trim f n); have h2 := HLE.out; simp at h2; omega, by omega, by omega, ((hkw.alloc _).trans hk2).alloc _⟩
            case measure => simp [intOf]; omega
          | move f n =>
            simp only [Ch.enc] at cr
            clear hfc
            have hc1 : (1 : Int) ≤ kk := HCO.out
            go_wp2_with (first | (go_at_call 166; refine (cost_move _ _ _).mono ?_; rintro e w1 ⟨rfl, rfl⟩) | (go_at_call 58; refine (hdone _ (hm.alloc _)).mono ?_; rintro e w2 ⟨rfl, hm2, hk2⟩))
            have HM2 := Lib.hid hm2
            clear hm2
            go_roundw
            case rel => exact ⟨dn ++ [.move f n], r, kk - (1), (Ch.move f n).done sm, by rw [hrow.out]; unfold Hid; simp, by simp, rfl, HM2.out.alloc _, Ch.done_small hsm HFC.out, hfr, hfail.out.trans (failed_le HCO.out), by have h1 := Ch.done_length sm (Ch.move f n); have h2 := HLE.out; simp at h2; omega, by omega, by omega, ((hkw.alloc _).trans hk2).alloc _⟩
            case measure => simp [intOf]; omega
          | drop f =>
            simp only [Ch.enc] at cr
            clear hfc
            have hc1 : (1 : Int) ≤ kk := HCO.out
            go_wp2_with (first | (go_at_call 167; refine (cost_drop _ _).mono ?_; rintro e w1 ⟨rfl, rfl⟩) | (go_at_call 58; refine (hdone _ (hm.alloc _)).mono ?_; rintro e w2 ⟨rfl, hm2, hk2⟩))
            have HM2 := Lib.hid hm2
            clear hm2
            go_roundw
            case rel => exact ⟨dn ++ [.drop f], r, kk - (1), (Ch.drop f).done sm, by rw [hrow.out]; unfold Hid; simp, by simp, rfl, HM2.out.alloc _, Ch.done_small hsm HFC.out, hfr, hfail.out.trans (failed_le HCO.out), by have h1 := Ch.done_length sm (Ch.drop f); have h2 := HLE.out; simp at h2; omega, by omega, by omega, ((hkw.alloc _).trans hk2).alloc _⟩
            case measure => simp [intOf]; omega
        · have hdone := fun W (h : MapAt W s sm) (c' : Ch) (hf : c'.fits sm) => done_any h (by unfold maxLen; simp at hlen'; omega) hsm hf
          have HCO := Lib.hid hcost
          clear hlen' hcost
          cases c with
          | put f t at_ =>
            simp only [Ch.enc] at cr
            obtain ⟨q0, q1, q2, q3⟩ := hfc
            have hc1 : ¬ (1 + (t.size : Int) ≤ kk) := HCO.out
            by_cases hk : 0 < kk
            · have hdk : decide (0 < kk) = true := by simpa using hk
              have hta := as_put_put
              have hds := fun W (h : MapAt W s sm) => hdone W h (.put f (t.extract 0 (kk.toNat - 1)) at_) (fits_torn HFC.out HCO.out hk)
              have HDS := Lib.hid hds
              clear hds hdone
              go_wp2_with (first | (go_at_call 163; refine (cost_put _ _ _ _ (by omega)).mono ?_; rintro e w1 ⟨rfl, rfl⟩))
              refine still_tail 6 (by kernel_rfl) (by kernel_rfl) ?_
              simp only [List.take_succ_cons, List.take_zero, List.drop_succ_cons, List.drop_zero]
              repeat still_step
              refine wpStill_nil ?_
              go_wp2_with (first | (go_at_call 58; refine (HDS.out _ ((hm.alloc _).alloc _).drew).mono ?_; rintro e w2 ⟨rfl, hm2, hk2⟩; have hb2 := (hk2.block b (by have := hkw.size; simp; omega) (fun e => HSB.out e.symm)).trans (block_alloc (block_alloc HB.out _) _); have HB2 := Lib.hid hb2; have E0 := (cells_of hb2).c0; have hs2 := hk2.size; clear hb2) | (go_at_call 54; refine (clone_any hm2).mono ?_; rintro e w1 ⟨m', rfl, hm', hm1, hk1⟩; have hb1 := (hk1.block b (by have := hkw.size; simp at hs2; omega) (fun f => f)).trans HB2.out; have HB1 := Lib.hid hb1; have D := cells_of hb1; have d1 := D.c1; have d2 := D.c2; have d5 := D.c5; have d7 := D.c7; have f1 := frozen_of_block hb1 1; have f2 := frozen_of_block hb1 2; have f5 := frozen_of_block hb1 5; have f7 := frozen_of_block hb1 7; clear D hb1))
              go_returns
              have hf := fail_close (k := k) HB1.out (hm2.kept hk1 (fun f => f)) hm1 (by have := hm2.lt; omega) HD.out (hfail.out.trans (failed_torn (Int.not_le.2 HCO.out) hk))
              refine ⟨rfl, ⟨_, hf.1, by have := hkw.size; simp at hs2; omega⟩, ?_⟩
              exact ((((((hkw.alloc _).alloc _).drew).trans hk2).mono (fun _ _ h => .inr h)).step hk1 (fun _ _ h => h.elim)).step hf.2 (fun _ _ h => .inl h)
            · have hdk : decide (0 < kk) = false := by simpa using hk
              have hta := as_put_put
              have HK := Lib.hid hk
              clear hk
              go_wp2_with (first | (go_at_call 163; refine (cost_put _ _ _ _ (by omega)).mono ?_; rintro e w1 ⟨rfl, rfl⟩) | (go_at_call 54; refine (clone_any ((hm.alloc _).alloc _)).mono ?_; rintro e w1 ⟨m', rfl, hm', hm1, hk1⟩; have hb1 := (hk1.block b (by have := hkw.size; simp; omega) (fun f => f)).trans (block_alloc (block_alloc HB.out _) _); have HB1 := Lib.hid hb1; have D := cells_of hb1; have d1 := D.c1; have d2 := D.c2; have d5 := D.c5; have d7 := D.c7; have f1 := frozen_of_block hb1 1; have f2 := frozen_of_block hb1 2; have f5 := frozen_of_block hb1 5; have f7 := frozen_of_block hb1 7; clear D hb1))
              go_returns
              have hf := fail_close (k := k) HB1.out (((hm.alloc _).alloc _).kept hk1 (fun f => f)) hm1 (by have := hm.lt; simp at hm'; omega) HD.out (hfail.out.trans (failed_none (Int.not_le.2 HCO.out) (Int.not_lt.2 HK.out)))
              refine ⟨rfl, ⟨_, hf.1, by have := hkw.size; simp at hm'; omega⟩, ?_⟩
              exact (((((hkw.alloc _).alloc _)).mono (fun _ _ h => .inr h)).step hk1 (fun _ _ h => h.elim)).step hf.2 (fun _ _ h => .inl h)
          | trim f n =>
            simp only [Ch.enc] at cr
            clear hfc
            have hc1 : ¬ (1 ≤ kk) := HCO.out
            have HK := Lib.hid (show ¬ 0 < kk by omega)
            have hta := as_trim_put
            go_wp2_with (first | (go_at_call 165; refine (cost_trim _ _ _).mono ?_; rintro e w1 ⟨rfl, rfl⟩) | (go_at_call 54; refine (clone_any ((hm.alloc _).alloc _)).mono ?_; rintro e w1 ⟨m', rfl, hm', hm1, hk1⟩; have hb1 := (hk1.block b (by have := hkw.size; simp; omega) (fun f => f)).trans (block_alloc (block_alloc HB.out _) _); have HB1 := Lib.hid hb1; have D := cells_of hb1; have d1 := D.c1; have d2 := D.c2; have d5 := D.c5; have d7 := D.c7; have f1 := frozen_of_block hb1 1; have f2 := frozen_of_block hb1 2; have f5 := frozen_of_block hb1 5; have f7 := frozen_of_block hb1 7; clear D hb1))
            go_returns
            have hf := fail_close (k := k) HB1.out (((hm.alloc _).alloc _).kept hk1 (fun f => f)) hm1 (by have := hm.lt; simp at hm'; omega) HD.out (hfail.out.trans (failed_none (Int.not_le.2 HCO.out) (Int.not_lt.2 HK.out)))
            refine ⟨rfl, ⟨_, hf.1, by have := hkw.size; simp at hm'; omega⟩, ?_⟩
            exact (((((hkw.alloc _).alloc _)).mono (fun _ _ h => .inr h)).step hk1 (fun _ _ h => h.elim)).step hf.2 (fun _ _ h => .inl h)
          | move f n =>
            simp only [Ch.enc] at cr
            clear hfc
            have hc1 : ¬ (1 ≤ kk) := HCO.out
            have HK := Lib.hid (show ¬ 0 < kk by omega)
            have hta := as_move_put
            go_wp2_with (first | (go_at_call 166; refine (cost_move _ _ _).mono ?_; rintro e w1 ⟨rfl, rfl⟩) | (go_at_call 54; refine (clone_any ((hm.alloc _).alloc _)).mono ?_; rintro e w1 ⟨m', rfl, hm', hm1, hk1⟩; have hb1 := (hk1.block b (by have := hkw.size; simp; omega) (fun f => f)).trans (block_alloc (block_alloc HB.out _) _); have HB1 := Lib.hid hb1; have D := cells_of hb1; have d1 := D.c1; have d2 := D.c2; have d5 := D.c5; have d7 := D.c7; have f1 := frozen_of_block hb1 1; have f2 := frozen_of_block hb1 2; have f5 := frozen_of_block hb1 5; have f7 := frozen_of_block hb1 7; clear D hb1))
            go_returns
            have hf := fail_close (k := k) HB1.out (((hm.alloc _).alloc _).kept hk1 (fun f => f)) hm1 (by have := hm.lt; simp at hm'; omega) HD.out (hfail.out.trans (failed_none (Int.not_le.2 HCO.out) (Int.not_lt.2 HK.out)))
            refine ⟨rfl, ⟨_, hf.1, by have := hkw.size; simp at hm'; omega⟩, ?_⟩
            exact (((((hkw.alloc _).alloc _)).mono (fun _ _ h => .inr h)).step hk1 (fun _ _ h => h.elim)).step hf.2 (fun _ _ h => .inl h)
          | drop f =>
            simp only [Ch.enc] at cr
            clear hfc
            have hc1 : ¬ (1 ≤ kk) := HCO.out
            have HK := Lib.hid (show ¬ 0 < kk by omega)
            have hta := as_drop_put
            go_wp2_with (first | (go_at_call 167; refine (cost_drop _ _).mono ?_; rintro e w1 ⟨rfl, rfl⟩) | (go_at_call 54; refine (clone_any ((hm.alloc _).alloc _)).mono ?_; rintro e w1 ⟨m', rfl, hm', hm1, hk1⟩; have hb1 := (hk1.block b (by have := hkw.size; simp; omega) (fun f => f)).trans (block_alloc (block_alloc HB.out _) _); have HB1 := Lib.hid hb1; have D := cells_of hb1; have d1 := D.c1; have d2 := D.c2; have d5 := D.c5; have d7 := D.c7; have f1 := frozen_of_block hb1 1; have f2 := frozen_of_block hb1 2; have f5 := frozen_of_block hb1 5; have f7 := frozen_of_block hb1 7; clear D hb1))
            go_returns
            have hf := fail_close (k := k) HB1.out (((hm.alloc _).alloc _).kept hk1 (fun f => f)) hm1 (by have := hm.lt; simp at hm'; omega) HD.out (hfail.out.trans (failed_none (Int.not_le.2 HCO.out) (Int.not_lt.2 HK.out)))
            refine ⟨rfl, ⟨_, hf.1, by have := hkw.size; simp at hm'; omega⟩, ?_⟩
            exact (((((hkw.alloc _).alloc _)).mono (fun _ _ h => .inr h)).step hk1 (fun _ _ h => h.elim)).step hf.2 (fun _ _ h => .inl h)
end Go.Proofs.YtjobmlnekpaagaaDoor

/-! ### A change is laid. -/
namespace Go.Proofs.YtjobmlnekpaagaaDoor
open Go Go.RowKit Go.Maps

theorem info_ch : (Tryd.prog.info? 99).map (fun i => (i.zero, i.size, i.bytes)) = some (some .nilIface, 1, 16) := by kernel_rfl
theorem uT_chs : Tryd.prog.underlying 88 = some (.slice 99) := by kernel_rfl
theorem Ch.enc_iface (c : Ch) : ∃ T u, c.enc = .iface T u := by cases c <;> exact ⟨_, _, rfl⟩
theorem row_succ {W : World} {base : Nat} {e : TypeId} {size : Nat} {v : Value} {k : Nat} {xs : List Value} (h : W.ownsRow base e size v (k + 1) xs) : ∃ g cap, v = .slice (some ⟨g, 0, none⟩) (k + 1) cap := by
  rcases h.2 with ⟨_, h0⟩ | ⟨g, cap, _, rfl, _⟩
  · omega
  · exact ⟨g, cap, rfl⟩
namespace DiskAt
variable {w : World} {b s m : Nat} {v : Value} {d : Dk}
theorem ne_s (h : DiskAt w b s m v d) : s ≠ b := fun e => by
  subst e
  obtain ⟨es, clock, hx, _⟩ := h.sure
  rw [h.cells] at hx
  cases hx
theorem ne_m (h : DiskAt w b s m v d) : m ≠ b := fun e => by
  subst e
  obtain ⟨es, clock, hx, _⟩ := h.now
  rw [h.cells] at hx
  cases hx
theorem row_block (h : DiskAt w b s m v d) {k : Nat} (hk : v.ownBlock = some k) : ∃ cs fz, w.heap[k]? = some (.cells cs 99 fz) := by
  rcases h.row.2 with ⟨rfl, _⟩ | ⟨g, cap, cur, rfl, _, hh, _⟩
  · simp [Value.ownBlock] at hk
  · have : g = k := by simpa [Value.ownBlock] using hk
    subst this
    exact ⟨_, _, hh⟩
theorem ne_row (h : DiskAt w b s m v d) {k : Nat} (hk : v.ownBlock = some k) : k ≠ b ∧ k ≠ s ∧ k ≠ m := by
  obtain ⟨cs, fz, hh⟩ := h.row_block hk
  refine ⟨fun e => ?_, fun e => ?_, fun e => ?_⟩
  · subst e
    rw [h.cells] at hh
    injection hh with hh
    injection hh with _ ht
    cases ht
  · subst e
    obtain ⟨es, clock, hx, _⟩ := h.sure
    rw [hx] at hh
    cases hh
  · subst e
    obtain ⟨es, clock, hx, _⟩ := h.now
    rw [hx] at hh
    cases hh
end DiskAt
theorem lay_mid {w1 w2 : World} {b s m : Nat} {v : Value} {d : Dk} {o : Obj} (h : DiskAt w1 b s m v d) (hg : (w1.alloc o).grownBy w2 v.ownBlock) :
    w2.cell? ⟨b, 1, none⟩ = some (.map (some m)) ∧ w2.cell? ⟨b, 2, none⟩ = some v ∧ w2.frozen? ⟨b, 2, none⟩ = false ∧ ∀ v', MapAt (w2.setCell ⟨b, 2, none⟩ v') m d.now := by
  have k1 : Kept (fun k => v.ownBlock = some k) w1 w2 := ((Kept.refl _ w1).alloc o).trans ((Kept.refl _ _).grown hg fun _ hk _ => hk)
  have hb2 := (k1.block b h.lt (fun e => (h.ne_row e).1 rfl)).trans h.cells
  exact ⟨cell_of_block hb2 1, cell_of_block hb2 2, frozen_of_block hb2 2, fun v' => (h.now.kept k1 (fun e => (h.ne_row e).2.2 rfl)).kept (Kept.own _ _ _ _) h.ne_m⟩
theorem grown_kept {w w' : World} {v : Value} (h : w.grownBy w' v.ownBlock) : Kept (fun k => v.ownBlock = some k) w w' :=
  (Kept.refl _ w).grown h fun _ hk _ => hk
/-- The disk behind the append, the store and the change. -/
theorem lay_close {w1 w2 w4 : World} {b s m : Nat} {v v' : Value} {d : Dk} {c : Ch} {o : Obj} (h : DiskAt w1 b s m v d.counted)
    (hg : (w1.alloc o).grownBy w2 v.ownBlock) (hrow : w2.ownsRow 0 99 1 v' (d.row.length + 1) (d.row.map Ch.enc ++ [c.enc]))
    (hloc : v'.ownBlock = v.ownBlock ∨ v'.ownBlock = some (w1.alloc o).heap.size) (hm : MapAt w4 m (c.done d.now)) (hk : Kept (fun k => k = m) (w2.setCell ⟨b, 2, none⟩ v') w4) :
    DiskAt w4 b s m v' (d.laid c) ∧ Kept (Feet b s m v) w1 w4 ∧ (∀ k, v'.ownBlock = some k → v.ownBlock = some k ∨ w1.heap.size ≤ k) := by
  have hbs := h.ne_s
  have hbm := h.ne_m
  have k1 : Kept (fun k => v.ownBlock = some k) w1 w2 := ((Kept.refl _ w1).alloc o).trans (grown_kept hg)
  have k2 : Kept (fun k => k = b) w2 (w2.setCell ⟨b, 2, none⟩ v') := Kept.own _ _ _ _
  have hb2 : w2.heap[b]? = _ := (k1.block b h.lt (fun e => (h.ne_row e).1 rfl)).trans h.cells
  have hb3 := setCell_block hb2 2 v'
  have hb4 := (hk.block b (Array.getElem?_eq_some_iff.1 hb3).1 (fun e => hbm e.symm)).trans hb3
  have hs4 : MapAt w4 s d.sure := ((h.sure.kept k1 (fun e => (h.ne_row e).2.1 rfl)).kept k2 hbs).kept hk h.ne
  have hv' : ∀ k, v'.ownBlock = some k → v.ownBlock = some k ∨ w1.heap.size ≤ k := by
    intro k hk
    rcases hloc with e | e
    · exact .inl (by rw [← e]; exact hk)
    · rw [e] at hk
      injection hk with hk
      simp at hk
      exact .inr (by omega)
  have hvb : ∀ k, v'.ownBlock = some k → k ≠ b ∧ k ≠ m := by
    intro k hk
    rcases hv' k hk with e | e
    · exact ⟨(h.ne_row e).1, (h.ne_row e).2.2⟩
    · have := h.lt
      have := h.now.lt
      exact ⟨by omega, by omega⟩
  refine ⟨⟨hb4.trans ?_, hs4, hm, ?_, h.ne⟩, ?_, hv'⟩
  · simp [Dk.laid]
  · have hr3 := row_kept hrow k2 (fun k e => (hvb k e).1)
    have hr4 := row_kept hr3 hk (fun k e => (hvb k e).2)
    have e1 : (d.laid c).row = d.row ++ [c] := rfl
    rw [e1]
    simpa using hr4
  · refine (((k1.mono (fun _ _ e => .inr (.inr (.inr e)))).step k2 (fun _ _ e => .inl e))).step hk (fun _ _ e => .inr (.inr (.inl e)))
set_option maxRecDepth 100000 in
set_option maxHeartbeats 1600000 in
theorem lay_plain {w : World} {b s m : Nat} {v : Value} {N : Nat} {d : Dk} (h : DiskAt w b s m v d) (ok : d.Ok N) (hN : N ≤ 1099511627776) (ht : d.trips = false) {c : Ch} (hf : c.fits d.now) :
    Calls Tryd.prog 52 #[.pointer (some ⟨b, 0, none⟩), c.enc] w fun e w' => e = .returned (.int .i64 (d.lay c).2) ∧ Step w b s m v w' (d.lay c).1 := by
  have hc := count_any h ok
  rw [ht] at hc
  have hl1 := ok.len1
  have hl2 := ok.len2
  have hsm := ok.nowSmall
  obtain ⟨i0, hi, hz0, hz1, hz2⟩ := info_parts info_ch
  obtain ⟨T, u, hx⟩ := c.enc_iface
  have hdone := fun W (h : MapAt W m d.now) => done_any h (by unfold maxLen; omega) hsm hf
  rw [hx] at hdone ⊢
  have HX := Lib.hid hx
  have HT := Lib.hid ht
  clear hx ok ht h hf hsm
  go_enter Tryd.func52, Tryd.ntmps52
  go_wp2_with (first
    | (go_at_call 53; refine hc.mono ?_; rintro e w1 ⟨rfl, h1, hk1⟩; have c1 := h1.cs.c1; have c2 := h1.cs.c2; have hrow : w1.ownsRow 0 99 1 v d.row.length (d.row.map Ch.enc) := h1.row; have H1 := Lib.hid h1; clear h1)
    | (at_builtin; refine wpList_append_own_at _ rfl _ _ 88 rfl 0 99 i0 .nilIface 1 16 uT_chs hi hz0 hz1 hz2 rfl (by decide) _ _ _ rfl (hrow.alloc _) ⟨w1.heap.size, 0, none⟩ 1 1 [.iface T u] rfl rfl (cell_one_new _ _ _) (by simp [Value.oneCell']) (by unfold maxLen; omega) (by omega) (Nat.zero_le _) ?_; intro v' w2 hrow2 hg hnil hloc; obtain ⟨g1, g2, g3, g4⟩ := lay_mid H1.out hg; obtain ⟨gg, gcap, rfl⟩ := row_succ hrow2; have HR2 := Lib.hid hrow2; have HL := Lib.hid hloc; have HG4 := Lib.hid g4; clear hnil hrow2 hloc hrow g4)
    | (go_at_call 58; refine (hdone _ (HG4.out _)).mono ?_; rintro e w4 ⟨rfl, hm4, hk4⟩))
  go_returns
  have hcl := lay_close H1.out hg (by rw [HX.out]; exact HR2.out) HL.out hm4 hk4
  have he : d.lay c = (d.laid c, 0) := by unfold Dk.lay; rw [HT.out]; rfl
  rw [he]
  refine ⟨rfl, ⟨s, m, _, hcl.1, fun k hf => ?_⟩, (hk1.mono fun _ _ e => .inl e).trans hcl.2.1⟩
  rcases hf with e | e | e | e
  · exact .inl (.inl e)
  · exact .inl (.inr (.inl e))
  · exact .inl (.inr (.inr (.inl e)))
  · exact (hcl.2.2 k e).imp (fun e => .inr (.inr (.inr e))) (fun h => Nat.le_trans hk1.size h)
set_option maxRecDepth 100000 in
set_option maxHeartbeats 1600000 in
theorem lay_trips {w : World} {b s m : Nat} {v : Value} {N : Nat} {d : Dk} (h : DiskAt w b s m v d) (ok : d.Ok N) (hN : N + 1 ≤ 1099511627776) (hdn : d.down = false) (ht : d.trips = true) {c : Ch} (hf : c.fits d.now) :
    Calls Tryd.prog 52 #[.pointer (some ⟨b, 0, none⟩), c.enc] w fun e w' => e = .returned (.int .i64 (d.lay c).2) ∧ Step w b s m v w' (d.lay c).1 := by
  have hc := count_any h ok
  rw [ht] at hc
  have hl1 := ok.len1
  have hl2 := ok.len2
  have hsm := ok.nowSmall
  obtain ⟨i0, hi, hz0, hz1, hz2⟩ := info_parts info_ch
  obtain ⟨T, u, hx⟩ := c.enc_iface
  have hdone := fun W (h : MapAt W m d.now) => done_any h (by unfold maxLen; omega) hsm hf
  rw [hx] at hdone ⊢
  have HX := Lib.hid hx
  have HOK := Lib.hid (ok.laid hf)
  have HT := Lib.hid ht
  have hq0 := ok.keep0
  have hq1 := ok.keep1
  have HDN := Lib.hid (show (d.laid c).down = false from hdn)
  clear hdn
  clear hx ok ht h hf hsm
  go_enter Tryd.func52, Tryd.ntmps52
  go_wp2_with (first
    | (go_at_call 53; refine hc.mono ?_; rintro e w1 ⟨rfl, h1, hk1⟩; have c1 := h1.cs.c1; have c2 := h1.cs.c2; have hrow : w1.ownsRow 0 99 1 v d.row.length (d.row.map Ch.enc) := h1.row; have H1 := Lib.hid h1; clear h1)
    | (at_builtin; refine wpList_append_own_at _ rfl _ _ 88 rfl 0 99 i0 .nilIface 1 16 uT_chs hi hz0 hz1 hz2 rfl (by decide) _ _ _ rfl (hrow.alloc _) ⟨w1.heap.size, 0, none⟩ 1 1 [.iface T u] rfl rfl (cell_one_new _ _ _) (by simp [Value.oneCell']) (by unfold maxLen; omega) (by omega) (Nat.zero_le _) ?_; intro v' w2 hrow2 hg hnil hloc; obtain ⟨g1, g2, g3, g4⟩ := lay_mid H1.out hg; obtain ⟨gg, gcap, rfl⟩ := row_succ hrow2; have HR2 := Lib.hid hrow2; have HL := Lib.hid hloc; have HG4 := Lib.hid g4; clear hnil hrow2 hloc hrow g4)
    | (go_at_call 58; refine (hdone _ (HG4.out _)).mono ?_; rintro e w4 ⟨rfl, hm4, hk4⟩; have hcl := lay_close H1.out hg (by rw [HX.out]; exact HR2.out) HL.out hm4 hk4; have k6 : w4.cell? ⟨b, 6, none⟩ = some (.int .i64 d.keep) := hcl.1.cs.c6; have HCL := Lib.hid hcl; clear hcl)
    | (go_at_call 19; refine (fail_up HCL.out.1 HOK.out (by omega) HDN.out d.keep hq0 hq1).mono ?_; rintro e w5 ⟨rfl, ⟨m', hd5, hm'⟩, hk5⟩))
  go_returns
  have he : d.lay c = ((d.laid c).fail d.keep, 8) := by unfold Dk.lay; rw [HT.out]; rfl
  rw [he]
  refine ⟨rfl, ⟨s, m', _, hd5, fun k hf => ?_⟩, ?_⟩
  · rcases hf with e | e | e | e
    · exact .inl (.inl e)
    · exact .inl (.inr (.inl e))
    · refine .inr ?_
      have h1 := hk1.size
      have h2 := HCL.out.2.1.size
      omega
    · simp [Value.ownBlock] at e
  · refine ((hk1.mono fun _ _ e => .inl e).trans HCL.out.2.1).step hk5 fun k _ e => ?_
    rcases e with e | e
    · exact .inl e
    · exact .inr (.inl e)
theorem lay_any {w : World} {b s m : Nat} {v : Value} {N : Nat} {d : Dk} (h : DiskAt w b s m v d) (ok : d.Ok N) (hN : N + 1 ≤ 1099511627776) (hdn : d.down = false) {c : Ch} (hf : c.fits d.now) :
    Calls Tryd.prog 52 #[.pointer (some ⟨b, 0, none⟩), c.enc] w fun e w' => e = .returned (.int .i64 (d.lay c).2) ∧ Step w b s m v w' (d.lay c).1 := by
  cases ht : d.trips with
  | true => exact lay_trips h ok hN hdn ht hf
  | false => exact lay_plain h ok (by omega) ht hf
end Go.Proofs.YtjobmlnekpaagaaDoor

/-! ### Put. -/
namespace Go.Proofs.YtjobmlnekpaagaaDoor
open Go Go.RowKit Go.Maps
set_option linter.unusedVariables false

set_option maxRecDepth 100000 in
set_option maxHeartbeats 400000 in
theorem there_any {w : World} {b s m : Nat} {v : Value} {d : Dk} (h : DiskAt w b s m v d) (f : ByteArray) (hf : f.size ≤ 9223372036854775807) :
    Calls Tryd.prog 59 #[.pointer (some ⟨b, 0, none⟩), .string f] w fun e w' => e = .returned (.int .i64 (d.there f)) ∧ Kept (fun _ => False) w w' := by
  have H := Lib.hid h
  cases hd : d.down with
  | true =>
    have hr := ready_down h hd
    have he : d.there f = 8 := by unfold Dk.there; rw [hd]; rfl
    have HE := Lib.hid he
    clear h hd he
    go_enter Tryd.func59, Tryd.ntmps59
    go_wp2_with (go_at_call 50; refine hr.mono ?_; rintro e w' ⟨rfl, rfl⟩)
    go_ret
    exact ⟨by rw [HE.out]; rfl, Kept.refl _ _⟩
  | false =>
    have hr := ready_up h hd
    have hn := fun w => name_any f w hf
    cases hnm : Dk.name f with
    | false =>
      have he : d.there f = 1 := by unfold Dk.there; rw [hd, hnm]; rfl
      have HE := Lib.hid he
      rw [hnm] at hn
      clear h hd he hnm
      go_enter Tryd.func59, Tryd.ntmps59
      go_wp2_with (first | (go_at_call 50; refine hr.mono ?_; rintro e w' ⟨rfl, rfl⟩) | (go_at_call 51; refine (hn _).mono ?_; rintro e w1 ⟨rfl, hk1⟩))
      go_ret
      exact ⟨by rw [HE.out]; rfl, hk1⟩
    | true =>
      have hs := Dk.name_size hnm
      have hlt := h.lt
      rw [hnm] at hn
      cases hh : d.now.has f with
      | false =>
        have he : d.there f = 4 := by unfold Dk.there; rw [hd, hnm, hh]; rfl
        have HE := Lib.hid he
        clear h hd he hnm
        go_enter Tryd.func59, Tryd.ntmps59
        go_wp2_with (first | (go_at_call 50; refine hr.mono ?_; rintro e w' ⟨rfl, rfl⟩) | (go_at_call 51; refine (hn _).mono ?_; rintro e w1 ⟨rfl, hk1⟩; have h1 := H.out.kept hk1 (fun _ _ f => f); have c1 := h1.cs.c1; have hl1 := look_ok_run (k := f) h1.now (by unfold maxLen; omega); rw [hh] at hl1; clear h1))
        go_ret
        exact ⟨by rw [HE.out]; rfl, hk1⟩
      | true =>
        have he : d.there f = 0 := by unfold Dk.there; rw [hd, hnm, hh]; rfl
        have HE := Lib.hid he
        clear h hd he hnm
        go_enter Tryd.func59, Tryd.ntmps59
        go_wp2_with (first | (go_at_call 50; refine hr.mono ?_; rintro e w' ⟨rfl, rfl⟩) | (go_at_call 51; refine (hn _).mono ?_; rintro e w1 ⟨rfl, hk1⟩; have h1 := H.out.kept hk1 (fun _ _ f => f); have c1 := h1.cs.c1; have hl1 := look_ok_run (k := f) h1.now (by unfold maxLen; omega); rw [hh] at hl1; clear h1))
        go_ret
        exact ⟨by rw [HE.out]; rfl, hk1⟩
set_option maxRecDepth 100000 in
set_option maxHeartbeats 1600000 in
theorem put_down {w : World} {b s m : Nat} {v : Value} {N : Nat} {d : Dk} (h : DiskAt w b s m v d) (ok : d.Ok N) (hN : N + 1 ≤ 1099511627776) (f : ByteArray) (at_ : Int) (t : ByteArray) (hf : f.size ≤ 9223372036854775807) (ht : t.size ≤ 9223372036854775807) (ha0 : -9223372036854775808 ≤ at_) (ha1 : at_ ≤ 9223372036854775807) (hd : d.down = true) :
    Calls Tryd.prog 15 #[.pointer (some ⟨b, 0, none⟩), .string f, .int .i64 at_, .string t] w fun e w' => e = .returned (.int .i64 (d.put f at_ t).2) ∧ Step w b s m v w' (d.put f at_ t).1 := by
  have H := Lib.hid h
  have hr := ready_down h hd
  have he : d.put f at_ t = (d, 8) := by unfold Dk.put; rw [hd]; rfl
  rw [he]
  clear h ok hd he
  go_enter Tryd.func15, Tryd.ntmps15
  go_wp2_with (go_at_call 50; refine hr.mono ?_; rintro e w' ⟨rfl, rfl⟩)
  go_ret
  exact ⟨rfl, Step.same H.out (Kept.refl _ _)⟩
set_option maxRecDepth 100000 in
set_option maxHeartbeats 1600000 in
theorem put_bad_name {w : World} {b s m : Nat} {v : Value} {N : Nat} {d : Dk} (h : DiskAt w b s m v d) (ok : d.Ok N) (hN : N + 1 ≤ 1099511627776) (f : ByteArray) (at_ : Int) (t : ByteArray) (hf : f.size ≤ 9223372036854775807) (ht : t.size ≤ 9223372036854775807) (ha0 : -9223372036854775808 ≤ at_) (ha1 : at_ ≤ 9223372036854775807) (hd : d.down = false) (hnm : Dk.name f = false) :
    Calls Tryd.prog 15 #[.pointer (some ⟨b, 0, none⟩), .string f, .int .i64 at_, .string t] w fun e w' => e = .returned (.int .i64 (d.put f at_ t).2) ∧ Step w b s m v w' (d.put f at_ t).1 := by
  have H := Lib.hid h
  have hr := ready_up h hd
  have c1 := h.cs.c1
  have hg := ok.nowSmall.get f
  have hlk := look_run (k := f) h.now (by unfold maxLen; omega)
  have hn := fun w => name_any f w hf
  rw [hnm] at hn
  have he : d.put f at_ t = (d, 1) := by unfold Dk.put Dk.putBad; rw [hd, hnm]; rfl
  rw [he]
  clear h ok hd he hnm
  go_enter Tryd.func15, Tryd.ntmps15
  go_wp2_with (first | (go_at_call 50; refine hr.mono ?_; rintro e w' ⟨rfl, rfl⟩) | (go_at_call 51; refine (hn _).mono ?_; rintro e w1 ⟨rfl, hk1⟩))
  go_ret
  exact ⟨rfl, Step.same H.out hk1⟩
set_option maxRecDepth 100000 in
set_option maxHeartbeats 1600000 in
theorem put_bad_low {w : World} {b s m : Nat} {v : Value} {N : Nat} {d : Dk} (h : DiskAt w b s m v d) (ok : d.Ok N) (hN : N + 1 ≤ 1099511627776) (f : ByteArray) (at_ : Int) (t : ByteArray) (hf : f.size ≤ 9223372036854775807) (ht : t.size ≤ 9223372036854775807) (ha0 : -9223372036854775808 ≤ at_) (ha1 : at_ ≤ 9223372036854775807) (hd : d.down = false) (hnm : Dk.name f = true) (h0 : at_ < 0) :
    Calls Tryd.prog 15 #[.pointer (some ⟨b, 0, none⟩), .string f, .int .i64 at_, .string t] w fun e w' => e = .returned (.int .i64 (d.put f at_ t).2) ∧ Step w b s m v w' (d.put f at_ t).1 := by
  have H := Lib.hid h
  have hr := ready_up h hd
  have c1 := h.cs.c1
  have hg := ok.nowSmall.get f
  have hlk := look_run (k := f) h.now (by unfold maxLen; omega)
  have hn := fun w => name_any f w hf
  rw [hnm] at hn
  have he : d.put f at_ t = (d, 1) := by unfold Dk.put Dk.putBad; rw [hd, hnm]; simp; omega
  rw [he]
  clear h ok hd he hnm
  go_enter Tryd.func15, Tryd.ntmps15
  go_wp2_with (first | (go_at_call 50; refine hr.mono ?_; rintro e w' ⟨rfl, rfl⟩) | (go_at_call 51; refine (hn _).mono ?_; rintro e w1 ⟨rfl, hk1⟩))
  go_ret
  exact ⟨rfl, Step.same H.out hk1⟩
set_option maxRecDepth 100000 in
set_option maxHeartbeats 1600000 in
theorem put_bad_high {w : World} {b s m : Nat} {v : Value} {N : Nat} {d : Dk} (h : DiskAt w b s m v d) (ok : d.Ok N) (hN : N + 1 ≤ 1099511627776) (f : ByteArray) (at_ : Int) (t : ByteArray) (hf : f.size ≤ 9223372036854775807) (ht : t.size ≤ 9223372036854775807) (ha0 : -9223372036854775808 ≤ at_) (ha1 : at_ ≤ 9223372036854775807) (hd : d.down = false) (hnm : Dk.name f = true) (h0 : 0 ≤ at_) (h1 : (d.now.get f).size < at_) :
    Calls Tryd.prog 15 #[.pointer (some ⟨b, 0, none⟩), .string f, .int .i64 at_, .string t] w fun e w' => e = .returned (.int .i64 (d.put f at_ t).2) ∧ Step w b s m v w' (d.put f at_ t).1 := by
  have H := Lib.hid h
  have hr := ready_up h hd
  have c1 := h.cs.c1
  have hg := ok.nowSmall.get f
  have hlk := look_run (k := f) h.now (by unfold maxLen; omega)
  have hn := fun w => name_any f w hf
  rw [hnm] at hn
  have he : d.put f at_ t = (d, 1) := by unfold Dk.put Dk.putBad; rw [hd, hnm]; simp; omega
  rw [he]
  clear h ok hd he hnm
  go_enter Tryd.func15, Tryd.ntmps15
  go_wp2_with (first | (go_at_call 50; refine hr.mono ?_; rintro e w' ⟨rfl, rfl⟩) | (go_at_call 51; refine (hn _).mono ?_; rintro e w1 ⟨rfl, hk1⟩))
  go_ret
  exact ⟨rfl, Step.same H.out hk1⟩
set_option maxRecDepth 100000 in
set_option maxHeartbeats 1600000 in
theorem put_bad_long {w : World} {b s m : Nat} {v : Value} {N : Nat} {d : Dk} (h : DiskAt w b s m v d) (ok : d.Ok N) (hN : N + 1 ≤ 1099511627776) (f : ByteArray) (at_ : Int) (t : ByteArray) (hf : f.size ≤ 9223372036854775807) (ht : t.size ≤ 9223372036854775807) (ha0 : -9223372036854775808 ≤ at_) (ha1 : at_ ≤ 9223372036854775807) (hd : d.down = false) (hnm : Dk.name f = true) (h0 : 0 ≤ at_) (h1 : at_ ≤ (d.now.get f).size) (h2 : 4194304 - at_ < t.size) :
    Calls Tryd.prog 15 #[.pointer (some ⟨b, 0, none⟩), .string f, .int .i64 at_, .string t] w fun e w' => e = .returned (.int .i64 (d.put f at_ t).2) ∧ Step w b s m v w' (d.put f at_ t).1 := by
  have H := Lib.hid h
  have hr := ready_up h hd
  have c1 := h.cs.c1
  have hg := ok.nowSmall.get f
  have hlk := look_run (k := f) h.now (by unfold maxLen; omega)
  have hn := fun w => name_any f w hf
  rw [hnm] at hn
  have he : d.put f at_ t = (d, 1) := by unfold Dk.put Dk.putBad; rw [hd, hnm]; simp; omega
  rw [he]
  clear h ok hd he hnm
  go_enter Tryd.func15, Tryd.ntmps15
  go_wp2_with (first | (go_at_call 50; refine hr.mono ?_; rintro e w' ⟨rfl, rfl⟩) | (go_at_call 51; refine (hn _).mono ?_; rintro e w1 ⟨rfl, hk1⟩))
  go_ret
  exact ⟨rfl, Step.same H.out hk1⟩
end Go.Proofs.YtjobmlnekpaagaaDoor

/-! ### Put, the rest. -/
namespace Go.Proofs.YtjobmlnekpaagaaDoor
open Go Go.RowKit Go.Maps
set_option linter.unusedVariables false

theorem held3 {w w1 w2 : World} {b s m : Nat} {v : Value} {d : Dk} (h : DiskAt w b s m v d) (h1 : Kept (fun _ => False) w w1) (h2 : Kept (fun _ => False) w1 w2) : w2.cell? ⟨b, 3, none⟩ = some (.int .i64 d.room) ∧ Kept (fun _ => False) w w2 :=
  ⟨(h.kept (h1.trans h2) (fun _ _ f => f)).cs.c3, h1.trans h2⟩
set_option maxRecDepth 100000 in
set_option maxHeartbeats 1600000 in
theorem put_free {w : World} {b s m : Nat} {v : Value} {N : Nat} {d : Dk} (h : DiskAt w b s m v d) (ok : d.Ok N) (hN : N + 1 ≤ 1099511627776) (f : ByteArray) (at_ : Int) (t : ByteArray) (hf : f.size ≤ 9223372036854775807) (ht : t.size ≤ 9223372036854775807) (ha0 : -9223372036854775808 ≤ at_) (ha1 : at_ ≤ 9223372036854775807) (hd : d.down = false) (hnm : Dk.name f = true) (h0 : 0 ≤ at_) (h1 : at_ ≤ (d.now.get f).size) (h2 : t.size ≤ 4194304 - at_) (h3 : d.room < 0) :
    Calls Tryd.prog 15 #[.pointer (some ⟨b, 0, none⟩), .string f, .int .i64 at_, .string t] w fun e w' => e = .returned (.int .i64 (d.put f at_ t).2) ∧ Step w b s m v w' (d.put f at_ t).1 := by
  have H := Lib.hid h
  have hr := ready_up h hd
  have c1 := h.cs.c1
  have hg := ok.nowSmall.get f
  have hlk := look_run (k := f) h.now (by unfold maxLen; omega)
  have hn := fun w => name_any f w hf
  rw [hnm] at hn
  have hpb : d.putBad f at_ t = false := by unfold Dk.putBad; rw [hnm]; simp; omega
  have hl : ∀ W, DiskAt W b s m v d → Calls Tryd.prog 52 #[.pointer (some ⟨b, 0, none⟩), .iface 93 (.agg #[.string f, .string t, .int .i64 at_])] W fun e w' => e = .returned (.int .i64 (d.lay (.put f t at_)).2) ∧ Step W b s m v w' (d.lay (.put f t at_)).1 := fun W hW => lay_any hW ok hN hd (Dk.put_fits hpb)
  have HL := Lib.hid hl
  clear hl
  have he : d.put f at_ t = d.lay (.put f t at_) := by unfold Dk.put Dk.full; rw [hd, hpb]; have : decide (0 ≤ d.room) = false := by simpa using h3
                                                       rw [this]; rfl
  rw [he]
  clear h ok hd he hnm hpb
  have hdec : decide (0 ≤ d.room) = false := by simpa using h3
  go_enter Tryd.func15, Tryd.ntmps15
  go_wp2_with (first | (go_at_call 50; refine hr.mono ?_; rintro e w' ⟨rfl, rfl⟩) | (go_at_call 51; refine (hn _).mono ?_; rintro e w1 ⟨rfl, hk1⟩; have h1 := H.out.kept hk1 (fun _ _ f => f); have q3 := h1.cs.c3; have H1 := Lib.hid h1; clear h1))
  go_quiet (fail)
  go_wp2_with (go_at_call 52; refine (HL.out _ (H1.out.drewN _)).mono ?_; rintro e w2 ⟨rfl, hstep⟩)
  go_ret
  exact ⟨rfl, (hstep.before ((hk1.drewN _)) (fun _ f => f.elim))⟩
set_option maxRecDepth 100000 in
set_option maxHeartbeats 1600000 in
theorem put_small {w : World} {b s m : Nat} {v : Value} {N : Nat} {d : Dk} (h : DiskAt w b s m v d) (ok : d.Ok N) (hN : N + 1 ≤ 1099511627776) (f : ByteArray) (at_ : Int) (t : ByteArray) (hf : f.size ≤ 9223372036854775807) (ht : t.size ≤ 9223372036854775807) (ha0 : -9223372036854775808 ≤ at_) (ha1 : at_ ≤ 9223372036854775807) (hd : d.down = false) (hnm : Dk.name f = true) (h0 : 0 ≤ at_) (h1 : at_ ≤ (d.now.get f).size) (h2 : t.size ≤ 4194304 - at_) (h3 : 0 ≤ d.room) (h4 : Dk.more (d.now.get f) t at_ ≤ 0) :
    Calls Tryd.prog 15 #[.pointer (some ⟨b, 0, none⟩), .string f, .int .i64 at_, .string t] w fun e w' => e = .returned (.int .i64 (d.put f at_ t).2) ∧ Step w b s m v w' (d.put f at_ t).1 := by
  have H := Lib.hid h
  have hr := ready_up h hd
  have c1 := h.cs.c1
  have hg := ok.nowSmall.get f
  have hlk := look_run (k := f) h.now (by unfold maxLen; omega)
  have hn := fun w => name_any f w hf
  rw [hnm] at hn
  have hpb : d.putBad f at_ t = false := by unfold Dk.putBad; rw [hnm]; simp; omega
  have hl : ∀ W, DiskAt W b s m v d → Calls Tryd.prog 52 #[.pointer (some ⟨b, 0, none⟩), .iface 93 (.agg #[.string f, .string t, .int .i64 at_])] W fun e w' => e = .returned (.int .i64 (d.lay (.put f t at_)).2) ∧ Step W b s m v w' (d.lay (.put f t at_)).1 := fun W hW => lay_any hW ok hN hd (Dk.put_fits hpb)
  have HL := Lib.hid hl
  clear hl
  have he : d.put f at_ t = d.lay (.put f t at_) := by unfold Dk.put Dk.full; rw [hd, hpb]; have : decide (0 < Dk.more (d.now.get f) t at_) = false := by simpa using h4
                                                       rw [this]; simp
  rw [he]
  clear h ok hd he hnm hpb
  have hdec : decide (0 ≤ d.room) = true := by simpa using h3
  unfold Dk.more at h4
  have hdec2 : decide (0 < (t.size : Int) - ((d.now.get f).size - at_)) = false := decide_eq_false (by omega)
  have hdec3 : decide (((d.now.get f).size : Int) - at_ < t.size) = false := decide_eq_false (by omega)
  go_enter Tryd.func15, Tryd.ntmps15
  go_wp2_with (first | (go_at_call 50; refine hr.mono ?_; rintro e w' ⟨rfl, rfl⟩) | (go_at_call 51; refine (hn _).mono ?_; rintro e w1 ⟨rfl, hk1⟩; have h1 := H.out.kept hk1 (fun _ _ f => f); have q3 := h1.cs.c3; have H1 := Lib.hid h1; clear h1))
  go_quiet (fail)
  go_wp2_with (go_at_call 52; refine (HL.out _ (H1.out.drewN _)).mono ?_; rintro e w2 ⟨rfl, hstep⟩)
  go_ret
  exact ⟨rfl, (hstep.before ((hk1.drewN _)) (fun _ f => f.elim))⟩
set_option maxRecDepth 100000 in
set_option maxHeartbeats 1600000 in
theorem put_used {w : World} {b s m : Nat} {v : Value} {N : Nat} {d : Dk} (h : DiskAt w b s m v d) (ok : d.Ok N) (hN : N + 1 ≤ 1099511627776) (f : ByteArray) (at_ : Int) (t : ByteArray) (hf : f.size ≤ 9223372036854775807) (ht : t.size ≤ 9223372036854775807) (ha0 : -9223372036854775808 ≤ at_) (ha1 : at_ ≤ 9223372036854775807) (hd : d.down = false) (hnm : Dk.name f = true) (h0 : 0 ≤ at_) (h1 : at_ ≤ (d.now.get f).size) (h2 : t.size ≤ 4194304 - at_) (h3 : 0 ≤ d.room) (h4 : 0 < Dk.more (d.now.get f) t at_) :
    Calls Tryd.prog 15 #[.pointer (some ⟨b, 0, none⟩), .string f, .int .i64 at_, .string t] w fun e w' => e = .returned (.int .i64 (d.put f at_ t).2) ∧ Step w b s m v w' (d.put f at_ t).1 := by
  have H := Lib.hid h
  have hr := ready_up h hd
  have c1 := h.cs.c1
  have hg := ok.nowSmall.get f
  have hlk := look_run (k := f) h.now (by unfold maxLen; omega)
  have hn := fun w => name_any f w hf
  rw [hnm] at hn
  have hpb : d.putBad f at_ t = false := by unfold Dk.putBad; rw [hnm]; simp; omega
  have hl : ∀ W, DiskAt W b s m v d → Calls Tryd.prog 52 #[.pointer (some ⟨b, 0, none⟩), .iface 93 (.agg #[.string f, .string t, .int .i64 at_])] W fun e w' => e = .returned (.int .i64 (d.lay (.put f t at_)).2) ∧ Step W b s m v w' (d.lay (.put f t at_)).1 := fun W hW => lay_any hW ok hN hd (Dk.put_fits hpb)
  have HL := Lib.hid hl
  clear hl
  have hus := fun W (h : DiskAt W b s m v d) => used_up h ok (by omega) hd
  have HUS := Lib.hid hus
  have hu0 := Fm.used_nonneg d.now
  have hu1 := ok.room2
  have HD := Lib.hid (show d.down = false from hd)
  have HPB := Lib.hid hpb
  clear h ok hd hnm hpb hus
  have hdec : decide (0 ≤ d.room) = true := by simpa using h3
  have hm4 := h4
  unfold Dk.more at h4
  have hdec2 : decide (0 < (t.size : Int) - ((d.now.get f).size - at_)) = true := decide_eq_true (by omega)
  have hdec3 : decide (((d.now.get f).size : Int) - at_ < t.size) = true := decide_eq_true (by omega)
  go_enter Tryd.func15, Tryd.ntmps15
  go_wp2_with (first | (go_at_call 50; refine hr.mono ?_; rintro e w' ⟨rfl, rfl⟩) | (go_at_call 51; refine (hn _).mono ?_; rintro e w1 ⟨rfl, hk1⟩; have h1 := H.out.kept hk1 (fun _ _ f => f); have q3 := h1.cs.c3; have H1 := Lib.hid h1; clear h1))
  have hwr : IntKind.i64.wrap (d.room - ((t.size : Int) - ((d.now.get f).size - at_))) = d.room - ((t.size : Int) - ((d.now.get f).size - at_)) := IntWalk.i64_in _ (by omega)
  go_region_held3 (fun w' => w'.cell? ⟨b, 3, none⟩ = some (.int .i64 d.room) ∧ Kept (fun _ => False) w1 w') (first | exact ⟨q3, (Kept.refl _ _).drew⟩ | exact held3 H1.out (And.right (by assumption : _ ∧ Kept (fun _ => False) w1 _)) hk2)
    (first | (go_at_call 43; refine (HUS.out _ (H1.out.kept (And.right (by assumption : _ ∧ Kept (fun _ => False) w1 _)) (fun _ _ f => f))).mono ?_; rintro e w2 ⟨rfl, hk2⟩))
  have hh : Kept (fun _ => False) w1 w2 := And.right (by assumption : _ ∧ Kept (fun _ => False) w1 w2)
  have H2 := Lib.hid (H1.out.kept hh (fun _ _ f => f))
  by_cases hfull : d.room - ((t.size : Int) - ((d.now.get f).size - at_)) < d.now.used
  · have he : d.put f at_ t = (d, 7) := by
      unfold Dk.put Dk.full Dk.more
      rw [HD.out, HPB.out]
      simp
      omega
    have HE := Lib.hid he
    clear he
    go_wp2_with fail
    go_ret
    rw [HE.out]
    exact ⟨rfl, Step.same H.out (hk1.trans hh)⟩
  · have he : d.put f at_ t = d.lay (.put f t at_) := by
      have : decide (d.room - Dk.more (d.now.get f) t at_ < d.now.used) = false := decide_eq_false hfull
      unfold Dk.put Dk.full
      rw [HD.out, HPB.out, this]
      simp
    have HE := Lib.hid he
    clear he
    go_wp2_with (go_at_call 52; refine (HL.out _ H2.out).mono ?_; rintro e w3 ⟨rfl, hstep⟩)
    go_ret
    rw [HE.out]
    exact ⟨rfl, hstep.before (hk1.trans hh) (fun _ f => f.elim)⟩
theorem put_any {w : World} {b s m : Nat} {v : Value} {N : Nat} {d : Dk} (h : DiskAt w b s m v d) (ok : d.Ok N) (hN : N + 1 ≤ 1099511627776) (f : ByteArray) (at_ : Int) (t : ByteArray) (hf : f.size ≤ 9223372036854775807) (ht : t.size ≤ 9223372036854775807) (ha0 : -9223372036854775808 ≤ at_) (ha1 : at_ ≤ 9223372036854775807) :
    Calls Tryd.prog 15 #[.pointer (some ⟨b, 0, none⟩), .string f, .int .i64 at_, .string t] w fun e w' => e = .returned (.int .i64 (d.put f at_ t).2) ∧ Step w b s m v w' (d.put f at_ t).1 := by
  cases hd : d.down with
  | true => exact put_down h ok hN f at_ t hf ht ha0 ha1 hd
  | false =>
    cases hnm : Dk.name f with
    | false => exact put_bad_name h ok hN f at_ t hf ht ha0 ha1 hd hnm
    | true =>
      by_cases h0 : at_ < 0
      · exact put_bad_low h ok hN f at_ t hf ht ha0 ha1 hd hnm h0
      · by_cases h1 : (d.now.get f).size < at_
        · exact put_bad_high h ok hN f at_ t hf ht ha0 ha1 hd hnm (by omega) h1
        · by_cases h2 : 4194304 - at_ < t.size
          · exact put_bad_long h ok hN f at_ t hf ht ha0 ha1 hd hnm (by omega) (by omega) h2
          · by_cases h3 : d.room < 0
            · exact put_free h ok hN f at_ t hf ht ha0 ha1 hd hnm (by omega) (by omega) (by omega) h3
            · by_cases h4 : Dk.more (d.now.get f) t at_ ≤ 0
              · exact put_small h ok hN f at_ t hf ht ha0 ha1 hd hnm (by omega) (by omega) (by omega) (by omega) h4
              · exact put_used h ok hN f at_ t hf ht ha0 ha1 hd hnm (by omega) (by omega) (by omega) (by omega) (by omega)
end Go.Proofs.YtjobmlnekpaagaaDoor

/-! ### The other calls of a disk. -/
namespace Go.Proofs.YtjobmlnekpaagaaDoor
open Go Go.RowKit Go.Maps
set_option linter.unusedVariables false

set_option maxRecDepth 100000 in
set_option maxHeartbeats 1600000 in
theorem trim_any {w : World} {b s m : Nat} {v : Value} {N : Nat} {d : Dk} (h : DiskAt w b s m v d) (ok : d.Ok N) (hN : N + 1 ≤ 1099511627776) (f : ByteArray) (n : Int) (hf : f.size ≤ 9223372036854775807) (hn0 : -9223372036854775808 ≤ n) (hn1 : n ≤ 9223372036854775807) :
    Calls Tryd.prog 55 #[.pointer (some ⟨b, 0, none⟩), .string f, .int .i64 n] w fun e w' => e = .returned (.int .i64 (d.trim f n).2) ∧ Step w b s m v w' (d.trim f n).1 := by
  have H := Lib.hid h
  have ht := there_any h f hf
  by_cases hq : d.there f = 0
  · rw [hq] at ht
    have hnm := Dk.there_name (d := d) (a := f) (by omega)
    have hg := ok.nowSmall.get f
    have hs := Dk.name_size hnm.2.1
    by_cases hb : n < 0 ∨ (d.now.get f).size < n
    · have he : d.trim f n = (d, 1) := by unfold Dk.trim; rw [hq]; simp [hb]
      have HE := Lib.hid he
      clear h ok he hnm hq
      rcases hb with hb | hb
      all_goals
        go_enter Tryd.func55, Tryd.ntmps55
        go_wp2_with (go_at_call 59; refine ht.mono ?_; rintro e w1 ⟨rfl, hk1⟩; have h1 := H.out.kept hk1 (fun _ _ f => f); have q1 := h1.cs.c1; have hlk := look_run (k := f) h1.now (by unfold maxLen; omega); clear h1)
        go_ret
        rw [HE.out]
        exact ⟨rfl, Step.same H.out hk1⟩
    · have he : d.trim f n = d.lay (.trim f n) := by unfold Dk.trim; rw [hq]; simp [hb]
      have HE := Lib.hid he
      have h0 : 0 ≤ n := by omega
      have h1' : n ≤ (d.now.get f).size := by omega
      have hl : ∀ W, DiskAt W b s m v d → Calls Tryd.prog 52 #[.pointer (some ⟨b, 0, none⟩), .iface 141 (.agg #[.string f, .int .i64 n])] W fun e w' => e = .returned (.int .i64 (d.lay (.trim f n)).2) ∧ Step W b s m v w' (d.lay (.trim f n)).1 := fun W hW => lay_any hW ok hN hnm.1 (c := .trim f n) ⟨hs, by omega, by omega⟩
      have HL := Lib.hid hl
      clear h ok he hnm hq hb hl
      go_enter Tryd.func55, Tryd.ntmps55
      go_wp2_with (first | (go_at_call 59; refine ht.mono ?_; rintro e w1 ⟨rfl, hk1⟩; have h1 := H.out.kept hk1 (fun _ _ f => f); have q1 := h1.cs.c1; have hlk := look_run (k := f) h1.now (by unfold maxLen; omega); have H1 := Lib.hid h1; clear h1) | (go_at_call 52; refine (HL.out _ H1.out).mono ?_; rintro e w2 ⟨rfl, hstep⟩))
      go_ret
      rw [HE.out]
      exact ⟨rfl, hstep.before hk1 (fun _ f => f.elim)⟩
  · have he : d.trim f n = (d, d.there f) := by unfold Dk.trim; rw [if_pos hq]
    have HE := Lib.hid he
    generalize d.there f = q at ht hq HE
    have hq1 : (q == 0) = false := by simpa using hq
    have hq2 : (q != 0) = true := by simpa using hq
    clear h ok he hq
    go_enter Tryd.func55, Tryd.ntmps55
    go_wp2_with (go_at_call 59; refine ht.mono ?_; rintro e w1 ⟨rfl, hk1⟩)
    go_ret
    rw [HE.out]
    exact ⟨rfl, Step.same H.out hk1⟩
set_option maxRecDepth 100000 in
set_option maxHeartbeats 1600000 in
theorem drop_any {w : World} {b s m : Nat} {v : Value} {N : Nat} {d : Dk} (h : DiskAt w b s m v d) (ok : d.Ok N) (hN : N + 1 ≤ 1099511627776) (f : ByteArray) (hf : f.size ≤ 9223372036854775807) :
    Calls Tryd.prog 57 #[.pointer (some ⟨b, 0, none⟩), .string f] w fun e w' => e = .returned (.int .i64 (d.drop f).2) ∧ Step w b s m v w' (d.drop f).1 := by
  have H := Lib.hid h
  have ht := there_any h f hf
  by_cases hq : d.there f = 0
  · rw [hq] at ht
    have hnm := Dk.there_name (d := d) (a := f) (by omega)
    have hs := Dk.name_size hnm.2.1
    have he : d.drop f = d.lay (.drop f) := by unfold Dk.drop; rw [hq]; simp
    have HE := Lib.hid he
    have hl : ∀ W, DiskAt W b s m v d → Calls Tryd.prog 52 #[.pointer (some ⟨b, 0, none⟩), .iface 145 (.agg #[.string f])] W fun e w' => e = .returned (.int .i64 (d.lay (.drop f)).2) ∧ Step W b s m v w' (d.lay (.drop f)).1 := fun W hW => lay_any hW ok hN hnm.1 (c := .drop f) hs
    have HL := Lib.hid hl
    clear h ok he hnm hq hl
    go_enter Tryd.func57, Tryd.ntmps57
    go_wp2_with (first | (go_at_call 59; refine ht.mono ?_; rintro e w1 ⟨rfl, hk1⟩; have H1 := Lib.hid (H.out.kept hk1 (fun _ _ f => f))) | (go_at_call 52; refine (HL.out _ H1.out).mono ?_; rintro e w2 ⟨rfl, hstep⟩))
    go_ret
    rw [HE.out]
    exact ⟨rfl, hstep.before hk1 (fun _ f => f.elim)⟩
  · have he : d.drop f = (d, d.there f) := by unfold Dk.drop; rw [if_pos hq]
    have HE := Lib.hid he
    generalize d.there f = q at ht hq HE
    have hq1 : (q == 0) = false := by simpa using hq
    have hq2 : (q != 0) = true := by simpa using hq
    clear h ok he hq
    go_enter Tryd.func57, Tryd.ntmps57
    go_wp2_with (go_at_call 59; refine ht.mono ?_; rintro e w1 ⟨rfl, hk1⟩)
    go_ret
    rw [HE.out]
    exact ⟨rfl, Step.same H.out hk1⟩
end Go.Proofs.YtjobmlnekpaagaaDoor

/-! ### Move, Sync, Read, and what tells. -/
namespace Go.Proofs.YtjobmlnekpaagaaDoor
open Go Go.RowKit Go.Maps
set_option linter.unusedVariables false

set_option maxRecDepth 100000 in
set_option maxHeartbeats 1600000 in
theorem move_any {w : World} {b s m : Nat} {v : Value} {N : Nat} {d : Dk} (h : DiskAt w b s m v d) (ok : d.Ok N) (hN : N + 1 ≤ 1099511627776) (f t : ByteArray) (hf : f.size ≤ 9223372036854775807) (htt : t.size ≤ 9223372036854775807) :
    Calls Tryd.prog 56 #[.pointer (some ⟨b, 0, none⟩), .string f, .string t] w fun e w' => e = .returned (.int .i64 (d.move f t).2) ∧ Step w b s m v w' (d.move f t).1 := by
  have H := Lib.hid h
  have HT := Lib.hid (fun W (h : DiskAt W b s m v d) => there_any h f hf)
  cases hd : d.down with
  | true =>
    have hr := ready_down h hd
    have hq : d.there f = 8 := by unfold Dk.there; rw [hd]; rfl
    have he : d.move f t = (d, 8) := by unfold Dk.move; rw [hd, hq]; rfl
    have HE := Lib.hid he
    rw [hq] at HT
    clear h ok he hq hd
    go_enter Tryd.func56, Tryd.ntmps56
    go_wp2_with (first | (go_at_call 50; refine hr.mono ?_; rintro e w' ⟨rfl, rfl⟩) | (go_at_call 59; refine (HT.out _ H.out).mono ?_; rintro e w1 ⟨rfl, hk1⟩))
    go_ret
    rw [HE.out]
    exact ⟨rfl, Step.same H.out hk1⟩
  | false =>
    have hr := ready_up h hd
    have hn := fun w => name_any t w htt
    cases hnm : Dk.name t with
    | false =>
      have he : d.move f t = (d, 1) := by unfold Dk.move; rw [hd, hnm]; rfl
      have HE := Lib.hid he
      rw [hnm] at hn
      clear h ok he hd hnm
      go_enter Tryd.func56, Tryd.ntmps56
      go_wp2_with (first | (go_at_call 50; refine hr.mono ?_; rintro e w' ⟨rfl, rfl⟩) | (go_at_call 51; refine (hn _).mono ?_; rintro e w1 ⟨rfl, hk1⟩))
      go_ret
      rw [HE.out]
      exact ⟨rfl, Step.same H.out hk1⟩
    | true =>
      rw [hnm] at hn
      by_cases hq : d.there f = 0
      · rw [hq] at HT
        have hnm1 := Dk.there_name (d := d) (a := f) (by omega)
        have hs := Dk.name_size hnm1.2.1
        have hs2 := Dk.name_size hnm
        have he : d.move f t = d.lay (.move f t) := by unfold Dk.move; rw [hd, hnm, hq]; rfl
        have HE := Lib.hid he
        have HL : Hid (∀ W, DiskAt W b s m v d → Calls Tryd.prog 52 #[.pointer (some ⟨b, 0, none⟩), .iface 143 (.agg #[.string f, .string t])] W fun e w' => e = .returned (.int .i64 (d.lay (.move f t)).2) ∧ Step W b s m v w' (d.lay (.move f t)).1) := fun W hW => lay_any hW ok hN hd (c := .move f t) ⟨hs, hs2⟩
        clear h ok he hnm hq hd hnm1
        go_enter Tryd.func56, Tryd.ntmps56
        go_wp2_with (first | (go_at_call 50; refine hr.mono ?_; rintro e w' ⟨rfl, rfl⟩) | (go_at_call 51; refine (hn _).mono ?_; rintro e w1 ⟨rfl, hk1⟩; have H1 := Lib.hid (H.out.kept hk1 (fun _ _ f => f))) | (go_at_call 59; refine (HT.out _ H1.out).mono ?_; rintro e w2 ⟨rfl, hk2⟩; have H2 := Lib.hid (H1.out.kept hk2 (fun _ _ f => f))) | (go_at_call 52; refine (HL.out _ H2.out).mono ?_; rintro e w3 ⟨rfl, hstep⟩))
        go_ret
        rw [HE.out]
        exact ⟨rfl, hstep.before (hk1.trans hk2) (fun _ f => f.elim)⟩
      · have he : d.move f t = (d, d.there f) := by unfold Dk.move; rw [hd, hnm]; simp [hq]
        have HE := Lib.hid he
        generalize d.there f = q at HT hq HE
        have hq1 : (q == 0) = false := by simpa using hq
        have hq2 : (q != 0) = true := by simpa using hq
        clear h ok he hq hd hnm
        go_enter Tryd.func56, Tryd.ntmps56
        go_wp2_with (first | (go_at_call 50; refine hr.mono ?_; rintro e w' ⟨rfl, rfl⟩) | (go_at_call 51; refine (hn _).mono ?_; rintro e w1 ⟨rfl, hk1⟩; have H1 := Lib.hid (H.out.kept hk1 (fun _ _ f => f))) | (go_at_call 59; refine (HT.out _ H1.out).mono ?_; rintro e w2 ⟨rfl, hk2⟩))
        go_ret
        rw [HE.out]
        exact ⟨rfl, Step.same H.out (hk1.trans hk2)⟩
theorem sync_close {w1 : World} {b s m m' : Nat} {v : Value} {d : Dk} (h : DiskAt w1 b s m v d) (hm : MapAt w1 m' d.now) (hne : m' ≠ m) (hb : m' ≠ b) :
    DiskAt ((w1.setCell ⟨b, 0, none⟩ (.map (some m'))).setCell ⟨b, 2, none⟩ (.slice none 0 0)) b m' m (.slice none 0 0) { d with sure := d.now, row := [] } ∧
      Kept (fun j => j = b) w1 ((w1.setCell ⟨b, 0, none⟩ (.map (some m'))).setCell ⟨b, 2, none⟩ (.slice none 0 0)) := by
  have hk := (Kept.own w1 b 0 (.map (some m'))).trans (Kept.own _ b 2 (.slice none 0 0))
  refine ⟨⟨?_, hm.kept hk hb, h.now.kept hk h.ne_m, ⟨by simp, .inl ⟨rfl, rfl⟩⟩, hne⟩, hk⟩
  rw [setCell_block (setCell_block h.cells _ _) _ _]
  simp
set_option maxRecDepth 100000 in
set_option maxHeartbeats 1600000 in
theorem sync_any {w : World} {b s m : Nat} {v : Value} {N : Nat} {d : Dk} (h : DiskAt w b s m v d) (ok : d.Ok N) (hN : N ≤ 1099511627776) :
    Calls Tryd.prog 16 #[.pointer (some ⟨b, 0, none⟩)] w fun e w' => e = .returned (.int .i64 d.sync.2) ∧ Step w b s m v w' d.sync.1 := by
  have H := Lib.hid h
  cases hd : d.down with
  | true =>
    have hr := ready_down h hd
    have he : d.sync = (d, 8) := by unfold Dk.sync; rw [hd]; rfl
    have HE := Lib.hid he
    clear h ok he hd
    go_enter Tryd.func16, Tryd.ntmps16
    go_wp2_with (first | (go_at_call 50; refine hr.mono ?_; rintro e w' ⟨rfl, rfl⟩))
    go_ret
    rw [HE.out]
    exact ⟨rfl, Step.same H.out (Kept.refl _ _)⟩
  | false =>
    have hr := ready_up h hd
    have hc := count_any h ok
    cases ht : d.trips with
    | true =>
      have he : d.sync = (d.counted.fail d.keep, 8) := by unfold Dk.sync; rw [hd, ht]; rfl
      have HE := Lib.hid he
      have hq0 := ok.keep0
      have hq1 := ok.keep1
      have HF := Lib.hid (fun W (hW : DiskAt W b s m v d.counted) => fail_up hW ok.counted hN (show d.counted.down = false from hd) d.keep hq0 hq1)
      rw [ht] at hc
      clear h ok he hd ht
      go_enter Tryd.func16, Tryd.ntmps16
      go_wp2_with (first | (go_at_call 50; refine hr.mono ?_; rintro e w' ⟨rfl, rfl⟩) | (go_at_call 53; refine hc.mono ?_; rintro e w1 ⟨rfl, h1, hk1⟩; have k6 : w1.cell? ⟨b, 6, none⟩ = some (.int .i64 d.keep) := h1.cs.c6; have H1 := Lib.hid h1; clear h1) | (go_at_call 19; refine (HF.out _ H1.out).mono ?_; rintro e w2 ⟨rfl, ⟨m', hd2, hm'⟩, hk2⟩))
      go_ret
      rw [HE.out]
      refine ⟨rfl, ⟨s, m', _, hd2, fun k hf => ?_⟩, ?_⟩
      · rcases hf with e | e | e | e
        · exact .inl (.inl e)
        · exact .inl (.inr (.inl e))
        · exact .inr (by have := hk1.size; omega)
        · simp [Value.ownBlock] at e
      · refine (hk1.mono fun _ _ e => .inl e).step hk2 fun k _ e => ?_
        rcases e with e | e
        · exact .inl e
        · exact .inr (.inl e)
    | false =>
      have he : d.sync = ({ d.counted with sure := d.now, row := [] }, 0) := by unfold Dk.sync; rw [hd, ht]; rfl
      have HE := Lib.hid he
      rw [ht] at hc
      clear h ok he hd ht
      go_enter Tryd.func16, Tryd.ntmps16
      go_wp2_with (first | (go_at_call 50; refine hr.mono ?_; rintro e w' ⟨rfl, rfl⟩) | (go_at_call 53; refine hc.mono ?_; rintro e w1 ⟨rfl, h1, hk1⟩; have k1 := h1.cs.c1; have H1 := Lib.hid h1; clear h1) | (go_at_call 54; refine (clone_any H1.out.now).mono ?_; rintro e w2 ⟨m', rfl, hm', hm2, hk2⟩; have h2 := H1.out.kept hk2 (fun _ _ f => f); have D := h2.cs; have d0 := D.c0; have d2 := D.c2; have f0 := h2.fz 0; have f2 := h2.fz 2; have H2 := Lib.hid h2; clear D h2))
      go_ret
      have hcl := sync_close H2.out hm2 (by have := H1.out.now.lt; omega) (by have := H1.out.lt; omega)
      rw [HE.out]
      refine ⟨rfl, ⟨m', m, _, hcl.1, fun k hf => ?_⟩, ?_⟩
      · rcases hf with e | e | e | e
        · exact .inl (.inl e)
        · exact .inr (by have := hk1.size; omega)
        · exact .inl (.inr (.inr (.inl e)))
        · simp [Value.ownBlock] at e
      · exact ((hk1.mono fun _ _ e => .inl e).step hk2 fun _ _ e => e.elim).step hcl.2 fun _ _ e => .inl e
set_option maxRecDepth 100000 in
set_option maxHeartbeats 1600000 in
theorem read_any {w : World} {b s m : Nat} {v : Value} {d : Dk} (h : DiskAt w b s m v d) (f : ByteArray) (hf : f.size ≤ 9223372036854775807) :
    Calls Tryd.prog 21 #[.pointer (some ⟨b, 0, none⟩), .string f] w fun e w' => e = .returned (.tuple #[.string (d.read f).1, .int .i64 (d.read f).2]) ∧ Kept (fun _ => False) w w' := by
  have H := Lib.hid h
  have ht := there_any h f hf
  by_cases hq : d.there f = 0
  · rw [hq] at ht
    have hnm1 := Dk.there_name (d := d) (a := f) (by omega)
    have hs := Dk.name_size hnm1.2.1
    have he : d.read f = (d.now.get f, 0) := by unfold Dk.read; rw [hq]; simp
    have HE := Lib.hid he
    clear h he hq hnm1
    go_enter Tryd.func21, Tryd.ntmps21
    go_wp2_with (first | (go_at_call 59; refine ht.mono ?_; rintro e w1 ⟨rfl, hk1⟩; have h1 := H.out.kept hk1 (fun _ _ f => f); have q1 := h1.cs.c1; have hlk := look_run (k := f) h1.now (by unfold maxLen; omega); clear h1))
    go_ret2
    rw [HE.out]
    exact ⟨rfl, hk1⟩
  · have he : d.read f = (ByteArray.empty, d.there f) := by unfold Dk.read; simp [hq]
    have HE := Lib.hid he
    generalize d.there f = q at ht hq HE
    have hq1 : (q == 0) = false := by simpa using hq
    have hq2 : (q != 0) = true := by simpa using hq
    clear h he hq
    go_enter Tryd.func21, Tryd.ntmps21
    go_wp2_with (first | (go_at_call 59; refine ht.mono ?_; rintro e w1 ⟨rfl, hk1⟩))
    go_ret2
    rw [HE.out]
    exact ⟨rfl, hk1⟩
set_option maxRecDepth 100000 in
set_option maxHeartbeats 1600000 in
theorem new_any (w : World) : Calls Tryd.prog 13 #[] w fun e w' => ∃ b s m, e = .returned (.pointer (some ⟨b, 0, none⟩)) ∧ DiskAt w' b s m (.slice none 0 0) Dk.new ∧ w.heap.size ≤ b ∧ w.heap.size ≤ s ∧ w.heap.size ≤ m ∧ Kept (fun _ => False) w w' := by
  have hmm := @run_makeMap Tryd.prog
  go_enter Tryd.func13, Tryd.ntmps13
  go_wp2
  go_ret
  have m1 : MapAt ((w.alloc (.map #[] 0)).alloc (.map #[] 0)) w.heap.size [] := MapAt.alloc (MapAt.tight (n := 0) (World.ownsMap_made w _ _ _)) _
  have m2 : MapAt ((w.alloc (.map #[] 0)).alloc (.map #[] 0)) (w.heap.size + 1) [] := by
    have := MapAt.tight (m := []) (n := 0) (World.ownsMap_made (w.alloc (.map #[] 0)) Tryd.prog 9 sR)
    simpa using this
  have hb := block_new ((w.alloc (.map #[] 0)).alloc (.map #[] 0)) (.cells #[.map (some w.heap.size), .map (some (w.heap.size + 1)), .slice none 0 0, .int .i64 (-1), .int .i64 0, .int .i64 0, .int .i64 0, .bool false] 90)
  refine ⟨w.heap.size + 1 + 1, w.heap.size, w.heap.size + 1, rfl, ⟨by simpa [Dk.new] using hb, m1.alloc _, m2.alloc _, ⟨by simp [Dk.new], .inl ⟨rfl, rfl⟩⟩, by omega⟩, by omega, by omega, by omega, (((Kept.refl _ w).alloc _).alloc _).alloc _⟩
set_option maxHeartbeats 400000 in
theorem waits_any {w : World} {b s m : Nat} {v : Value} {d : Dk} (h : DiskAt w b s m v d) :
    Calls Tryd.prog 44 #[.pointer (some ⟨b, 0, none⟩)] w fun e w' => e = .returned (.int .i64 d.waits) ∧ w = w' := by
  cases hd : d.down with
  | true =>
    have hr := ready_down h hd
    have he : d.waits = 0 := by unfold Dk.waits; rw [hd]; rfl
    rw [he]
    clear h hd he
    go_enter Tryd.func44, Tryd.ntmps44
    go_wp2_with (first | (go_at_call 50; refine hr.mono ?_; rintro e w' ⟨rfl, rfl⟩))
    go_ret
    exact ⟨rfl, rfl⟩
  | false =>
    have hr := ready_up h hd
    have he : d.waits = d.row.length := by unfold Dk.waits; rw [hd]; rfl
    rw [he]
    have c2 := h.cs.c2
    have hsh := row_shape h.row
    clear h hd he
    rcases hsh with ⟨rfl, h0, hx⟩ | ⟨g, cap, rfl, _⟩
    · rw [h0]
      go_enter Tryd.func44, Tryd.ntmps44
      go_wp2_with (first | (go_at_call 50; refine hr.mono ?_; rintro e w' ⟨rfl, rfl⟩))
      go_ret
      exact ⟨rfl, rfl⟩
    · go_enter Tryd.func44, Tryd.ntmps44
      go_wp2_with (first | (go_at_call 50; refine hr.mono ?_; rintro e w' ⟨rfl, rfl⟩))
      go_ret
      exact ⟨rfl, rfl⟩
set_option maxHeartbeats 400000 in
theorem down_any {w : World} {b s m : Nat} {v : Value} {d : Dk} (h : DiskAt w b s m v d) :
    Calls Tryd.prog 40 #[.pointer (some ⟨b, 0, none⟩)] w fun e w' => e = .returned (.bool d.down) ∧ w = w' := by
  have c7 := h.cs.c7
  clear h
  go_enter Tryd.func40, Tryd.ntmps40
  go_wp2
  go_ret
  exact ⟨rfl, rfl⟩
set_option maxHeartbeats 400000 in
theorem calls_any {w : World} {b s m : Nat} {v : Value} {d : Dk} (h : DiskAt w b s m v d) :
    Calls Tryd.prog 49 #[.pointer (some ⟨b, 0, none⟩)] w fun e w' => e = .returned (.int .i64 d.calls) ∧ w = w' := by
  have c4 := h.cs.c4
  clear h
  go_enter Tryd.func49, Tryd.ntmps49
  go_wp2
  go_ret
  exact ⟨rfl, rfl⟩
end Go.Proofs.YtjobmlnekpaagaaDoor
