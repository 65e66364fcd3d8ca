/- Used: the sum over a map. -/
import Derived.Test.YtjobmlnekpaagaaDoorDw2
import Derived.Maps.RangeWalk
namespace Go.Proofs.YtjobmlnekpaagaaDoor
open Go Go.RowKit Go.Maps

theorem isKey_str {key : Value} {kl : Lit} (h : keyOf Tryd.prog 9 key = some kl) : ∃ s : ByteArray, key = .string s ∧ kl = Fm.key s := by
  obtain ⟨s, rfl, rfl, _⟩ := Go.WideMaps.string_of_keyOf uT_str h
  exact ⟨s, rfl, rfl⟩
set_option maxRecDepth 100000 in
set_option maxHeartbeats 800000 in
theorem used_up {w : World} {b s m : Nat} {v : Value} {N : Nat} {d : Dk} (h : DiskAt w b s m v d) (ok : d.Ok N) (hN : N ≤ 1099511627776) (hd : d.down = false) :
    Calls Tryd.prog 43 #[.pointer (some ⟨b, 0, none⟩)] w fun e w' => e = .returned (.int .i64 d.now.used) ∧ Kept (fun _ => False) w w' := by
  have c1 := h.cs.c1
  have hr := ready_up h hd
  have hm := h.now
  have hap : d.now.Apart := Fm.apart_of_tidy (World.ownsMap.tidy hm klaw)
  have hu1 := Fm.used_le ok.nowSmall
  have hu2 : d.now.used ≤ 4611686018427387904 := by
    have := ok.len1
    have : (d.now.length : Int) * (4194304 : Nat) ≤ 1099511627776 * (4194304 : Nat) := Int.mul_le_mul_of_nonneg_right (by omega) (by omega)
    omega
  clear hu1 ok h hd hN
  go_enter Tryd.func43, Tryd.ntmps43
  go_wp2_with (first | (go_at_call 50; refine hr.mono ?_; rintro e w' ⟨rfl, rfl⟩) | (at_range; refine wpList_range_own _ rfl _ _ rfl 9 9 klaw uT_map sR m d.now.length (Fm.toD d.now) rfl hm ?_; intro w1 hrg hg1 hs1))
  go_frame
  go_loopw [3] (fun x wr => ∃ (left : Lit → Bool) (cnt : Nat), wr.ranges Tryd.prog 9 sR m w.heap.size d.now.length (Fm.toD d.now) left cnt ∧ x = .int .i64 (Fm.come left d.now) ∧ Kept (fun _ => False) w wr)
    (fun _ wr => wr.rangeLeft m w.heap.size)
  case atStart =>
    refine ⟨_, _, hrg, ?_, (Kept.refl _ w).grown hg1 fun k hk => by cases hk⟩
    rw [Fm.come_all]
    intro p hp
    rw [Fm.toD_has, Fm.has_mem hp]
  case round =>
    obtain ⟨left, cnt, hrg, rfl, hgw⟩ := hrel
    have hc := Fm.come_range left d.now
    have hc0 := hc.1
    have hc1 := hc.2
    clear hc
    go_wp2_with (first
      | (at_next; refine wpList_next_ranges _ rfl _ rfl 9 klaw sR Value.string Value.string (fun key kl hk => ?hinvk) (fun v y hv => ?hinvv) m w.heap.size d.now.length _ _ _ rfl hrg ?_ ?_))
    case hinvk => obtain ⟨s, rfl, _⟩ := isKey_str hk; exact ⟨s, rfl⟩
    case hinvv => obtain ⟨c, rfl, _⟩ := plainElem_string_inv uT_str hv; exact ⟨c, rfl⟩
    · intro _ hl0
      have he := Fm.come_none hl0 d.now
      rw [he]
      clear he
      go_wp2
      go_ret
      exact ⟨rfl, hgw⟩
    · intro x c kl yd yp w2 cnt2 hkey hlk hv hat hrg2 hlt hg2 hs2 hen
      have hgw1 : Kept (fun _ => False) w w2 := hgw.grown hg2 fun k hk hlt => by cases hk; omega
      have hstep : Fm.come (fun z => left z && !z.sameKey kl) d.now = Fm.come left d.now + c.size ∧ Fm.come left d.now + c.size ≤ d.now.used := by
        obtain ⟨x', ex, rfl⟩ := isKey_str hkey
        cases ex
        have hhas : d.now.has x = true := by
          rw [← Fm.toD_has (H := Unit)]
          exact Maps.has_true_of_atKey hat
        have hg : d.now.get x = c := by
          have h1 := hat (.lit (.string []))
          rw [Fm.toD_get] at h1
          obtain ⟨s', es, hz, _⟩ := plainElem_string_inv uT_str hv
          cases es
          rw [← h1] at hz
          simp only [Fm.val, Prod.mk.injEq, DataW.lit.injEq, Lit.string.injEq] at hz
          exact Fm.data_inj hz.1
        have e := Fm.come_step hlk hap hhas
        rw [hg] at e
        refine ⟨e, ?_⟩
        rw [← e]
        exact (Fm.come_range _ _).2
      have hs := hstep.2
      have H := Lib.hid hstep.1
      clear hs2 hat hkey hv hlk hstep
      go_wp2
      go_roundw
      case rel => exact ⟨_, cnt2, hrg2, by rw [H.out], hgw1⟩
      case measure => rw [hrg2.left_eq, hrg.left_eq]; exact hlt
end Go.Proofs.YtjobmlnekpaagaaDoor
