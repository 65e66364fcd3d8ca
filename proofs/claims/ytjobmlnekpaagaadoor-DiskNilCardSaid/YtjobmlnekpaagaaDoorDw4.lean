/- Names; costs; a clone. -/
import Derived.Test.YtjobmlnekpaagaaDoorDw3
import Derived.Test.YtjobmlnekpaagaaDoorLay
namespace Go.Proofs.YtjobmlnekpaagaaDoor
open Go Go.RowKit Go.Maps

set_option maxHeartbeats 400000 in
theorem cost_put (n s : ByteArray) (at_ : Int) (w : World) (hs : s.size ≤ 9223372036854775806) : Calls Tryd.prog 163 #[.agg #[.string n, .string s, .int .i64 at_]] w fun e w' => e = .returned (.int .i64 (1 + s.size)) ∧ w.alloc (.cells #[.string n, .string s, .int .i64 at_] 93) = w' := by
  go_enter Tryd.func163, Tryd.ntmps163
  go_wp2
  go_ret
  exact ⟨rfl, rfl⟩
set_option maxHeartbeats 400000 in
theorem cost_trim (x : ByteArray) (y : Int) (w : World) : Calls Tryd.prog 165 #[.agg #[.string x, .int .i64 y]] w fun e w' => e = .returned (.int .i64 1) ∧ w.alloc (.cells #[.string x, .int .i64 y] 141) = w' := by
  go_enter Tryd.func165, Tryd.ntmps165
  go_wp2
  go_ret
  exact ⟨rfl, rfl⟩
set_option maxHeartbeats 400000 in
theorem cost_move (x y : ByteArray) (w : World) : Calls Tryd.prog 166 #[.agg #[.string x, .string y]] w fun e w' => e = .returned (.int .i64 1) ∧ w.alloc (.cells #[.string x, .string y] 143) = w' := by
  go_enter Tryd.func166, Tryd.ntmps166
  go_wp2
  go_ret
  exact ⟨rfl, rfl⟩
set_option maxHeartbeats 400000 in
theorem cost_drop (x : ByteArray) (w : World) : Calls Tryd.prog 167 #[.agg #[.string x]] w fun e w' => e = .returned (.int .i64 1) ∧ w.alloc (.cells #[.string x] 145) = w' := by
  go_enter Tryd.func167, Tryd.ntmps167
  go_wp2
  go_ret
  exact ⟨rfl, rfl⟩

theorem clone_any {w : World} {b : Nat} {m : Fm} (h : MapAt w b m) : Calls Tryd.prog 54 #[.map (some b)] w fun e w' => ∃ m', e = .returned (.map (some m')) ∧ w.heap.size ≤ m' ∧ MapAt w' m' m ∧ Kept (fun _ => False) w w' := by
  have hcon := AnyW.maps_Clone_owns Tryd.laysClone 9 sR b m.length (Fm.toD m) w h
  change Calls Tryd.prog 54 _ _ _ at hcon
  exact hcon.mono fun e w' ⟨h1, h2, _, h4⟩ => ⟨w.heap.size, h1, Nat.le_refl _, h2, Kept.of_below_all h4 _⟩

/-! ### names -/
def cutset : List UInt8 := [97, 98, 99, 100, 101, 102, 103, 104, 105, 106, 107, 108, 109, 110, 111, 112, 113, 114, 115, 116, 117, 118, 119, 120, 121, 122, 48, 49, 50, 51, 52, 53, 54, 55, 56, 57, 46, 45]
theorem cutset_ok (c : UInt8) : cutset.contains c = Dk.okByte c := by
  have h : ∀ n : Fin 256, cutset.contains (UInt8.ofNat n) = Dk.okByte (UInt8.ofNat n) := by decide +kernel
  have := h ⟨c.toNat, c.toNat_lt⟩
  simpa using this
theorem dropWhile_nil {p : UInt8 → Bool} : ∀ l : List UInt8, (l.dropWhile p == []) = l.all p
  | [] => rfl
  | a :: r => by
    rw [List.dropWhile_cons]
    cases h : p a with
    | true => simpa [h] using dropWhile_nil r
    | false => simp [h]
theorem trimS_nil (l : List UInt8) : (Lib.trimS l cutset == []) = l.all Dk.okByte := by
  unfold Lib.trimS Lib.trimLeftS Lib.trimRightS
  rw [dropWhile_nil]
  simp only [cutset_ok]
  rw [Bool.eq_iff_iff]
  constructor
  · intro h
    rw [List.all_eq_true] at h ⊢
    intro x hx
    cases hp : Dk.okByte x with
    | true => rfl
    | false =>
      have hm : x ∈ (l.reverse.dropWhile Dk.okByte).reverse := by
        rw [List.mem_reverse]
        have := List.takeWhile_append_dropWhile (p := Dk.okByte) (l := l.reverse)
        have hx' : x ∈ l.reverse.takeWhile Dk.okByte ++ l.reverse.dropWhile Dk.okByte := by rw [this]; simpa using hx
        rcases List.mem_append.1 hx' with h1 | h1
        · have := List.all_eq_true.1 (List.all_takeWhile (p := Dk.okByte) (l := l.reverse)) x h1
          rw [hp] at this
          cases this
        · exact h1
      have := h x hm
      rw [hp] at this
      exact this
  · intro h
    have : l.reverse.dropWhile Dk.okByte = [] := by
      have h2 := dropWhile_nil (p := Dk.okByte) l.reverse
      rw [List.all_reverse, h] at h2
      simpa using h2
    rw [this]
    rfl
set_option maxRecDepth 100000 in
set_option maxHeartbeats 400000 in
theorem name_any (s : ByteArray) (w : World) (hs : s.size ≤ 9223372036854775807) :
    Calls Tryd.prog 51 #[.string s] w fun e w' => e = .returned (.bool (Dk.name s)) ∧ Kept (fun _ => False) w w' := by
  by_cases h0 : s.data.toList = []
  · have h0' : (s.toList == []) = true := by rw [ByteArray.toList_eq, h0]; rfl
    have hr : Dk.name s = false := by unfold Dk.name; rw [h0]; rfl
    have HR := Lib.hid hr
    clear hr h0
    go_enter Tryd.func51, Tryd.ntmps51
    go_wp2_with fail
    go_ret
    exact ⟨by rw [HR.out]; rfl, Kept.refl _ w⟩
  · have h0' : (s.toList == []) = false := by rw [ByteArray.toList_eq]; simpa using h0
    have h0'' : s.toList.isEmpty = false := by rw [ByteArray.toList_eq]; simpa using h0
    have hI : s.data.toList.isEmpty = false := by simpa using h0
    clear h0
    by_cases h64 : s.size ≤ 64
    · have hcon := Any.strings_Trim_laid Tryd.laysTrim (by kernel_rfl) s ⟨cutset.toArray⟩ w hs (by decide) (ascii_of_all (by decide))
      change Calls Tryd.prog 88 _ _ _ at hcon
      have hr : Dk.name s = (Lib.trimS s.data.toList cutset == []) := by
        unfold Dk.name
        rw [trimS_nil, hI]
        simp [h64]
      have HR := Lib.hid hr
      clear hr hI
      have hc2 : Calls Tryd.prog 88 #[.string s, .string ⟨#[97, 98, 99, 100, 101, 102, 103, 104, 105, 106, 107, 108, 109, 110, 111, 112, 113, 114, 115, 116, 117, 118, 119, 120, 121, 122, 48, 49, 50, 51, 52, 53, 54, 55, 56, 57, 46, 45]⟩] w fun e w' => ∃ t : List UInt8, e = .returned (.string ⟨t.toArray⟩) ∧ Hid (t = Lib.trimS s.data.toList cutset) ∧ Below w.heap.size w w' := hcon.mono fun e w' ⟨h1, h2⟩ => ⟨_, h1, rfl, h2⟩
      clear hcon
      go_enter Tryd.func51, Tryd.ntmps51
      go_wp2_with (go_at_call 88; refine hc2.mono ?_; rintro e w' ⟨t, rfl, HT, hb⟩)
      go_ret
      refine ⟨ret_bool ?_, Kept.of_below_all hb _⟩
      rw [HR.out, ← HT.out]
      simp
    · have hr : Dk.name s = false := by unfold Dk.name; simp [h64]
      have HR := Lib.hid hr
      clear hr hI
      go_enter Tryd.func51, Tryd.ntmps51
      go_wp2_with fail
      go_ret
      exact ⟨by rw [HR.out]; rfl, Kept.refl _ w⟩
end Go.Proofs.YtjobmlnekpaagaaDoor
