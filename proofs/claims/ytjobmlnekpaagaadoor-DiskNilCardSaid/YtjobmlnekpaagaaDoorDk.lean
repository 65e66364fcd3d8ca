/- A disk as plain data: what its calls do, and what stays so. -/
import Derived.Test.YtjobmlnekpaagaaDoorFm
namespace Go.Proofs.YtjobmlnekpaagaaDoor
open Go

/-- A change. -/
inductive Ch where
  | put (n s : ByteArray) (at_ : Int)
  | trim (n : ByteArray) (k : Int)
  | move (a b : ByteArray)
  | drop (a : ByteArray)

namespace Ch
def cost : Ch → Int
  | put _ s _ => 1 + s.size
  | _ => 1
/-- The text behind a put. -/
def laid (old s : ByteArray) (at_ : Int) : ByteArray :=
  old.extract 0 at_.toNat ++ s ++ (if at_ + s.size < old.size then old.extract (at_ + s.size).toNat old.size else ByteArray.empty)
def done (m : Fm) : Ch → Fm
  | put n s at_ => m.put n (laid (m.get n) s at_)
  | trim n k => m.put n ((m.get n).extract 0 k.toNat)
  | move a b => (m.del a).put b (m.get a)
  | drop a => m.del a
/-- It can be done. -/
def fits (m : Fm) : Ch → Prop
  | put n s at_ => n.size ≤ 64 ∧ 0 ≤ at_ ∧ at_ ≤ (m.get n).size ∧ s.size ≤ 4194304 - at_
  | trim n k => n.size ≤ 64 ∧ 0 ≤ k ∧ k ≤ (m.get n).size
  | move a b => a.size ≤ 64 ∧ b.size ≤ 64
  | drop a => a.size ≤ 64
/-- The names that it touches. -/
def hits (c : Ch) (x : ByteArray) : Prop :=
  match c with
  | put n _ _ => x = n
  | trim n _ => x = n
  | move a b => x = a ∨ x = b
  | drop a => x = a

theorem size_extract (s : ByteArray) (a b : Nat) : (s.extract a b).size = min b s.size - a := by simp [ByteArray.size_extract]
theorem size_laid {old s : ByteArray} {at_ : Int} (h0 : 0 ≤ at_) (h1 : at_ ≤ old.size) : ((laid old s at_).size : Int) = if at_ + s.size < old.size then (old.size : Int) else at_ + s.size := by
  unfold laid
  split
  · simp only [ByteArray.size_append, size_extract]
    omega
  · simp only [ByteArray.size_append, size_extract, ByteArray.size_empty]
    omega
theorem done_small {m : Fm} {c : Ch} (h : m.Small 4194304) (hf : c.fits m) : (c.done m).Small 4194304 := by
  cases c with
  | put n s at_ =>
    obtain ⟨_, h0, h1, h2⟩ := hf
    refine h.put ?_
    have hg := h.get n
    have := size_laid (old := m.get n) (s := s) h0 h1
    split at this <;> omega
  | trim n k =>
    refine h.put ?_
    have hg := h.get n
    rw [size_extract]
    omega
  | move a b => exact (h.del a).put (h.get a)
  | drop a => exact h.del a
theorem done_length (m : Fm) (c : Ch) : (c.done m).length ≤ m.length + 1 := by
  cases c with
  | put n s at_ => exact Fm.length_put _ _ _
  | trim n k => exact Fm.length_put _ _ _
  | move a b => exact Nat.le_trans (Fm.length_put _ _ _) (Nat.succ_le_succ (Fm.length_del _ _))
  | drop a => exact Nat.le_trans (Fm.length_del _ _) (Nat.le_succ _)
theorem done_find {m : Fm} {c : Ch} {x : ByteArray} (h : ¬ c.hits x) : (c.done m).find x = m.find x := by
  cases c with
  | put n s at_ => exact Fm.find_put_other h _ _
  | trim n k => exact Fm.find_put_other h _ _
  | move a b =>
    have h1 : x ≠ a := fun e => h (Or.inl e)
    have h2 : x ≠ b := fun e => h (Or.inr e)
    show (Fm.put _ _ _).find x = _
    rw [Fm.find_put_other h2, Fm.find_del_other h1]
  | drop a => exact Fm.find_del_other h _
end Ch

/-- All of a row, from some files on. -/
def doneAll (m : Fm) (row : List Ch) : Fm := row.foldl Ch.done m
/-- A row that can be done from some files on. -/
def fitsAll : Fm → List Ch → Prop
  | _, [] => True
  | m, c :: r => c.fits m ∧ fitsAll (c.done m) r
/-- What is sure behind a loss of power. -/
def failed : Fm → List Ch → Int → Fm
  | m, [], _ => m
  | m, c :: r, k =>
    if c.cost ≤ k then failed (c.done m) r (k - c.cost)
    else match c with
      | .put n s at_ => if 0 < k then (Ch.put n (s.extract 0 (k.toNat - 1)) at_).done m else m
      | _ => m

theorem doneAll_snoc (m : Fm) (row : List Ch) (c : Ch) : doneAll m (row ++ [c]) = c.done (doneAll m row) := by
  unfold doneAll
  rw [List.foldl_append]
  rfl
theorem failed_le {m : Fm} {c : Ch} {r : List Ch} {k : Int} (h : c.cost ≤ k) : failed m (c :: r) k = failed (c.done m) r (k - c.cost) := by
  conv => lhs; unfold failed
  rw [if_pos h]
theorem failed_torn {m : Fm} {n s : ByteArray} {at_ : Int} {r : List Ch} {k : Int} (h : ¬ (Ch.put n s at_).cost ≤ k) (h0 : 0 < k) : failed m (.put n s at_ :: r) k = (Ch.put n (s.extract 0 (k.toNat - 1)) at_).done m := by
  unfold failed
  rw [if_neg h]
  simp [h0]
theorem failed_none {m : Fm} {c : Ch} {r : List Ch} {k : Int} (h : ¬ c.cost ≤ k) (h0 : ¬ 0 < k) : failed m (c :: r) k = m := by
  unfold failed
  rw [if_neg h]
  cases c <;> simp [h0]
theorem fitsAll_snoc {c : Ch} : ∀ {m : Fm} {row : List Ch}, fitsAll m row → c.fits (doneAll m row) → fitsAll m (row ++ [c])
  | _, [], _, h => ⟨h, trivial⟩
  | _, _ :: _, h, hc => ⟨h.1, fitsAll_snoc h.2 hc⟩
theorem fits_torn {m : Fm} {n s : ByteArray} {at_ k : Int} (h : (Ch.put n s at_).fits m) (_h1 : ¬ (Ch.put n s at_).cost ≤ k) (_h2 : 0 < k) : (Ch.put n (s.extract 0 (k.toNat - 1)) at_).fits m := by
  obtain ⟨a, b, c, d⟩ := h
  refine ⟨a, b, c, ?_⟩
  rw [Ch.size_extract]
  omega
theorem failed_small : ∀ {m : Fm} {row : List Ch} {k : Int}, m.Small 4194304 → fitsAll m row → (failed m row k).Small 4194304
  | _, [], _, h, _ => h
  | m, c :: r, k, h, hf => by
    unfold failed
    split
    · exact failed_small (Ch.done_small h hf.1) hf.2
    · rename_i hc
      split
      · split
        · rename_i hk
          exact Ch.done_small h (fits_torn hf.1 hc hk)
        · exact h
      · exact h
theorem failed_length : ∀ (m : Fm) (row : List Ch) (k : Int), (failed m row k).length ≤ m.length + row.length
  | _, [], _ => Nat.le_refl _
  | m, c :: r, k => by
    unfold failed
    simp only [List.length_cons]
    split
    · have h1 := failed_length (c.done m) r (k - c.cost)
      have h2 := Ch.done_length m c
      omega
    · split
      · split
        · rename_i n s at_ _ _
          have h2 := Ch.done_length m (Ch.put n (s.extract 0 (k.toNat - 1)) at_)
          omega
        · omega
      · omega

/-- A disk. -/
structure Dk where
  sure : Fm
  now : Fm
  row : List Ch
  room : Int
  calls : Int
  after : Int
  keep : Int
  down : Bool

namespace Dk
/-- What is so of each disk; N: how many changes there may have been. -/
structure Ok (d : Dk) (N : Nat) : Prop where
  small : d.sure.Small 4194304
  nowSmall : d.now.Small 4194304
  fits : fitsAll d.sure d.row
  now : d.now = doneAll d.sure d.row
  len1 : d.now.length ≤ N
  len2 : d.sure.length + d.row.length ≤ N
  after0 : 0 ≤ d.after
  after1 : d.after ≤ 9223372036854775807
  room1 : -1 ≤ d.room
  room2 : d.room ≤ 9223372036854775807
  calls0 : -9223372036854775808 ≤ d.calls
  calls1 : d.calls ≤ 9223372036854775807
  keep0 : -9223372036854775808 ≤ d.keep
  keep1 : d.keep ≤ 9223372036854775807

def new : Dk := ⟨[], [], [], -1, 0, 0, 0, false⟩
def ready (d : Dk) : Int := if d.down then 8 else 0
/-- A name. -/
def okByte (c : UInt8) : Bool := 97 ≤ c && c ≤ 122 || 48 ≤ c && c ≤ 57 || c == 46 || c == 45
def name (s : ByteArray) : Bool := !s.data.toList.isEmpty && decide (s.size ≤ 64) && s.data.toList.all okByte
def wrapped (n : Int) : Int := (n + 9223372036854775808) % 18446744073709551616 - 9223372036854775808
def counted (d : Dk) : Dk := { d with calls := wrapped (d.calls + 1), after := if d.after = 0 then 0 else d.after - 1 }
def trips (d : Dk) : Bool := d.after == 1
def fail (d : Dk) (k : Int) : Dk :=
  if d.down then d else { d with sure := failed d.sure d.row k, now := failed d.sure d.row k, row := [], down := true, after := 0 }
def laid (d : Dk) (c : Ch) : Dk := { d.counted with row := d.row ++ [c], now := c.done d.now }
def lay (d : Dk) (c : Ch) : Dk × Int := if d.trips then ((d.laid c).fail d.keep, 8) else (d.laid c, 0)
/-- The bytes that a put brings. -/
def more (old s : ByteArray) (at_ : Int) : Int := s.size - (old.size - at_)
def full (d : Dk) (m : Int) : Bool := decide (0 ≤ d.room) && decide (0 < m) && decide (d.room - m < d.now.used)
def putBad (d : Dk) (file : ByteArray) (at_ : Int) (s : ByteArray) : Bool :=
  !name file || decide (at_ < 0) || decide ((d.now.get file).size < at_) || decide (4194304 - at_ < s.size)
def put (d : Dk) (file : ByteArray) (at_ : Int) (s : ByteArray) : Dk × Int :=
  if d.down then (d, 8) else if d.putBad file at_ s then (d, 1) else if d.full (more (d.now.get file) s at_) then (d, 7) else d.lay (.put file s at_)
def there (d : Dk) (file : ByteArray) : Int := if d.down then 8 else if !name file then 1 else if !d.now.has file then 4 else 0
def trim (d : Dk) (file : ByteArray) (n : Int) : Dk × Int :=
  if d.there file ≠ 0 then (d, d.there file) else if n < 0 ∨ (d.now.get file).size < n then (d, 1) else d.lay (.trim file n)
def move (d : Dk) (a b : ByteArray) : Dk × Int :=
  if !d.down && !name b then (d, 1) else if d.there a ≠ 0 then (d, d.there a) else d.lay (.move a b)
def drop (d : Dk) (a : ByteArray) : Dk × Int := if d.there a ≠ 0 then (d, d.there a) else d.lay (.drop a)
def sync (d : Dk) : Dk × Int :=
  if d.down then (d, 8) else if d.trips then (d.counted.fail d.keep, 8) else ({ d.counted with sure := d.now, row := [] }, 0)
def read (d : Dk) (file : ByteArray) : ByteArray × Int := if d.there file ≠ 0 then (ByteArray.empty, d.there file) else (d.now.get file, 0)
def used (d : Dk) : Int := if d.down then 0 else d.now.used
def waits (d : Dk) : Int := if d.down then 0 else d.row.length
def setRoom (d : Dk) (n : Int) : Dk := { d with room := if n < -1 then -1 else n }
def trip (d : Dk) (n k : Int) : Dk := { d with after := if n < 1 then 1 else n, keep := k }
def wake (d : Dk) : Dk := { d with down := false }

/-! ### what stays so -/
theorem ok_new : Dk.new.Ok 0 := ⟨Fm.Small.nil _, Fm.Small.nil _, trivial, rfl, Nat.le_refl _, Nat.le_refl _, by decide, by decide, by decide, by decide, by decide, by decide, by decide, by decide⟩
theorem Ok.mono {d : Dk} {N N' : Nat} (h : d.Ok N) (hn : N ≤ N') : d.Ok N' := { h with len1 := Nat.le_trans h.len1 hn, len2 := Nat.le_trans h.len2 hn }
theorem wrapped_range (n : Int) : -9223372036854775808 ≤ wrapped n ∧ wrapped n ≤ 9223372036854775807 := by unfold wrapped; omega
theorem Ok.counted {d : Dk} {N : Nat} (h : d.Ok N) : d.counted.Ok N :=
  { h with
    after0 := by have := h.after0; show 0 ≤ (if d.after = 0 then 0 else d.after - 1); split <;> omega
    after1 := by have := h.after1; show (if d.after = 0 then 0 else d.after - 1) ≤ _; split <;> omega
    calls0 := (wrapped_range _).1
    calls1 := (wrapped_range _).2 }
theorem Ok.fail {d : Dk} {N : Nat} (h : d.Ok N) (k : Int) : (d.fail k).Ok N := by
  unfold Dk.fail
  split
  · exact h
  · have hl := failed_length d.sure d.row k
    have hs := failed_small (k := k) h.small h.fits
    exact { h with small := hs, nowSmall := hs, fits := trivial, now := rfl, len1 := Nat.le_trans hl h.len2, len2 := Nat.le_trans hl h.len2, after0 := Int.le_refl _, after1 := by show (0 : Int) ≤ _; decide }
theorem Ok.laid {d : Dk} {N : Nat} (h : d.Ok N) {c : Ch} (hc : c.fits d.now) : (d.laid c).Ok (N + 1) := by
  have h' := h.counted
  have hl := Ch.done_length d.now c
  have h1 := h.len1
  have h2 := h.len2
  exact { h' with
    nowSmall := Ch.done_small h.nowSmall hc
    fits := fitsAll_snoc h.fits (h.now ▸ hc)
    now := by show c.done d.now = doneAll d.sure (d.row ++ [c]); rw [doneAll_snoc, ← h.now]
    len1 := by show (c.done d.now).length ≤ N + 1; omega
    len2 := by show d.sure.length + (d.row ++ [c]).length ≤ N + 1; simp; omega }
theorem Ok.lay {d : Dk} {N : Nat} (h : d.Ok N) {c : Ch} (hc : c.fits d.now) : (d.lay c).1.Ok (N + 1) := by
  unfold Dk.lay
  split
  · exact (h.laid hc).fail _
  · exact h.laid hc
theorem name_size {s : ByteArray} (h : name s = true) : s.size ≤ 64 := by
  unfold name at h
  simp only [Bool.and_eq_true, decide_eq_true_eq] at h
  exact h.1.2
theorem put_fits {d : Dk} {file s : ByteArray} {at_ : Int} (h : d.putBad file at_ s = false) : (Ch.put file s at_).fits d.now := by
  unfold putBad at h
  simp only [Bool.or_eq_false_iff, decide_eq_false_iff_not, Bool.not_eq_false'] at h
  obtain ⟨⟨⟨h0, h1⟩, h2⟩, h3⟩ := h
  exact ⟨name_size h0, by omega, by omega, by omega⟩
theorem there_name {d : Dk} {a : ByteArray} (h : ¬ d.there a ≠ 0) : d.down = false ∧ name a = true ∧ d.now.has a = true := by
  unfold there at h
  split at h
  · simp at h
  · split at h
    · simp at h
    · split at h
      · simp at h
      · simp_all
theorem Ok.put {d : Dk} {N : Nat} (h : d.Ok N) (file : ByteArray) (at_ : Int) (s : ByteArray) : (d.put file at_ s).1.Ok (N + 1) := by
  unfold Dk.put
  split
  · exact h.mono (Nat.le_succ _)
  · split
    · exact h.mono (Nat.le_succ _)
    · rename_i hb
      split
      · exact h.mono (Nat.le_succ _)
      · exact h.lay (put_fits (by simpa using hb))
theorem Ok.trim {d : Dk} {N : Nat} (h : d.Ok N) (file : ByteArray) (n : Int) : (d.trim file n).1.Ok (N + 1) := by
  unfold Dk.trim
  split
  · exact h.mono (Nat.le_succ _)
  · split
    · exact h.mono (Nat.le_succ _)
    · rename_i ht hb
      exact h.lay (c := .trim file n) ⟨name_size (there_name ht).2.1, by omega, by omega⟩
theorem Ok.move {d : Dk} {N : Nat} (h : d.Ok N) (a b : ByteArray) : (d.move a b).1.Ok (N + 1) := by
  unfold Dk.move
  split
  · exact h.mono (Nat.le_succ _)
  · split
    · exact h.mono (Nat.le_succ _)
    · rename_i hb ht
      have hh := there_name ht
      refine h.lay (c := .move a b) ⟨name_size hh.2.1, name_size ?_⟩
      simpa [hh.1] using hb
theorem Ok.drop {d : Dk} {N : Nat} (h : d.Ok N) (a : ByteArray) : (d.drop a).1.Ok (N + 1) := by
  unfold Dk.drop
  split
  · exact h.mono (Nat.le_succ _)
  · rename_i ht
    exact h.lay (c := .drop a) (name_size (there_name ht).2.1)
theorem Ok.sync {d : Dk} {N : Nat} (h : d.Ok N) : d.sync.1.Ok N := by
  unfold Dk.sync
  split
  · exact h
  · split
    · exact h.counted.fail _
    · have h' := h.counted
      exact { h' with small := h.nowSmall, fits := trivial, now := rfl, len2 := by show d.now.length + 0 ≤ N; have := h.len1; omega }
theorem Ok.setRoom {d : Dk} {N : Nat} (h : d.Ok N) {n : Int} (hn : n ≤ 9223372036854775807) : (d.setRoom n).Ok N :=
  { h with
    room1 := by show -1 ≤ (if n < -1 then -1 else n); split <;> omega
    room2 := by show (if n < -1 then -1 else n) ≤ _; split <;> omega }
theorem Ok.trip {d : Dk} {N : Nat} (h : d.Ok N) {n k : Int} (hn : n ≤ 9223372036854775807) (hk : -9223372036854775808 ≤ k ∧ k ≤ 9223372036854775807) : (d.trip n k).Ok N :=
  { h with
    after0 := by show 0 ≤ (if n < 1 then 1 else n); split <;> omega
    after1 := by show (if n < 1 then 1 else n) ≤ _; split <;> omega
    keep0 := hk.1, keep1 := hk.2 }
theorem Ok.wake {d : Dk} {N : Nat} (h : d.Ok N) : d.wake.Ok N := { h with }
end Dk
end Go.Proofs.YtjobmlnekpaagaaDoor
