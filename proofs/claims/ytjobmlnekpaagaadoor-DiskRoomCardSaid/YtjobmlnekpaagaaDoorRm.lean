/- Plain laws: files never take more than their bound. -/
import Derived.Test.YtjobmlnekpaagaaDoorMC
namespace Go.Proofs.YtjobmlnekpaagaaDoor
open Go Go.RowKit Go.Maps
set_option linter.unusedVariables false

namespace Fm
theorem used_ins (k v : ByteArray) : ∀ m : Fm, used (ins k v m) = used m + v.size
  | [] => by simp [ins, used]
  | y :: r => by
    simp only [ins]
    split
    · simp only [used]; omega
    · simp only [used, used_ins k v r]; omega
theorem del_cons (y : ByteArray × ByteArray) (r : Fm) (k : ByteArray) : del (y :: r) k = if y.1 = k then del r k else y :: del r k := by
  unfold del
  rw [List.filter_cons, beq_data]
  by_cases h : y.1 = k
  · simp [h]
  · simp [h]
theorem used_del0 (k : ByteArray) : ∀ m : Fm, used (del m k) ≤ used m
  | [] => Int.le_refl _
  | y :: r => by
    rw [del_cons]
    have := used_del0 k r
    split
    · simp only [used]; omega
    · simp only [used]; omega
theorem get_cons (y : ByteArray × ByteArray) (r : Fm) (k : ByteArray) : get (y :: r) k = if y.1 = k then y.2 else get r k := by
  unfold get find
  rw [List.find?_cons, beq_data]
  by_cases h : y.1 = k
  · simp [h]
  · simp [h]
theorem used_del (k : ByteArray) : ∀ m : Fm, used (del m k) + (get m k).size ≤ used m
  | [] => by simp [del, used, get, find]
  | y :: r => by
    rw [del_cons, get_cons]
    have h0 := used_del0 k r
    have h1 := used_del k r
    split
    · simp only [used]; omega
    · simp only [used]; omega
theorem used_put (m : Fm) (k v : ByteArray) : used (put m k v) + (get m k).size ≤ used m + v.size := by
  unfold put
  rw [used_ins]
  have := used_del k m
  omega
end Fm
def max0 (n : Int) : Int := if 0 < n then n else 0
/-- The bytes that a change may bring. -/
def Ch.grows (m : Fm) : Ch → Int
  | .put n s a => max0 (Dk.more (m.get n) s a)
  | _ => 0
theorem done_used {m : Fm} {c : Ch} (h : c.fits m) : (c.done m).used ≤ m.used + c.grows m := by
  cases c with
  | put n s a =>
    obtain ⟨_, h0, h1, h2⟩ := h
    have hp := Fm.used_put m n (Ch.laid (m.get n) s a)
    have hs := Ch.size_laid (old := m.get n) (s := s) h0 h1
    show (m.put n (Ch.laid (m.get n) s a)).used ≤ m.used + max0 (Dk.more (m.get n) s a)
    unfold max0 Dk.more
    split at hs <;> split <;> omega
  | trim n k =>
    obtain ⟨_, h0, h1⟩ := h
    have hp := Fm.used_put m n ((m.get n).extract 0 k.toNat)
    rw [Ch.size_extract] at hp
    show (m.put n ((m.get n).extract 0 k.toNat)).used ≤ m.used + 0
    omega
  | move a b =>
    have h1 := Fm.used_del a m
    have h2 := Fm.used_put (m.del a) b (m.get a)
    show ((m.del a).put b (m.get a)).used ≤ m.used + 0
    omega
  | drop a =>
    have h1 := Fm.used_del0 a m
    show (m.del a).used ≤ m.used + 0
    omega
/-- In each state from some files on there is room. -/
def fitsRoom (n : Int) : Fm → List Ch → Prop
  | m, [] => m.used ≤ n
  | m, c :: r => m.used + c.grows m ≤ n ∧ m.used ≤ n ∧ fitsRoom n (c.done m) r
theorem fitsRoom_first {n : Int} : ∀ {m : Fm} {row : List Ch}, fitsRoom n m row → m.used ≤ n
  | _, [], h => h
  | _, _ :: _, h => h.2.1
theorem fitsRoom_all {n : Int} : ∀ {m : Fm} {row : List Ch}, fitsRoom n m row → (doneAll m row).used ≤ n
  | _, [], h => h
  | m, c :: r, h => fitsRoom_all (m := c.done m) (row := r) h.2.2
theorem fitsRoom_snoc {n : Int} {c : Ch} : ∀ {m : Fm} {row : List Ch}, fitsRoom n m row → (doneAll m row).used + c.grows (doneAll m row) ≤ n → (c.done (doneAll m row)).used ≤ n → fitsRoom n m (row ++ [c])
  | _, [], h, h1, h2 => ⟨h1, h, h2⟩
  | m, c' :: r, h, h1, h2 => ⟨h.1, h.2.1, fitsRoom_snoc (m := c'.done m) (row := r) h.2.2 h1 h2⟩
theorem torn_used {m : Fm} {f s : ByteArray} {a k n : Int} (h : (Ch.put f s a).fits m) (h1 : ¬ (Ch.put f s a).cost ≤ k) (h2 : 0 < k) (hr : m.used + (Ch.put f s a).grows m ≤ n) : ((Ch.put f (s.extract 0 (k.toNat - 1)) a).done m).used ≤ n := by
  have hd := done_used (fits_torn h h1 h2)
  have hg : (Ch.put f (s.extract 0 (k.toNat - 1)) a).grows m ≤ (Ch.put f s a).grows m := by
    show max0 (Dk.more (m.get f) (s.extract 0 (k.toNat - 1)) a) ≤ max0 (Dk.more (m.get f) s a)
    unfold max0 Dk.more
    rw [Ch.size_extract]
    split <;> split <;> omega
  omega
theorem failed_used {n : Int} : ∀ {m : Fm} {row : List Ch} {k : Int}, fitsAll m row → fitsRoom n m row → (failed m row k).used ≤ n
  | _, [], _, _, h => h
  | m, c :: r, k, hf, h => by
    by_cases hc : c.cost ≤ k
    · rw [failed_le hc]
      exact failed_used hf.2 h.2.2
    · by_cases h0 : 0 < k
      · cases c with
        | put f s a =>
          rw [failed_torn hc h0]
          exact torn_used hf.1 hc h0 h.1
        | trim f j => unfold failed; rw [if_neg hc]; exact h.2.1
        | move f j => unfold failed; rw [if_neg hc]; exact h.2.1
        | drop f => unfold failed; rw [if_neg hc]; exact h.2.1
      · rw [failed_none hc h0]
        exact h.2.1
/-- A disk that keeps to its bound. -/
structure RoomOk (d : Dk) (n : Int) : Prop where
  room : d.room = n
  fits : fitsRoom n d.sure d.row
namespace RoomOk
variable {d : Dk} {n : Int} {N : Nat}
theorem now (h : RoomOk d n) (ok : d.Ok N) : d.now.used ≤ n := by rw [ok.now]; exact fitsRoom_all h.fits
theorem counted (h : RoomOk d n) : RoomOk d.counted n := ⟨h.room, h.fits⟩
theorem fail (h : RoomOk d n) (ok : d.Ok N) (k : Int) : RoomOk (d.fail k) n := by
  unfold Dk.fail
  split
  · exact h
  · exact ⟨h.room, failed_used ok.fits h.fits⟩
theorem laid (h : RoomOk d n) (ok : d.Ok N) {c : Ch} (hc : c.fits d.now) (hg : d.now.used + c.grows d.now ≤ n) : RoomOk (d.laid c) n := by
  refine ⟨h.room, ?_⟩
  have hd := done_used hc
  rw [ok.now] at hg hd
  show fitsRoom n d.sure (d.row ++ [c])
  exact fitsRoom_snoc h.fits hg (by omega)
theorem lay (h : RoomOk d n) (ok : d.Ok N) {c : Ch} (hc : c.fits d.now) (hg : d.now.used + c.grows d.now ≤ n) : RoomOk (d.lay c).1 n := by
  unfold Dk.lay
  split
  · exact (h.laid ok hc hg).fail (ok.laid hc) _
  · exact h.laid ok hc hg
theorem does (h : RoomOk d n) (h0 : 0 ≤ n) (ok : d.Ok N) {x : DAct} (hk : x.kind ≠ 8) : RoomOk (d.does x).1 n := by
  have hn := h.now ok
  unfold Dk.does
  split
  · unfold Dk.put
    split
    · exact h
    · split
      · exact h
      · rename_i hb
        split
        · exact h
        · rename_i hf
          refine h.lay ok (Dk.put_fits (by simpa using hb)) ?_
          show d.now.used + max0 (Dk.more (d.now.get x.name) x.s x.n) ≤ n
          unfold Dk.full at hf
          rw [h.room] at hf
          simp at hf
          unfold max0
          split
          · rename_i hm
            have := hf h0 hm
            omega
          · omega
  · split
    · unfold Dk.trim
      split
      · exact h
      · split
        · exact h
        · rename_i ht hb
          refine h.lay ok (c := .trim x.name x.n) ⟨Dk.name_size (Dk.there_name ht).2.1, by omega, by omega⟩ ?_
          show d.now.used + 0 ≤ n
          omega
    · split
      · unfold Dk.move
        split
        · exact h
        · split
          · exact h
          · rename_i hb ht
            have hh := Dk.there_name ht
            refine h.lay ok (c := .move x.name x.s) ⟨Dk.name_size hh.2.1, Dk.name_size (by simpa [hh.1] using hb)⟩ ?_
            show d.now.used + 0 ≤ n
            omega
      · split
        · unfold Dk.drop
          split
          · exact h
          · rename_i ht
            refine h.lay ok (c := .drop x.name) (Dk.name_size (Dk.there_name ht).2.1) ?_
            show d.now.used + 0 ≤ n
            omega
        · split
          · unfold Dk.sync
            split
            · exact h
            · split
              · exact h.counted.fail ok.counted _
              · exact ⟨h.room, hn⟩
          · split
            · exact h.fail ok _
            · split
              · exact ⟨h.room, h.fits⟩
              · split
                · exact ⟨h.room, h.fits⟩
                · exact h
end RoomOk
theorem lay_two (d : Dk) (c : Ch) : (d.lay c).2 = 8 ∨ (d.lay c).2 = 0 := by
  unfold Dk.lay
  split
  · exact .inl rfl
  · exact .inr rfl
theorem there_four (d : Dk) (f : ByteArray) : d.there f ≠ 7 := by
  unfold Dk.there
  split
  · decide
  · split
    · decide
    · split <;> decide
/-- No room: a put, and nothing is changed. -/
theorem does_seven {d : Dk} {x : DAct} (h : (d.does x).2 = 7) : x.kind = 0 ∧ (d.does x).1 = d := by
  have hl : ∀ c, (d.lay c).2 ≠ 7 := fun c e => by rcases lay_two d c with h | h <;> rw [h] at e <;> exact absurd e (by decide)
  unfold Dk.does at h ⊢
  split
  · rename_i h0
    rw [if_pos h0] at h
    refine ⟨h0, ?_⟩
    unfold Dk.put at h ⊢
    split
    · rfl
    · rename_i h1
      rw [if_neg h1] at h
      split
      · rfl
      · rename_i h2
        rw [if_neg h2] at h
        split
        · rfl
        · rename_i h3
          rw [if_neg h3] at h
          exact absurd h (hl _)
  · rename_i h0
    rw [if_neg h0] at h
    exfalso
    split at h
    · unfold Dk.trim at h
      split at h
      · exact there_four _ _ h
      · split at h
        · simp at h
        · exact hl _ h
    · split at h
      · unfold Dk.move at h
        split at h
        · simp at h
        · split at h
          · exact there_four _ _ h
          · exact hl _ h
      · split at h
        · unfold Dk.drop at h
          split at h
          · exact there_four _ _ h
          · exact hl _ h
        · split at h
          · unfold Dk.sync at h
            split at h
            · simp at h
            · split at h
              · simp at h
              · simp at h
          · split at h
            · simp at h
            · split at h
              · simp at h
              · split at h
                · simp at h
                · split at h
                  · simp at h
                  · simp at h
theorem room_new {n : Int} (h : 0 ≤ n) : RoomOk (Dk.new.setRoom n) n := by
  refine ⟨?_, ?_⟩
  · show (if n < -1 then -1 else n) = n
    rw [if_neg (by omega)]
  · show (0 : Int) ≤ n
    exact h
end Go.Proofs.YtjobmlnekpaagaaDoor
