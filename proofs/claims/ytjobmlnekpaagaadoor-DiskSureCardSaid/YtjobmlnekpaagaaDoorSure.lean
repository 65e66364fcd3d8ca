/- What was made sure is there: the plain law. -/
import Derived.Test.YtjobmlnekpaagaaDoorAk5
namespace Go.Proofs.YtjobmlnekpaagaaDoor
open Go Go.RowKit Go.Maps
set_option linter.unusedVariables false

def nSure : ByteArray := ⟨#[115, 117, 114, 101]⟩
structure Keeps (d : Dk) (s : ByteArray) : Prop where
  sure : d.sure.find nSure = some (nSure, s)
  now : d.now.find nSure = some (nSure, s)
  row : ∀ c ∈ d.row, ¬ c.hits nSure
theorem hits_torn {n s : ByteArray} {at_ : Int} {x : ByteArray} (t : ByteArray) (h : ¬ (Ch.put n s at_).hits x) : ¬ (Ch.put n t at_).hits x := h
theorem failed_find {x : ByteArray} : ∀ {row : List Ch} {m : Fm} {k : Int}, (∀ c ∈ row, ¬ c.hits x) → (failed m row k).find x = m.find x
  | [], _, _, _ => rfl
  | c :: r, m, k, h => by
    have hc := h c (by simp)
    unfold failed
    split
    · rw [failed_find fun c' hc' => h c' (by simp [hc']), Ch.done_find hc]
    · split
      · split
        · exact Ch.done_find (c := .put _ _ _) hc
        · rfl
      · rfl
namespace Keeps
variable {d : Dk} {s : ByteArray}
theorem counted (h : Keeps d s) : Keeps d.counted s := ⟨h.sure, h.now, h.row⟩
theorem fail (h : Keeps d s) (k : Int) : Keeps (d.fail k) s := by
  unfold Dk.fail
  split
  · exact h
  · have := failed_find (m := d.sure) (k := k) h.row
    exact ⟨this.trans h.sure, this.trans h.sure, fun c hc => by cases hc⟩
theorem laid (h : Keeps d s) {c : Ch} (hc : ¬ c.hits nSure) : Keeps (d.laid c) s :=
  ⟨h.sure, (Ch.done_find hc).trans h.now, fun c' hc' => by
    rcases List.mem_append.1 hc' with e | e
    · exact h.row c' e
    · rw [List.mem_singleton.1 e]; exact hc⟩
theorem lay (h : Keeps d s) {c : Ch} (hc : ¬ c.hits nSure) : Keeps (d.lay c).1 s := by
  unfold Dk.lay
  split
  · exact (h.laid hc).fail _
  · exact h.laid hc
theorem does (h : Keeps d s) {x : DAct} (hn : x.name ≠ nSure) (hm : ¬ (x.kind = 2 ∧ x.s = nSure)) : Keeps (d.does x).1 s := by
  unfold Dk.does
  split
  · unfold Dk.put
    split
    · exact h
    · split
      · exact h
      · split
        · exact h
        · exact h.lay fun e => hn e.symm
  · split
    · unfold Dk.trim
      split
      · exact h
      · split
        · exact h
        · exact h.lay fun e => hn e.symm
    · split
      · rename_i h2
        unfold Dk.move
        split
        · exact h
        · split
          · exact h
          · refine h.lay fun e => ?_
            rcases e with e | e
            · exact hn e.symm
            · exact hm ⟨h2, e.symm⟩
      · split
        · unfold Dk.drop
          split
          · exact h
          · exact h.lay fun e => hn e.symm
        · split
          · unfold Dk.sync
            split
            · exact h
            · split
              · exact h.counted.fail _
              · exact ⟨h.now, h.now, fun c hc => by cases hc⟩
          · split
            · exact h.fail _
            · split
              · exact ⟨h.sure, h.now, h.row⟩
              · split
                · exact ⟨h.sure, h.now, h.row⟩
                · split
                  · exact ⟨h.sure, h.now, h.row⟩
                  · exact h
theorem wake (h : Keeps d s) : Keeps d.wake s := ⟨h.sure, h.now, h.row⟩
theorem read (h : Keeps d s) (hd : d.down = false) : d.read nSure = (s, 0) := by
  have hn : Dk.name nSure = true := by decide +kernel
  have hh : d.now.has nSure = true := by rw [Fm.has_find, h.now]; rfl
  have ht : d.there nSure = 0 := by unfold Dk.there; rw [hd, hn, hh]; rfl
  unfold Dk.read
  rw [ht]
  unfold Fm.get
  rw [h.now]
  rfl
end Keeps
/-- The begin: the text is put and made sure. -/
theorem sure_put (s : ByteArray) (hs : s.size ≤ 3000) : (Dk.new.put nSure 0 s).2 = 0 ∧ ((Dk.new.put nSure 0 s).1.sync).2 = 0 ∧ Keeps ((Dk.new.put nSure 0 s).1.sync).1 s := by
  have hn : Dk.name nSure = true := by decide +kernel
  have hp : Dk.new.put nSure 0 s = (Dk.new.laid (.put nSure s 0), 0) := by
    unfold Dk.put Dk.putBad Dk.full Dk.lay
    rw [hn]
    simp [Dk.new, Dk.trips, Fm.get, Fm.find]
    omega
  rw [hp]
  have hl : Ch.laid ByteArray.empty s 0 = s := by
    refine Fm.data_inj ?_
    unfold Ch.laid
    rw [if_neg (by simp)]
    simp
  have hy : (Dk.new.laid (.put nSure s 0)).sync = ({ (Dk.new.laid (.put nSure s 0)).counted with sure := (Dk.new.laid (.put nSure s 0)).now, row := [] }, 0) := by
    unfold Dk.sync
    simp [Dk.laid, Dk.new, Dk.counted, Dk.trips]
  refine ⟨rfl, by rw [hy], ?_⟩
  rw [hy]
  have hf : ((Ch.put nSure s 0).done []).find nSure = some (nSure, s) := by
    show (Fm.put _ _ _).find _ = _
    rw [Fm.find_put_same]
    have : Fm.get [] nSure = ByteArray.empty := rfl
    rw [this, hl]
  exact ⟨hf, hf, fun c hc => by cases hc⟩
end Go.Proofs.YtjobmlnekpaagaaDoor
