/- Plain laws: what a disk's files say behind a saving. -/
import Derived.Test.YtjobmlnekpaagaaDoorSe
namespace Go.Proofs.YtjobmlnekpaagaaDoor
open Go Go.RowKit Go.Maps
set_option linter.unusedVariables false

/-- What files say: a vote, a snapshot, whether there is one. -/
def FilesSay (m : Fm) (v : Vt) (s : Sn) (is : Bool) : Prop := ∃ ov os, HoldsF m nVote ov ∧ VoteOk ov v ∧ HoldsF m nSnap os ∧ SnapOk os s is
def NoNew (m : Fm) : Prop := m.find nVoteNew = none ∧ m.find nSnapNew = none
theorem ne1 : nVote ≠ nVoteNew := by decide +kernel
theorem ne2 : nSnap ≠ nVoteNew := by decide +kernel
theorem ne3 : nSnap ≠ nVote := by decide +kernel
theorem ne4 : nVote ≠ nSnapNew := by decide +kernel
theorem ne5 : nSnap ≠ nSnapNew := by decide +kernel
theorem ne6 : nSnapNew ≠ nVoteNew := by decide +kernel
theorem FilesSay.loads {d : Dk} (hd : d.down = false) (hn : d.now = d.sure) {v : Vt} {s : Sn} {is : Bool} (h : FilesSay d.sure v s is) : d.loadVote = (v, 0) ∧ d.loadSnap = (s, is, 0) := by
  obtain ⟨ov, os, h1, h2, h3, h4⟩ := h
  rw [← hn] at h1 h3
  exact ⟨loadVote_ok hd h1 h2, loadSnap_ok hd h3 h4⟩
theorem FilesSay.new : FilesSay Dk.new.sure ⟨0, -1⟩ ⟨0, 0, 0, .empty⟩ false := ⟨none, none, rfl, .inl ⟨rfl, rfl⟩, rfl, .inl ⟨rfl, rfl, rfl⟩⟩
theorem FilesSay.same {nf : ByteArray} {m m' : Fm} {v : Vt} {s : Sn} {is : Bool} (h : FilesSay m v s is) (hs : Same nf m m') (h1 : nVote ≠ nf) (h2 : nSnap ≠ nf) : FilesSay m' v s is := by
  obtain ⟨ov, os, a, b, c, d⟩ := h
  refine ⟨ov, os, ?_, b, ?_, d⟩
  · unfold HoldsF; rw [hs _ h1]; exact a
  · unfold HoldsF; rw [hs _ h2]; exact c
theorem FilesSay.vote {m m' : Fm} {v x : Vt} {s : Sn} {is : Bool} (h : FilesSay m v s is) (hx : x.may = true) (hs : Saved nVote nVoteNew (packed x.text) m m') : FilesSay m' x s is := by
  obtain ⟨ov, os, a, b, c, d⟩ := h
  refine ⟨some x.text, os, hs.file, .inr ⟨rfl, hx⟩, ?_, d⟩
  unfold HoldsF
  rw [hs.rest _ ne3 ne2]
  exact c
theorem FilesSay.snap {m m' : Fm} {v : Vt} {s x : Sn} {is : Bool} (h : FilesSay m v s is) (hx : x.may = true) (hs : Saved nSnap nSnapNew (packed x.said) m m') : FilesSay m' v x true := by
  obtain ⟨ov, os, a, b, c, d⟩ := h
  refine ⟨ov, some x.said, ?_, b, hs.file, .inr ⟨rfl, hx, rfl⟩⟩
  unfold HoldsF
  rw [hs.rest _ (fun e => ne3 e.symm) ne4]
  exact a
def Sv.may (x : Sv) : Bool := if x.snap then x.s.may else x.v.may
def Sv.nv (x : Sv) (v : Vt) : Vt := if x.snap then v else x.v
def Sv.ns (x : Sv) (s : Sn) : Sn := if x.snap then x.s else s
def Sv.ni (x : Sv) (is : Bool) : Bool := if x.snap then true else is
theorem saveAct_not {d : Dk} {x : Sv} (h : x.may = false) : d.saveAct x = (d, 1) := by
  unfold Sv.may at h
  unfold Dk.saveAct Dk.saveSnap Dk.saveVote
  cases hx : x.snap with
  | true => rw [hx, if_pos rfl] at h; rw [if_pos rfl, h]; rfl
  | false => rw [hx, if_neg (by decide)] at h; rw [if_neg (by decide), h]; rfl
theorem saveAct_falls {d : Dk} {x : Sv} {v : Vt} {s : Sn} {is : Bool} (h : Calm d) (hf : FilesSay d.sure v s is) (hr : d.room = -1) (hm : x.may = true) :
    ((d.saveAct x).2 = 0 ∧ Calm (d.saveAct x).1 ∧ FilesSay (d.saveAct x).1.sure (x.nv v) (x.ns s) (x.ni is) ∧ (d.saveAct x).1.room = -1) ∨
    ((d.saveAct x).2 = 8 ∧ (d.saveAct x).1.down = true ∧ Calm (d.saveAct x).1.wake ∧ (FilesSay (d.saveAct x).1.sure v s is ∨ FilesSay (d.saveAct x).1.sure (x.nv v) (x.ns s) (x.ni is)) ∧ (d.saveAct x).1.room = -1) := by
  unfold Sv.may at hm
  unfold Dk.saveAct Dk.saveSnap Dk.saveVote Sv.nv Sv.ns Sv.ni
  cases hx : x.snap with
  | true =>
    rw [hx, if_pos rfl] at hm
    simp only [if_true, hm]
    rcases save_falls (f := nSnap) (t := x.s.said) h hr name_snap (by rw [snap_new]; exact name_snap_new) (Sn.pack_size hm) with ⟨e, g⟩ | ⟨e, _, g⟩
    · rw [snap_new] at g
      exact .inl ⟨e, g.calm, hf.snap hm g.files, g.room.trans hr⟩
    · rw [snap_new] at g
      refine .inr ⟨e, g.down, ⟨rfl, g.row, g.now⟩, ?_, g.room.trans hr⟩
      rcases g.files with g1 | g1
      · exact .inl (hf.same g1 ne4 ne5)
      · exact .inr (hf.snap hm g1)
  | false =>
    rw [hx, if_neg (by decide)] at hm
    simp only [Bool.false_eq_true, if_false, hm, if_true]
    rcases save_falls (f := nVote) (t := x.v.text) h hr name_vote (by rw [vote_new]; exact name_vote_new) (Vt.pack_size hm) with ⟨e, g⟩ | ⟨e, _, g⟩
    · rw [vote_new] at g
      exact .inl ⟨e, g.calm, hf.vote hm g.files, g.room.trans hr⟩
    · rw [vote_new] at g
      refine .inr ⟨e, g.down, ⟨rfl, g.row, g.now⟩, ?_, g.room.trans hr⟩
      rcases g.files with g1 | g1
      · exact .inl (hf.same g1 ne1 ne2)
      · exact .inr (hf.vote hm g1)
theorem saveAct_full {d : Dk} {x : Sv} {v : Vt} {s : Sn} {is : Bool} (h : Calm d) (hf : FilesSay d.sure v s is) (hn : NoNew d.sure) (h0 : d.after = 0) (hm : x.may = true) :
    ((d.saveAct x).2 = 0 ∧ Calm (d.saveAct x).1 ∧ FilesSay (d.saveAct x).1.sure (x.nv v) (x.ns s) (x.ni is) ∧ NoNew (d.saveAct x).1.sure ∧ (d.saveAct x).1.after = 0) ∨
    ((d.saveAct x).2 = 7 ∧ 0 ≤ d.room ∧ (d.saveAct x).1 = d) := by
  unfold Sv.may at hm
  unfold Dk.saveAct Dk.saveSnap Dk.saveVote Sv.nv Sv.ns Sv.ni
  cases hx : x.snap with
  | true =>
    rw [hx, if_pos rfl] at hm
    simp only [if_true, hm]
    rcases save_full (f := nSnap) (t := x.s.said) h (by rw [snap_new]; exact hn.2) h0 name_snap (by rw [snap_new]; exact name_snap_new) (Sn.pack_size hm) with ⟨e, g⟩ | g
    · rw [snap_new] at g
      exact .inl ⟨e, g.calm, hf.snap hm g.files, ⟨(g.files.rest _ (fun e => ne2 e.symm) (fun e => ne6 e.symm)).trans hn.1, g.files.gone⟩, g.after h0⟩
    · exact .inr g
  | false =>
    rw [hx, if_neg (by decide)] at hm
    simp only [Bool.false_eq_true, if_false, hm, if_true]
    rcases save_full (f := nVote) (t := x.v.text) h (by rw [vote_new]; exact hn.1) h0 name_vote (by rw [vote_new]; exact name_vote_new) (Vt.pack_size hm) with ⟨e, g⟩ | g
    · rw [vote_new] at g
      exact .inl ⟨e, g.calm, hf.vote hm g.files, ⟨g.files.gone, (g.files.rest _ (fun e => ne4 e.symm) ne6).trans hn.2⟩, g.after h0⟩
    · exact .inr g
theorem wake_calm {d : Dk} (h : Calm d) : d.wake = d := by
  unfold Dk.wake
  have := h.up
  cases d
  simp only at this
  subst this
  rfl
theorem fail_wake {d : Dk} (h : Calm d) (k : Int) : Calm (d.fail k).wake ∧ (d.fail k).wake.sure = d.sure := by
  unfold Dk.fail
  rw [if_neg (by rw [h.up]; decide), h.row]
  exact ⟨⟨rfl, rfl, rfl⟩, rfl⟩

/-! ### blocks -/
def bV (v : Vt) : Obj := .cells v.cells.toArray 38 (0, 0)
def bS (s : Sn) : Obj := .cells s.cells.toArray 45 (0, 0)
def bX (x : Sv) : Obj := .cells x.cells.toArray 68 (0, 0)
theorem Sep.setV {w0 w : World} {b : Nat} {d : Dk} {g : Nat} {v : Vt} {L : List (Nat × Obj)} (h : Sep w0 w b d ((g, bV v) :: L)) (hL : ∀ x ∈ L, x.1 ≠ g) (v' : Vt) :
    Sep w0 ((w.setCell ⟨g, 0, none⟩ (.int .i64 v'.term)).setCell ⟨g, 1, none⟩ (.int .i64 v'.to)) b d ((g, bV v') :: L) :=
  (Sep.set (h.set hL 0 _) hL 1 _)
theorem Sep.setS {w0 w : World} {b : Nat} {d : Dk} {g : Nat} {s : Sn} {L : List (Nat × Obj)} (h : Sep w0 w b d ((g, bS s) :: L)) (hL : ∀ x ∈ L, x.1 ≠ g) (s' : Sn) :
    Sep w0 ((((w.setCell ⟨g, 0, none⟩ (.int .i64 s'.index)).setCell ⟨g, 1, none⟩ (.int .i64 s'.term)).setCell ⟨g, 2, none⟩ (.int .i64 s'.mask)).setCell ⟨g, 3, none⟩ (.string s'.text)) b d ((g, bS s') :: L) :=
  (Sep.set (Sep.set (Sep.set (h.set hL 0 _) hL 1 _) hL 2 _) hL 3 _)
end Go.Proofs.YtjobmlnekpaagaaDoor
