/- Votes and snapshots, opened: what the law is handed reads as these. -/
import Derived.Test.YtjobmlnekpaagaaDoorRow
import Derived.Test.YtjobmlnekpaagaaDoorMD
namespace Go.Proofs.YtjobmlnekpaagaaDoor
open Go Go.RowKit Go.Maps Go.ChangeShapes Go.WideShapes Go.Deep
set_option linter.unusedVariables false
set_option maxRecDepth 100000

def Vt.Wf (x : Vt) : Prop := I64 x.term ∧ I64 x.to
theorem cellsOf_vote : Tryd.prog.cellsOf 38 = 2 := by kernel_rfl
theorem vote_of_trod {H : Type} {enc : TypeId × Value → H} {w : World} {base : Nat} {sp : Nat → Bool} {held : Bool} {fuel : Nat} {cs : List Value} {y : DataW H × List MemPlace}
    (h : DataW.trod enc Tryd.prog w base sp held fuel 38 cs = some y) : ∃ x : Vt, x.Wf ∧ cs = x.cells := by
  obtain ⟨xs, n, _, _, hl, hlen, hf⟩ := DataW.trod_struct Tryd.underlying38 h
  rw [cellsOf_vote] at hl
  obtain ⟨c0, c1, rfl⟩ : ∃ c0 c1, cs = [c0, c1] := by
    match cs, hl with
    | [a0, a1], _ => exact ⟨a0, a1, rfl⟩
  obtain ⟨y0, ey0⟩ : ∃ y, xs[0]? = some y := ⟨_, List.getElem?_eq_getElem (by have : xs.length = 2 := hlen; omega)⟩
  obtain ⟨y1, ey1⟩ : ∃ y, xs[1]? = some y := ⟨_, List.getElem?_eq_getElem (by have : xs.length = 2 := hlen; omega)⟩
  have h0 : DataW.trod enc Tryd.prog w base sp held n 3 (List.take (Tryd.prog.cellsOf 3) (List.drop 0 [c0, c1])) = some y0 := (hf 0 _ rfl).trans ey0
  have h1 : DataW.trod enc Tryd.prog w base sp held n 3 (List.take (Tryd.prog.cellsOf 3) (List.drop 1 [c0, c1])) = some y1 := (hf 1 _ rfl).trans ey1
  simp only [Tryd.cellsInt] at h0 h1
  simp only [List.drop_succ_cons, List.drop_zero, List.take_succ_cons, List.take_zero] at h0 h1
  obtain ⟨z0, e0, _, w0⟩ := DataW.trod_int Tryd.underlying3 h0
  obtain ⟨z1, e1, _, w1⟩ := DataW.trod_int Tryd.underlying3 h1
  refine ⟨⟨z0, z1⟩, ⟨i64_of_wf w0, i64_of_wf w1⟩, ?_⟩
  simp only [List.cons.injEq, and_true] at e0 e1
  subst e0
  subst e1
  rfl
def Sn.Wf (x : Sn) : Prop := I64 x.index ∧ I64 x.term ∧ I64 x.mask ∧ x.text.size ≤ maxLen
theorem cellsOf_snap : Tryd.prog.cellsOf 45 = 4 := by kernel_rfl
theorem snap_of_trod {H : Type} {enc : TypeId × Value → H} {w : World} {base : Nat} {sp : Nat → Bool} {held : Bool} {fuel : Nat} {cs : List Value} {y : DataW H × List MemPlace}
    (h : DataW.trod enc Tryd.prog w base sp held fuel 45 cs = some y) : ∃ x : Sn, x.Wf ∧ cs = x.cells := by
  obtain ⟨xs, n, _, _, hl, hlen, hf⟩ := DataW.trod_struct Tryd.underlying45 h
  rw [cellsOf_snap] at hl
  obtain ⟨c0, c1, c2, c3, rfl⟩ : ∃ c0 c1 c2 c3, cs = [c0, c1, c2, c3] := by
    match cs, hl with
    | [a0, a1, a2, a3], _ => exact ⟨a0, a1, a2, a3, rfl⟩
  obtain ⟨y0, ey0⟩ : ∃ y, xs[0]? = some y := ⟨_, List.getElem?_eq_getElem (by have : xs.length = 4 := hlen; omega)⟩
  obtain ⟨y1, ey1⟩ : ∃ y, xs[1]? = some y := ⟨_, List.getElem?_eq_getElem (by have : xs.length = 4 := hlen; omega)⟩
  obtain ⟨y2, ey2⟩ : ∃ y, xs[2]? = some y := ⟨_, List.getElem?_eq_getElem (by have : xs.length = 4 := hlen; omega)⟩
  obtain ⟨y3, ey3⟩ : ∃ y, xs[3]? = some y := ⟨_, List.getElem?_eq_getElem (by have : xs.length = 4 := hlen; omega)⟩
  have h0 : DataW.trod enc Tryd.prog w base sp held n 3 (List.take (Tryd.prog.cellsOf 3) (List.drop 0 [c0, c1, c2, c3])) = some y0 := (hf 0 _ rfl).trans ey0
  have h1 : DataW.trod enc Tryd.prog w base sp held n 3 (List.take (Tryd.prog.cellsOf 3) (List.drop 1 [c0, c1, c2, c3])) = some y1 := (hf 1 _ rfl).trans ey1
  have h2 : DataW.trod enc Tryd.prog w base sp held n 3 (List.take (Tryd.prog.cellsOf 3) (List.drop 2 [c0, c1, c2, c3])) = some y2 := (hf 2 _ rfl).trans ey2
  have h3 : DataW.trod enc Tryd.prog w base sp held n 9 (List.take (Tryd.prog.cellsOf 9) (List.drop 3 [c0, c1, c2, c3])) = some y3 := (hf 3 _ rfl).trans ey3
  simp only [Tryd.cellsInt, Tryd.cellsStr] at h0 h1 h2 h3
  simp only [List.drop_succ_cons, List.drop_zero, List.take_succ_cons, List.take_zero] at h0 h1 h2 h3
  obtain ⟨z0, e0, _, w0⟩ := DataW.trod_int Tryd.underlying3 h0
  obtain ⟨z1, e1, _, w1⟩ := DataW.trod_int Tryd.underlying3 h1
  obtain ⟨z2, e2, _, w2⟩ := DataW.trod_int Tryd.underlying3 h2
  obtain ⟨z3, e3, _, w3⟩ := DataW.trod_string Tryd.underlying9 h3
  refine ⟨⟨z0, z1, z2, z3⟩, ⟨i64_of_wf w0, i64_of_wf w1, i64_of_wf w2, w3⟩, ?_⟩
  simp only [List.cons.injEq, and_true] at e0 e1 e2 e3
  subst e0
  subst e1
  subst e2
  subst e3
  rfl
end Go.Proofs.YtjobmlnekpaagaaDoor
