/- A slice of savings, opened. -/
import Derived.Test.YtjobmlnekpaagaaDoorOp
import Derived.Test.YtjobmlnekpaagaaDoorFa
namespace Go.Proofs.YtjobmlnekpaagaaDoor
open Go Go.RowKit Go.Maps Go.ChangeShapes Go.WideShapes Go.Deep
set_option linter.unusedVariables false
set_option maxRecDepth 100000

theorem cellsOf_bool : Tryd.prog.cellsOf 4 = 1 := by kernel_rfl
theorem sv_cells_length (x : Sv) : x.cells.length = 7 := rfl
def Sv.Wf (x : Sv) : Prop := x.v.Wf ∧ x.s.Wf
theorem cellsOf_save : Tryd.prog.cellsOf 68 = 7 := by kernel_rfl
theorem save_of_trod {H : Type} {enc : TypeId × Value → H} {w : World} {base : Nat} {sp : Nat → Bool} {held : Bool} {fuel : Nat} {cs : List Value} {y : DataW H × List MemPlace}
    (h : DataW.trod enc Tryd.prog w base sp held fuel 68 cs = some y) : ∃ x : Sv, x.Wf ∧ cs = x.cells := by
  obtain ⟨xs, n, _, _, hl, hlen, hf⟩ := DataW.trod_struct Tryd.underlying68 h
  rw [cellsOf_save] at hl
  obtain ⟨c0, c1, c2, c3, c4, c5, c6, rfl⟩ : ∃ c0 c1 c2 c3 c4 c5 c6, cs = [c0, c1, c2, c3, c4, c5, c6] := by
    match cs, hl with
    | [a0, a1, a2, a3, a4, a5, a6], _ => exact ⟨a0, a1, a2, a3, a4, a5, a6, rfl⟩
  obtain ⟨y0, ey0⟩ : ∃ y, xs[0]? = some y := ⟨_, List.getElem?_eq_getElem (by have : xs.length = 3 := hlen; omega)⟩
  obtain ⟨y1, ey1⟩ : ∃ y, xs[1]? = some y := ⟨_, List.getElem?_eq_getElem (by have : xs.length = 3 := hlen; omega)⟩
  obtain ⟨y2, ey2⟩ : ∃ y, xs[2]? = some y := ⟨_, List.getElem?_eq_getElem (by have : xs.length = 3 := hlen; omega)⟩
  have h0 : DataW.trod enc Tryd.prog w base sp held n 4 (List.take (Tryd.prog.cellsOf 4) (List.drop 0 [c0, c1, c2, c3, c4, c5, c6])) = some y0 := (hf 0 _ rfl).trans ey0
  have h1 : DataW.trod enc Tryd.prog w base sp held n 38 (List.take (Tryd.prog.cellsOf 38) (List.drop 1 [c0, c1, c2, c3, c4, c5, c6])) = some y1 := (hf 1 _ rfl).trans ey1
  have h2 : DataW.trod enc Tryd.prog w base sp held n 45 (List.take (Tryd.prog.cellsOf 45) (List.drop 3 [c0, c1, c2, c3, c4, c5, c6])) = some y2 := (hf 2 _ rfl).trans ey2
  simp only [cellsOf_bool, cellsOf_vote, cellsOf_snap] at h0 h1 h2
  simp only [List.drop_succ_cons, List.drop_zero, List.take_succ_cons, List.take_zero] at h0 h1 h2
  obtain ⟨z0, e0, _⟩ := DataW.trod_bool Tryd.underlying4 h0
  obtain ⟨z1, w1, e1⟩ := vote_of_trod h1
  simp only [Vt.cells] at e1
  obtain ⟨z2, w2, e2⟩ := snap_of_trod h2
  simp only [Sn.cells] at e2
  refine ⟨⟨z0, z1, z2⟩, ⟨w1, w2⟩, ?_⟩
  simp only [List.cons.injEq, and_true] at e0 e1 e2
  subst e0
  obtain ⟨q1_0, q1_1⟩ := e1
  subst q1_0 q1_1
  obtain ⟨q2_0, q2_1, q2_2, q2_3⟩ := e2
  subst q2_0 q2_1 q2_2 q2_3
  rfl
theorem bytesOf_save : Tryd.prog.bytesOf 68 = 64 := by kernel_rfl
theorem saves_of_trod {H : Type} {enc : TypeId × Value → H} {w : World} {v : Value} {d : DataW H} {ps : List MemPlace}
    (h : DataW.Trod enc Tryd.prog w 0 (fun _ => true) true 65 v d ps)
    (hs : ∀ elems spare, d = .slice elems spare → (elems.length + spare.length) * Tryd.prog.bytesOf 68 ≤ reachBytes) {base : Nat} (hv : Value.okWide Tryd.prog w .any base 65 v) :
    ∃ A n c xs, v = .slice A n c ∧ ReadsSvs w A n xs := by
  obtain ⟨A0, n0, c0, rfl⟩ := okWide_slice Tryd.underlying65 hv
  obtain ⟨fuel, hf⟩ := h
  have ev : (Value.slice A0 n0 c0).cells.toList = [.slice A0 n0 c0] := rfl
  rw [ev] at hf
  rcases open_slice Tryd.underlying65 hf with ⟨hc, hd⟩ | ⟨a, len, cap, m, n, D, Pl, hc, hb, hl, hm, hmm, hd, hx⟩
  · simp only [List.cons.injEq, Value.slice.injEq, and_true] at hc
    obtain ⟨rfl, rfl, rfl⟩ := hc
    exact ⟨none, 0, 0, [], rfl, rfl, by omega, by simp, Or.inl rfl⟩
  · simp only [List.cons.injEq, Value.slice.injEq, and_true] at hc
    obtain ⟨rfl, rfl, rfl⟩ := hc
    simp only [if_true] at hmm
    subst hmm
    simp only [Prod.mk.injEq] at hd
    have h56 := hs _ _ hd.1
    rw [bytesOf_save] at h56
    simp only [reachBytes, List.length_map, List.length_range] at h56
    rw [cellsOf_save] at hx
    haveI : Inhabited Sv := ⟨⟨false, ⟨0, 0⟩, ⟨0, 0, 0, .empty⟩⟩⟩
    obtain ⟨X, hX⟩ := choose_lt (α := Sv) (n := n0) (p := fun i x => x.s.text.size ≤ 9223372036854775807 ∧ ∀ j u, x.cells[j]? = some u → w.cell? ((a.add (i * 7)).add j) = some u) (fun i hi => by
      obtain ⟨cs', h1, h2⟩ := hx i (by omega)
      obtain ⟨x, hw0, rfl⟩ := save_of_trod h2
      have hw : x.s.text.size ≤ 9223372036854775807 := hw0.2.2.2.2
      obtain ⟨_, hlen, hcell⟩ := World.cells?_some h1
      exact ⟨x, hw, fun j u hj => by rw [hcell j (by have := (List.getElem?_eq_some_iff.1 hj).1; simpa [sv_cells_length] using this), hj]⟩)
    refine ⟨some a, n0, _, (List.range n0).map X, rfl, by simp, by omega, ?_, ?_⟩
    · intro x hx'
      simp only [List.mem_map, List.mem_range] at hx'
      obtain ⟨i, hi, rfl⟩ := hx'
      exact (hX i hi).1
    · rcases Nat.eq_zero_or_pos n0 with h0 | hpos
      · exact Or.inl h0
      · right
        have hc0 := (hX 0 hpos).2 0 _ rfl
        obtain ⟨g, off, sp⟩ := a
        have hsp : sp = none ∧ g < w.heap.size := by
          simp only [Nat.zero_mul, Addr.add, if_true] at hc0
          unfold World.cell? at hc0
          split at hc0
          · rename_i c t fr hh
            cases sp with
            | none => exact ⟨rfl, (Array.getElem?_eq_some_iff.1 hh).1⟩
            | some z => simp at hc0
          · cases hc0
        obtain ⟨rfl, hg⟩ := hsp
        refine ⟨g, off, rfl, hg, ?_⟩
        intro i x hi j u hj
        simp only [List.getElem?_map, Option.map_eq_some_iff] at hi
        obtain ⟨i', hi', rfl⟩ := hi
        obtain ⟨hlt, rfl⟩ := List.getElem?_eq_some_iff.1 hi'
        simp only [List.getElem_range, List.length_range] at hlt hj ⊢
        have := (hX i hlt).2 j u hj
        have e : ((⟨g, off, none⟩ : Addr).add (i * 7)).add j = ⟨g, off + i * 7 + j, none⟩ := by
          simp only [Addr.add]
          split <;> split <;> simp_all
        rw [e] at this
        exact this
end Go.Proofs.YtjobmlnekpaagaaDoor
