/- A slice of acts, opened: what the law is handed reads as acts. -/
import Derived.Test.YtjobmlnekpaagaaDoorMC
import Derived.Deep.Slices
import Derived.ChangeSame
import Derived.SizedLaws
import Derived.ChangeMaps5
namespace Go.Proofs.YtjobmlnekpaagaaDoor
open Go Go.RowKit Go.Maps Go.ChangeShapes Go.WideShapes Go.Deep
set_option linter.unusedVariables false
set_option maxRecDepth 100000

theorem Tryd.cellsAct : Tryd.prog.cellsOf 31 = 5 := by kernel_rfl
theorem Tryd.cellsStr : Tryd.prog.cellsOf 9 = 1 := by kernel_rfl
theorem Tryd.cellsInt : Tryd.prog.cellsOf 3 = 1 := by kernel_rfl
theorem Tryd.bytesAct : Tryd.prog.bytesOf 31 = 56 := by kernel_rfl
theorem i64_of_wf {n : Int} (h : (Lit.int .i64 n).wf = true) : I64 n := by
  have : -9223372036854775808 ≤ n ∧ n ≤ 9223372036854775807 := by simpa [Lit.wf, IntKind.min, IntKind.max, IntKind.signed, IntKind.bits] using h
  exact ⟨by omega, by omega⟩

/-- One act, opened. -/
theorem act_of_trod {H : Type} {enc : TypeId × Value → H} {w : World} {base : Nat} {sp : Nat → Bool} {held : Bool} {fuel : Nat} {cs : List Value} {y : DataW H × List MemPlace}
    (h : DataW.trod enc Tryd.prog w base sp held fuel 31 cs = some y) : ∃ x : DAct, x.Wf ∧ cs = x.cells := by
  obtain ⟨xs, n, _, _, hl, hlen, hf⟩ := DataW.trod_struct Tryd.underlying31 h
  rw [Tryd.cellsAct] at hl
  obtain ⟨c0, c1, c2, c3, c4, rfl⟩ : ∃ c0 c1 c2 c3 c4, cs = [c0, c1, c2, c3, c4] := by
    match cs, hl with
    | [a, b, c, d, e], _ => exact ⟨a, b, c, d, e, rfl⟩
  obtain ⟨y0, ey0⟩ : ∃ y, xs[0]? = some y := ⟨_, List.getElem?_eq_getElem (by have : xs.length = 5 := hlen; omega)⟩
  obtain ⟨y1, ey1⟩ : ∃ y, xs[1]? = some y := ⟨_, List.getElem?_eq_getElem (by have : xs.length = 5 := hlen; omega)⟩
  obtain ⟨y2, ey2⟩ : ∃ y, xs[2]? = some y := ⟨_, List.getElem?_eq_getElem (by have : xs.length = 5 := hlen; omega)⟩
  obtain ⟨y3, ey3⟩ : ∃ y, xs[3]? = some y := ⟨_, List.getElem?_eq_getElem (by have : xs.length = 5 := hlen; omega)⟩
  obtain ⟨y4, ey4⟩ : ∃ y, xs[4]? = some y := ⟨_, List.getElem?_eq_getElem (by have : xs.length = 5 := hlen; omega)⟩
  have h0 : DataW.trod enc Tryd.prog w base sp held n 3 (List.take (Tryd.prog.cellsOf 3) (List.drop 0 [c0, c1, c2, c3, c4])) = some y0 := (hf 0 _ rfl).trans ey0
  have h1 : DataW.trod enc Tryd.prog w base sp held n 9 (List.take (Tryd.prog.cellsOf 9) (List.drop 1 [c0, c1, c2, c3, c4])) = some y1 := (hf 1 _ rfl).trans ey1
  have h2 : DataW.trod enc Tryd.prog w base sp held n 3 (List.take (Tryd.prog.cellsOf 3) (List.drop 2 [c0, c1, c2, c3, c4])) = some y2 := (hf 2 _ rfl).trans ey2
  have h3 : DataW.trod enc Tryd.prog w base sp held n 3 (List.take (Tryd.prog.cellsOf 3) (List.drop 3 [c0, c1, c2, c3, c4])) = some y3 := (hf 3 _ rfl).trans ey3
  have h4 : DataW.trod enc Tryd.prog w base sp held n 9 (List.take (Tryd.prog.cellsOf 9) (List.drop 4 [c0, c1, c2, c3, c4])) = some y4 := (hf 4 _ rfl).trans ey4
  simp only [Tryd.cellsStr, Tryd.cellsInt] at h0 h1 h2 h3 h4
  simp only [List.drop_succ_cons, List.drop_zero, List.take_succ_cons, List.take_zero] at h0 h1 h2 h3 h4
  obtain ⟨k, e0, _, w0⟩ := DataW.trod_int Tryd.underlying3 h0
  obtain ⟨nm, e1, _, w1⟩ := DataW.trod_string Tryd.underlying9 h1
  obtain ⟨n2, e2, _, w2⟩ := DataW.trod_int Tryd.underlying3 h2
  obtain ⟨n3, e3, _, w3⟩ := DataW.trod_int Tryd.underlying3 h3
  obtain ⟨s, e4, _, w4⟩ := DataW.trod_string Tryd.underlying9 h4
  refine ⟨⟨k, nm, n2, n3, s⟩, ⟨i64_of_wf w0, w1, i64_of_wf w2, i64_of_wf w3, w4⟩, ?_⟩
  simp only [List.cons.injEq, and_true] at e0 e1 e2 e3 e4
  subst e0 e1 e2 e3 e4
  rfl

/-- A slice of acts, opened. -/
theorem acts_of_trod {H : Type} {enc : TypeId × Value → H} {w : World} {v : Value} {d : DataW H} {ps : List MemPlace}
    (h : DataW.Trod enc Tryd.prog w 0 (fun _ => true) true 22 v d ps)
    (hs : ∀ elems spare, d = .slice elems spare → (elems.length + spare.length) * Tryd.prog.bytesOf 31 ≤ reachBytes) {base : Nat} (hv : Value.okWide Tryd.prog w .any base 22 v) :
    ∃ A n c xs, v = .slice A n c ∧ ReadsActs w A n xs := by
  obtain ⟨A0, n0, c0, rfl⟩ := okWide_slice Tryd.underlying22 hv
  obtain ⟨fuel, hf⟩ := h
  have ev : (Value.slice A0 n0 c0).cells.toList = [.slice A0 n0 c0] := rfl
  rw [ev] at hf
  rcases open_slice Tryd.underlying22 hf with ⟨hc, hd⟩ | ⟨a, len, cap, m, n, D, Pl, hc, hb, hl, hm, hmm, hd, hx⟩
  · simp only [List.cons.injEq, Value.slice.injEq, and_true] at hc
    obtain ⟨rfl, rfl, rfl⟩ := hc
    exact ⟨none, 0, 0, [], rfl, rfl, by omega, by simp, Or.inl rfl⟩
  · simp only [List.cons.injEq, Value.slice.injEq, and_true] at hc
    obtain ⟨rfl, rfl, rfl⟩ := hc
    simp only [if_true] at hmm
    subst hmm
    simp only [Prod.mk.injEq] at hd
    have h56 := hs _ _ hd.1
    rw [Tryd.bytesAct] at h56
    simp only [reachBytes, List.length_map, List.length_range] at h56
    rw [Tryd.cellsAct] at hx
    haveI : Inhabited DAct := ⟨⟨0, .empty, 0, 0, .empty⟩⟩
    obtain ⟨X, hX⟩ := choose_lt (α := DAct) (n := n0) (p := fun i x => x.Wf ∧ ∀ j u, x.cells[j]? = some u → w.cell? ((a.add (i * 5)).add j) = some u) (fun i hi => by
      obtain ⟨cs', h1, h2⟩ := hx i (by omega)
      obtain ⟨x, hw, rfl⟩ := act_of_trod h2
      obtain ⟨_, hlen, hcell⟩ := World.cells?_some h1
      exact ⟨x, hw, fun j u hj => by rw [hcell j (by have := (List.getElem?_eq_some_iff.1 hj).1; simpa [cells_length] using this), hj]⟩)
    refine ⟨some a, n0, _, (List.range n0).map X, rfl, by simp, by omega, ?_, ?_⟩
    · intro x hx'
      simp only [List.mem_map, List.mem_range] at hx'
      obtain ⟨i, hi, rfl⟩ := hx'
      exact (hX i hi).1
    · rcases Nat.eq_zero_or_pos n0 with h0 | hpos
      · exact Or.inl h0
      · right
        have hc0 := (hX 0 hpos).2 0 _ rfl
        obtain ⟨g, off, sp⟩ := a
        have hsp : sp = none ∧ g < w.heap.size := by
          simp only [Nat.zero_mul, Addr.add, if_true] at hc0
          unfold World.cell? at hc0
          split at hc0
          · rename_i c t fr hh
            cases sp with
            | none => exact ⟨rfl, (Array.getElem?_eq_some_iff.1 hh).1⟩
            | some z => simp at hc0
          · cases hc0
        obtain ⟨rfl, hg⟩ := hsp
        refine ⟨g, off, rfl, hg, ?_⟩
        intro i x hi j u hj
        simp only [List.getElem?_map, Option.map_eq_some_iff] at hi
        obtain ⟨i', hi', rfl⟩ := hi
        obtain ⟨hlt, rfl⟩ := List.getElem?_eq_some_iff.1 hi'
        simp only [List.getElem_range, List.length_range] at hlt hj ⊢
        have := (hX i hlt).2 j u hj
        have e : ((⟨g, off, none⟩ : Addr).add (i * 5)).add j = ⟨g, off + i * 5 + j, none⟩ := by
          simp only [Addr.add]
          split <;> split <;> simp_all
        rw [e] at this
        exact this
end Go.Proofs.YtjobmlnekpaagaaDoor
