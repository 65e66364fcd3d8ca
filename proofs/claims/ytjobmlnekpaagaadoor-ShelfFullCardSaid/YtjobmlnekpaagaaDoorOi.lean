/- A slice of whole numbers, opened. -/
import Derived.Test.YtjobmlnekpaagaaDoorOs
import Derived.Test.YtjobmlnekpaagaaDoorFu
namespace Go.Proofs.YtjobmlnekpaagaaDoor
open Go Go.RowKit Go.Maps Go.ChangeShapes Go.WideShapes Go.Deep
set_option linter.unusedVariables false
set_option maxRecDepth 100000

theorem bytesOf_int : Tryd.prog.bytesOf 3 = 8 := by kernel_rfl
theorem ints_of_trod {H : Type} {enc : TypeId × Value → H} {w : World} {v : Value} {d : DataW H} {ps : List MemPlace}
    (h : DataW.Trod enc Tryd.prog w 0 (fun _ => true) true 74 v d ps)
    (hs : ∀ elems spare, d = .slice elems spare → (elems.length + spare.length) * Tryd.prog.bytesOf 3 ≤ reachBytes) {base : Nat} (hv : Value.okWide Tryd.prog w .any base 74 v) :
    ∃ A n c xs, v = .slice A n c ∧ ReadsInts w A n xs := by
  obtain ⟨A0, n0, c0, rfl⟩ := okWide_slice Tryd.underlying74 hv
  obtain ⟨fuel, hf⟩ := h
  have ev : (Value.slice A0 n0 c0).cells.toList = [.slice A0 n0 c0] := rfl
  rw [ev] at hf
  rcases open_slice Tryd.underlying74 hf with ⟨hc, hd⟩ | ⟨a, len, cap, m, n, D, Pl, hc, hb, hl, hm, hmm, hd, hx⟩
  · simp only [List.cons.injEq, Value.slice.injEq, and_true] at hc
    obtain ⟨rfl, rfl, rfl⟩ := hc
    exact ⟨none, 0, 0, [], rfl, rfl, by omega, by simp, Or.inl rfl⟩
  · simp only [List.cons.injEq, Value.slice.injEq, and_true] at hc
    obtain ⟨rfl, rfl, rfl⟩ := hc
    simp only [if_true] at hmm
    subst hmm
    simp only [Prod.mk.injEq] at hd
    have h56 := hs _ _ hd.1
    rw [bytesOf_int] at h56
    simp only [reachBytes, List.length_map, List.length_range] at h56
    rw [Tryd.cellsInt] at hx
    haveI : Inhabited Int := ⟨0⟩
    obtain ⟨X, hX⟩ := choose_lt (α := Int) (n := n0) (p := fun i x => I64 x ∧ ∀ j u, [Value.int .i64 x][j]? = some u → w.cell? ((a.add (i * 1)).add j) = some u) (fun i hi => by
      obtain ⟨cs', h1, h2⟩ := hx i (by omega)
      obtain ⟨x, rfl, _, hw0⟩ := DataW.trod_int Tryd.underlying3 h2
      have hw : I64 x := i64_of_wf hw0
      obtain ⟨_, hlen, hcell⟩ := World.cells?_some h1
      exact ⟨x, hw, fun j u hj => by rw [hcell j (by have := (List.getElem?_eq_some_iff.1 hj).1; simpa using this), hj]⟩)
    refine ⟨some a, n0, _, (List.range n0).map X, rfl, by simp, by omega, ?_, ?_⟩
    · intro x hx'
      simp only [List.mem_map, List.mem_range] at hx'
      obtain ⟨i, hi, rfl⟩ := hx'
      exact (hX i hi).1
    · rcases Nat.eq_zero_or_pos n0 with h0 | hpos
      · exact Or.inl h0
      · right
        have hc0 := (hX 0 hpos).2 0 _ rfl
        obtain ⟨g, off, sp⟩ := a
        have hsp : sp = none ∧ g < w.heap.size := by
          simp only [Nat.zero_mul, Addr.add, if_true] at hc0
          unfold World.cell? at hc0
          split at hc0
          · rename_i c t fr hh
            cases sp with
            | none => exact ⟨rfl, (Array.getElem?_eq_some_iff.1 hh).1⟩
            | some z => simp at hc0
          · cases hc0
        obtain ⟨rfl, hg⟩ := hsp
        refine ⟨g, off, rfl, hg, ?_⟩
        intro i x hi j u hj
        simp only [List.getElem?_map, Option.map_eq_some_iff] at hi
        obtain ⟨i', hi', rfl⟩ := hi
        obtain ⟨hlt, rfl⟩ := List.getElem?_eq_some_iff.1 hi'
        simp only [List.getElem_range, List.length_range] at hlt hj ⊢
        have := (hX i hlt).2 j u hj
        have e : ((⟨g, off, none⟩ : Addr).add (i * 1)).add j = ⟨g, off + i * 1 + j, none⟩ := by
          simp only [Addr.add]
          split <;> split <;> simp_all
        rw [e] at this
        exact this
end Go.Proofs.YtjobmlnekpaagaaDoor
