/- What a vote and a snapshot are written as, or that they may not be. -/
import Derived.Test.YtjobmlnekpaagaaDoorMF
namespace Go.Proofs.YtjobmlnekpaagaaDoor
open Go Go.RowKit Go.Maps
set_option linter.unusedVariables false

theorem Kept.blk {w w' : World} (h : Kept (fun _ => False) w w') {g : Nat} {o : Obj} (hb : w.heap[g]? = some o) : w'.heap[g]? = some o := (h.block g (Array.getElem?_eq_some_iff.1 hb).1 (fun f => f)).trans hb
theorem snap_cells {W : World} {g : Nat} {a c m : Int} {x : ByteArray} {t : TypeId} (h : W.heap[g]? = some (.cells #[.int .i64 a, .int .i64 c, .int .i64 m, .string x] t (0, 0))) : W.cell? ⟨g, 0, none⟩ = some (.int .i64 a) ∧ W.cell? ⟨g, 1, none⟩ = some (.int .i64 c) ∧ W.cell? ⟨g, 2, none⟩ = some (.int .i64 m) ∧ W.cell? ⟨g, 3, none⟩ = some (.string x) := ⟨by rw [cell_of_block h]; rfl, by rw [cell_of_block h]; rfl, by rw [cell_of_block h]; rfl, by rw [cell_of_block h]; rfl⟩
def Vt.out (v : Vt) : ByteArray × Int := if v.may then (v.text, 0) else (.empty, 1)
def Sn.out (s : Sn) : ByteArray × Int := if s.may then (s.said, 0) else (.empty, 1)
theorem vote_all (w : World) (v : Vt) : Calls Tryd.prog 27 #[.agg v.cells.toArray] w fun e w' => e = .returned (.tuple #[.string v.out.1, .int .i64 v.out.2]) ∧ Kept (fun _ => False) w w' := by
  unfold Vt.out
  cases h : v.may with
  | true => exact vote_good w v h
  | false => exact vote_bad w v h
theorem snap_all (w : World) (v : Sn) : Calls Tryd.prog 29 #[.agg v.cells.toArray] w fun e w' => e = .returned (.tuple #[.string v.out.1, .int .i64 v.out.2]) ∧ Kept (fun _ => False) w w' := by
  unfold Sn.out
  cases h : v.may with
  | true => exact snap_good w v h
  | false => exact snap_bad w v h
end Go.Proofs.YtjobmlnekpaagaaDoor
