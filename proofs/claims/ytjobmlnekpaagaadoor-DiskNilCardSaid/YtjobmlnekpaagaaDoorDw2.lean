/- What a change does, walked. -/
import Derived.Test.YtjobmlnekpaagaaDoorDw1
import Derived.StillTailTactics
import Derived.Deep.RegionLaw
namespace Go.Proofs.YtjobmlnekpaagaaDoor
open Go Go.RowKit Go.Maps

/-- A region that draws: all but the last operations read; the rest behind them. -/
theorem still_tail {P : Program} {id : Nat} {Q : Exit → Act → World → Prop} {a : Act} {w : World} {l : List Oper} (n : Nat) (hm : P.follows .mixedOrders = true) (hB : Region.lexTailB .any l.toArray n = true)
    (h : wpStill P l.toArray w.drew (fun a' => wpList P l.toArray Q (l.drop n) a' w.drew) (l.take n) a) : (Code.region id l.toArray true).wp P Q a w := wp_region_still_tail n hm hB h
theorem as_put_put (v : Value) (w : World) : (Instr.typeAssert (.iface 93 v) 99 93 true).run Tryd.prog w = .ok (.tuple #[v, .bool true]) w := by kernel_rfl
theorem as_trim_put (v : Value) (w : World) : (Instr.typeAssert (.iface 141 v) 99 93 true).run Tryd.prog w = .ok (.tuple #[.agg #[.string ⟨#[]⟩, .string ⟨#[]⟩, .int .i64 0], .bool false]) w := by kernel_rfl
theorem as_trim_trim (v : Value) (w : World) : (Instr.typeAssert (.iface 141 v) 99 141 true).run Tryd.prog w = .ok (.tuple #[v, .bool true]) w := by kernel_rfl
theorem as_move_put (v : Value) (w : World) : (Instr.typeAssert (.iface 143 v) 99 93 true).run Tryd.prog w = .ok (.tuple #[.agg #[.string ⟨#[]⟩, .string ⟨#[]⟩, .int .i64 0], .bool false]) w := by kernel_rfl
theorem as_move_trim (v : Value) (w : World) : (Instr.typeAssert (.iface 143 v) 99 141 true).run Tryd.prog w = .ok (.tuple #[.agg #[.string ⟨#[]⟩, .int .i64 0], .bool false]) w := by kernel_rfl
theorem as_move_move (v : Value) (w : World) : (Instr.typeAssert (.iface 143 v) 99 143 true).run Tryd.prog w = .ok (.tuple #[v, .bool true]) w := by kernel_rfl
theorem as_drop_put (v : Value) (w : World) : (Instr.typeAssert (.iface 145 v) 99 93 true).run Tryd.prog w = .ok (.tuple #[.agg #[.string ⟨#[]⟩, .string ⟨#[]⟩, .int .i64 0], .bool false]) w := by kernel_rfl
theorem as_drop_trim (v : Value) (w : World) : (Instr.typeAssert (.iface 145 v) 99 141 true).run Tryd.prog w = .ok (.tuple #[.agg #[.string ⟨#[]⟩, .int .i64 0], .bool false]) w := by kernel_rfl
theorem as_drop_move (v : Value) (w : World) : (Instr.typeAssert (.iface 145 v) 99 143 true).run Tryd.prog w = .ok (.tuple #[.agg #[.string ⟨#[]⟩, .string ⟨#[]⟩], .bool false]) w := by kernel_rfl
theorem as_drop_drop (v : Value) (w : World) : (Instr.typeAssert (.iface 145 v) 99 145 true).run Tryd.prog w = .ok (.tuple #[v, .bool true]) w := by kernel_rfl
set_option maxRecDepth 100000 in
set_option maxHeartbeats 800000 in
theorem done_put {w : World} {mb : Nat} {m : Fm} (hm : MapAt w mb m) (hn : m.length < maxLen) (hs : m.Small 4194304) {f s : ByteArray} {at_ : Int} (hf : (Ch.put f s at_).fits m) :
    Calls Tryd.prog 58 #[.map (some mb), (Ch.put f s at_).enc] w fun e w' => e = .returned (.tuple #[]) ∧ MapAt w' mb ((Ch.put f s at_).done m) ∧ Kept (fun k => k = mb) w w' := by
  obtain ⟨h0, h1, h2, h3⟩ := hf
  have hg := hs.get f
  have hss : s.size ≤ 4194304 := by omega
  unfold Ch.enc
  have ta := as_put_put
  go_enter Tryd.func58, Tryd.ntmps58
  go_wp2_with (at_lookup; refine look_str _ rfl _ _ rfl mb m rfl (hm.alloc _) f rfl (by unfold maxLen; omega) ?_)
  all_goals
    refine still_tail 12 (by kernel_rfl) (by kernel_rfl) ?_
    simp only [List.take_succ_cons, List.take_zero, List.drop_succ_cons, List.drop_zero]
    iterate 9 still_step
    (refine wpStill_step (fun K hK => ?_); go_simp; rw [if_neg (by omega)]; refine ⟨rfl, hK _ ?_⟩; clear hK K)
    still_step
    (refine wpStill_step (fun K hK => ?_); go_simp; rw [if_neg (by omega)]; refine ⟨rfl, hK _ ?_⟩; clear hK K)
    refine wpStill_nil ?_
    have hl : (Ch.laid (m.get f) s at_).size ≤ 4194304 := by
      have := Ch.size_laid (s := s) h1 h2
      split at this <;> omega
    refine store_str _ rfl _ _ _ rfl mb m rfl (hm.alloc _).drew hn f (Ch.laid (m.get f) s at_) rfl ?hv (by unfold maxLen; omega) (by unfold maxLen; omega) ?_
    case hv =>
      refine congrArg Value.string ?_
      unfold Ch.laid
      first | (rw [if_pos (by omega)]) | (rw [if_neg (by omega)]; rfl)
    intro w1 hm1 hk1
    go_wp2
    go_end0
    refine ⟨rfl, hm1, ?_⟩
    exact (((Kept.refl _ w).alloc _).drew).step hk1 (fun _ _ h => h)

set_option maxRecDepth 100000 in
set_option maxHeartbeats 800000 in
theorem done_trim {w : World} {mb : Nat} {m : Fm} (hm : MapAt w mb m) (hn : m.length < maxLen) (hs : m.Small 4194304) {f : ByteArray} {k : Int} (hf : (Ch.trim f k).fits m) :
    Calls Tryd.prog 58 #[.map (some mb), (Ch.trim f k).enc] w fun e w' => e = .returned (.tuple #[]) ∧ MapAt w' mb ((Ch.trim f k).done m) ∧ Kept (fun j => j = mb) w w' := by
  obtain ⟨h0, h1, h2⟩ := hf
  have hg := hs.get f
  have hlk := look_run (k := f) (hm.alloc (.cells #[.string f, .int .i64 k] 141)).drew (by unfold maxLen; omega)
  unfold Ch.enc
  have ta1 := as_trim_put
  have ta2 := as_trim_trim
  go_enter Tryd.func58, Tryd.ntmps58
  go_wp2
  refine still_tail 10 (by kernel_rfl) (by kernel_rfl) ?_
  simp only [List.take_succ_cons, List.take_zero, List.drop_succ_cons, List.drop_zero]
  repeat still_step
  refine wpStill_nil ?_
  have hl : ((m.get f).extract 0 k.toNat).size ≤ 4194304 := by rw [Ch.size_extract]; omega
  refine store_str _ rfl _ _ _ rfl mb m rfl (hm.alloc _).drew hn f ((m.get f).extract 0 k.toNat) rfl rfl (by unfold maxLen; omega) (by unfold maxLen; omega) ?_
  intro w1 hm1 hk1
  go_wp2
  go_end0
  refine ⟨rfl, hm1, ?_⟩
  exact (((Kept.refl _ w).alloc _).drew).step hk1 (fun _ _ h => h)
set_option maxRecDepth 100000 in
set_option maxHeartbeats 800000 in
theorem done_move {w : World} {mb : Nat} {m : Fm} (hm : MapAt w mb m) (hn : m.length < maxLen) (hs : m.Small 4194304) {f g : ByteArray} (hf : (Ch.move f g).fits m) :
    Calls Tryd.prog 58 #[.map (some mb), (Ch.move f g).enc] w fun e w' => e = .returned (.tuple #[]) ∧ MapAt w' mb ((Ch.move f g).done m) ∧ Kept (fun j => j = mb) w w' := by
  obtain ⟨h0, h1⟩ := hf
  have hg := hs.get f
  unfold Ch.enc
  have ta1 := as_move_put
  have ta2 := as_move_trim
  have ta3 := as_move_move
  have hlt := hm.lt
  have hn' : (m.del f).length < maxLen := Nat.lt_of_le_of_lt (Fm.length_del m f) hn
  go_enter Tryd.func58, Tryd.ntmps58
  go_wp2_with (first | (at_lookup; refine look_str _ rfl _ _ rfl mb m rfl (hm.alloc _) f rfl (by unfold maxLen; omega) ?_) | (at_delete; refine del_str _ rfl _ _ rfl mb m rfl (hm.alloc _) f rfl (by unfold maxLen; omega) ?_; intro w1 hm1 hk1; have c1 : w1.cell? ⟨w.heap.size, 1, none⟩ = some (.string g) := (hk1.cell (p := ⟨w.heap.size, 1, none⟩) (by simp) (by simp; omega)).trans (cell_of_block (block_new w _) 1)) | (at_mapUpdate; refine store_str _ rfl _ _ _ rfl mb (m.del f) rfl hm1 hn' g (m.get f) rfl rfl (by unfold maxLen; omega) (by unfold maxLen; omega) ?_; intro w2 hm2 hk2))
  go_end0
  refine ⟨rfl, hm2, ?_⟩
  exact (((Kept.refl _ w).alloc _).step hk1 (fun _ _ h => h)).step hk2 (fun _ _ h => h)
set_option maxRecDepth 100000 in
set_option maxHeartbeats 800000 in
theorem done_drop {w : World} {mb : Nat} {m : Fm} (hm : MapAt w mb m) {f : ByteArray} (hf : (Ch.drop f).fits m) :
    Calls Tryd.prog 58 #[.map (some mb), (Ch.drop f).enc] w fun e w' => e = .returned (.tuple #[]) ∧ MapAt w' mb ((Ch.drop f).done m) ∧ Kept (fun j => j = mb) w w' := by
  have hf' : f.size ≤ 64 := hf
  clear hf
  unfold Ch.enc
  have ta1 := as_drop_put
  have ta2 := as_drop_trim
  have ta3 := as_drop_move
  have ta4 := as_drop_drop
  go_enter Tryd.func58, Tryd.ntmps58
  go_wp2_with (at_delete; refine del_str _ rfl _ _ rfl mb m rfl (hm.alloc _) f rfl (by unfold maxLen; omega) ?_; intro w1 hm1 hk1)
  go_end0
  refine ⟨rfl, hm1, ?_⟩
  exact ((Kept.refl _ w).alloc _).step hk1 (fun _ _ h => h)
theorem done_any {w : World} {mb : Nat} {m : Fm} (hm : MapAt w mb m) (hn : m.length < maxLen) (hs : m.Small 4194304) {c : Ch} (hf : c.fits m) :
    Calls Tryd.prog 58 #[.map (some mb), c.enc] w fun e w' => e = .returned (.tuple #[]) ∧ MapAt w' mb (c.done m) ∧ Kept (fun k => k = mb) w w' := by
  cases c with
  | put f s at_ => exact done_put hm hn hs hf
  | trim f k => exact done_trim hm hn hs hf
  | move f g => exact done_move hm hn hs hf
  | drop f => exact done_drop hm hf
end Go.Proofs.YtjobmlnekpaagaaDoor
