/- Memory: which blocks may have turned; a disk in memory. -/
import Derived.Test.YtjobmlnekpaagaaDoorProg
import Derived.Test.YtjobmlnekpaagaaDoorDk
import Derived.WalkKit
import Derived.WalkLawsBesides
import Derived.Lib.Hide
import Derived.Maps.OwnSet
import Derived.StringKeys
import Derived.Maps.StringElems
namespace Go.Proofs.YtjobmlnekpaagaaDoor
open Go Go.RowKit Go.Maps

/-- Of what was there nothing has turned but the blocks of F. -/
structure Kept (F : Nat → Prop) (w w' : World) : Prop where
  os : w'.os = w.os
  tape : w'.tape = w.tape
  output : w'.output = w.output
  size : w.heap.size ≤ w'.heap.size
  block : ∀ k, k < w.heap.size → ¬ F k → w'.heap[k]? = w.heap[k]?

namespace Kept
variable {F G : Nat → Prop} {w w' w'' : World}
theorem refl (F : Nat → Prop) (w : World) : Kept F w w := ⟨rfl, rfl, rfl, Nat.le_refl _, fun _ _ _ => rfl⟩
theorem trans (h : Kept F w w') (h' : Kept F w' w'') : Kept F w w'' :=
  ⟨h'.os.trans h.os, h'.tape.trans h.tape, h'.output.trans h.output, Nat.le_trans h.size h'.size, fun k hk hF => (h'.block k (Nat.lt_of_lt_of_le hk h.size) hF).trans (h.block k hk hF)⟩
theorem mono (h : Kept F w w') (hFG : ∀ k, k < w.heap.size → F k → G k) : Kept G w w' := ⟨h.os, h.tape, h.output, h.size, fun k hk hG => h.block k hk fun hf => hG (hFG k hk hf)⟩
/-- A second step that may turn what the first may, and what is new. -/
theorem step (h : Kept F w w') (h' : Kept G w' w'') (hG : ∀ k, k < w.heap.size → G k → F k) : Kept F w w'' :=
  ⟨h'.os.trans h.os, h'.tape.trans h.tape, h'.output.trans h.output, Nat.le_trans h.size h'.size, fun k hk hF => (h'.block k (Nat.lt_of_lt_of_le hk h.size) fun hg => hF (hG k hk hg)).trans (h.block k hk hF)⟩
theorem drew (h : Kept F w w') : Kept F w w'.drew := ⟨h.os, h.tape, h.output, h.size, h.block⟩
theorem drewN (h : Kept F w w') (n : Nat) : Kept F w (w'.drewN n) := ⟨h.os, h.tape, h.output, h.size, h.block⟩
theorem alloc (h : Kept F w w') (o : Obj) : Kept F w (w'.alloc o) :=
  ⟨h.os, h.tape, h.output, by have := h.size; simp; omega, fun k hk hF => by rw [Below.heap_alloc _ _ _ (Nat.lt_of_lt_of_le hk h.size)]; exact h.block k hk hF⟩
theorem setCell (h : Kept F w w') {p : Addr} (hp : p.block < w.heap.size → F p.block) (u : Value) : Kept F w (w'.setCell p u) :=
  ⟨h.os, h.tape, h.output, by have := h.size; simp [World.setCell]; omega, fun k hk hF => by
    rw [Below.heap_setCell _ _ _ _ (fun e => hF (by subst e; exact hp hk))]; exact h.block k hk hF⟩
theorem grown {row : Option Nat} (h : Kept F w w') (hg : w'.grownBy w'' row) (hr : ∀ k, row = some k → k < w.heap.size → F k) : Kept F w w'' :=
  ⟨hg.os.trans h.os, hg.tape.trans h.tape, hg.output.trans h.output, Nat.le_trans h.size hg.size, fun k hk hF =>
    (hg.block k (Nat.lt_of_lt_of_le hk h.size) fun e => hF (hr k e.symm hk)).trans (h.block k hk hF)⟩
theorem below (h : Kept F w w') {B : Nat} (hB : ∀ k, k < B → k < w.heap.size ∧ ¬ F k) : Below B w w' := ⟨h.os, h.tape, h.output, h.size, fun k hk => h.block k (hB k hk).1 (hB k hk).2⟩
theorem of_below {B : Nat} (h : Below B w w') : Kept (fun k => B ≤ k) w w' := ⟨h.os, h.tape, h.output, h.size, fun k _ hF => h.block k (by omega)⟩
theorem of_below_all (h : Below w.heap.size w w') (F : Nat → Prop) : Kept F w w' := ⟨h.os, h.tape, h.output, h.size, fun k hk _ => h.block k hk⟩
theorem grownBy_none (h : Kept (fun _ => False) w w') : w.grownBy w' none := ⟨h.os, h.tape, h.output, h.size, fun k hk _ => h.block k hk (fun f => f)⟩
end Kept

/-! ### changes as values -/
def Ch.enc : Ch → Value
  | .put n s at_ => .iface 93 (.agg #[.string n, .string s, .int .i64 at_])
  | .trim n k => .iface 141 (.agg #[.string n, .int .i64 k])
  | .move a b => .iface 143 (.agg #[.string a, .string b])
  | .drop a => .iface 145 (.agg #[.string a])

theorem uT_map : Tryd.prog.underlying 87 = some (.map 9 9) := by kernel_rfl
theorem uT_str : Tryd.prog.underlying 9 = some .string := by kernel_rfl
theorem klaw : Keyed Tryd.prog 9 := string_keyed uT_str

/-- The reading of a text in a map. -/
noncomputable abbrev sR : Value → Option (DataW Unit × List MemPlace) := plainElem Tryd.prog 9
/-- A map of names and texts lies at a block. -/
def MapAt (w : World) (b : Nat) (m : Fm) : Prop := w.ownsMap Tryd.prog 9 sR b m.length (Fm.toD m)
theorem MapAt.tight {w : World} {b n : Nat} {m : Fm} (h : w.ownsMap Tryd.prog 9 sR b n (Fm.toD m)) : MapAt w b m := by
  obtain ⟨es, clock, hb, F, hs, hD⟩ := h
  refine ⟨es, clock, hb, F, ?_, hD⟩
  unfold Fm.toD at hD
  injection hD with hD
  have h1 := congrArg List.length hD
  rw [length_sorted] at h1
  simp at h1
  omega

/-- A disk lies at b; its map of what is sure at s, of what is now at m, its row in v. -/
structure DiskAt (w : World) (b s m : Nat) (v : Value) (d : Dk) : Prop where
  cells : w.heap[b]? = some (.cells #[.map (some s), .map (some m), v, .int .i64 d.room, .int .i64 d.calls, .int .i64 d.after, .int .i64 d.keep, .bool d.down] 90 (0, 0))
  sure : MapAt w s d.sure
  now : MapAt w m d.now
  row : w.ownsRow 0 99 1 v d.row.length (d.row.map Ch.enc)
  ne : s ≠ m
/-- Its blocks. -/
def Feet (b s m : Nat) (v : Value) (k : Nat) : Prop := k = b ∨ k = s ∨ k = m ∨ v.ownBlock = some k
/-- A disk lies at b, in blocks of F. -/
def Disk (w : World) (F : Nat → Prop) (b : Nat) (d : Dk) : Prop := ∃ s m v, DiskAt w b s m v d ∧ (∀ k, Feet b s m v k → F k)

theorem cell_of_block {w : World} {b : Nat} {cs : Array Value} {t : TypeId} {fz : Nat × Nat} (h : w.heap[b]? = some (.cells cs t fz)) (i : Nat) : w.cell? ⟨b, i, none⟩ = cs[i]? := by
  unfold World.cell?
  rw [h]
  rfl
theorem frozen_of_block {w : World} {b : Nat} {cs : Array Value} {t : TypeId} (h : w.heap[b]? = some (.cells cs t (0, 0))) (i : Nat) : w.frozen? ⟨b, i, none⟩ = false := by
  unfold World.frozen?
  rw [h]
  simp
theorem MapAt.kept {w w' : World} {b : Nat} {m : Fm} {F : Nat → Prop} (h : MapAt w b m) (hk : Kept F w w') (hF : ¬ F b) : MapAt w' b m := by
  have hlt := World.ownsMap.lt h
  obtain ⟨es, clock, hb, r⟩ := h
  exact ⟨es, clock, (hk.block b hlt hF).trans hb, r⟩
theorem MapAt.alloc {w : World} {b : Nat} {m : Fm} (h : MapAt w b m) (o : Obj) : MapAt (w.alloc o) b m := World.ownsMap.alloc h o
theorem MapAt.drew {w : World} {b : Nat} {m : Fm} (h : MapAt w b m) : MapAt w.drew b m := h
theorem row_kept {w w' : World} {base : Nat} {e : TypeId} {size n : Nat} {v : Value} {xs : List Value} {F : Nat → Prop} (h : w.ownsRow base e size v n xs) (hk : Kept F w w') (hF : ∀ k, v.ownBlock = some k → ¬ F k) : w'.ownsRow base e size v n xs := by
  obtain ⟨h1, h2⟩ := h
  refine ⟨h1, ?_⟩
  rcases h2 with h2 | ⟨g, cap, cur, hv, hg, hh, r⟩
  · exact Or.inl h2
  · have hlt : g < w.heap.size := (Array.getElem?_eq_some_iff.1 hh).1
    refine Or.inr ⟨g, cap, cur, hv, hg, ?_, r⟩
    rw [hk.block g hlt (hF g (by rw [hv]; rfl))]
    exact hh
theorem DiskAt.lt {w : World} {b s m : Nat} {v : Value} {d : Dk} (h : DiskAt w b s m v d) : b < w.heap.size := (Array.getElem?_eq_some_iff.1 h.cells).1
theorem DiskAt.kept {w w' : World} {b s m : Nat} {v : Value} {d : Dk} {F : Nat → Prop} (h : DiskAt w b s m v d) (hk : Kept F w w') (hF : ∀ k, Feet b s m v k → ¬ F k) : DiskAt w' b s m v d :=
  ⟨(hk.block b (Array.getElem?_eq_some_iff.1 h.cells).1 (hF b (.inl rfl))).trans h.cells, h.sure.kept hk (hF s (.inr (.inl rfl))), h.now.kept hk (hF m (.inr (.inr (.inl rfl)))), row_kept h.row hk fun k hk' => hF k (.inr (.inr (.inr hk'))), h.ne⟩
theorem Disk.kept {w w' : World} {F G : Nat → Prop} {b : Nat} {d : Dk} (h : Disk w F b d) (hk : Kept G w w') (hFG : ∀ k, F k → ¬ G k) : Disk w' F b d := by
  obtain ⟨s, m, v, h, hf⟩ := h
  exact ⟨s, m, v, h.kept hk fun k hk' => hFG k (hf k hk'), hf⟩
theorem setCell_block {w : World} {b : Nat} {cs : Array Value} {t : TypeId} {fz : Nat × Nat} (h : w.heap[b]? = some (.cells cs t fz)) (i : Nat) (u : Value) : (w.setCell ⟨b, i, none⟩ u).heap[b]? = some (.cells (cs.setIfInBounds i u) t fz) := by
  simp only [World.setCell, Array.getElem?_modify, if_true, h]
  rfl
/-- A store into the disk's own block. -/
theorem DiskAt.set {w : World} {b s m : Nat} {v : Value} {d d' : Dk} (h : DiskAt w b s m v d) (i : Nat) (u : Value)
    (hc : (#[.map (some s), .map (some m), v, .int .i64 d.room, .int .i64 d.calls, .int .i64 d.after, .int .i64 d.keep, .bool d.down] : Array Value).setIfInBounds i u = #[.map (some s), .map (some m), v, .int .i64 d'.room, .int .i64 d'.calls, .int .i64 d'.after, .int .i64 d'.keep, .bool d'.down])
    (hs : d'.sure = d.sure) (hn : d'.now = d.now) (hr : d'.row = d.row) : DiskAt (w.setCell ⟨b, i, none⟩ u) b s m v d' := by
  have hk : Kept (fun k => k = b) w (w.setCell ⟨b, i, none⟩ u) := (Kept.refl (fun k => k = b) w).setCell (p := ⟨b, i, none⟩) (fun _ => rfl) u
  have hb := h.cells
  refine ⟨by rw [setCell_block hb, hc], ?_, ?_, ?_, h.ne⟩
  · rw [hs]
    refine h.sure.kept hk fun e => ?_
    subst e
    obtain ⟨es, clock, hm, _⟩ := h.sure
    rw [hb] at hm
    cases hm
  · rw [hn]
    refine h.now.kept hk fun e => ?_
    subst e
    obtain ⟨es, clock, hm, _⟩ := h.now
    rw [hb] at hm
    cases hm
  · rw [hr]
    refine row_kept h.row hk fun k hk' e => ?_
    subst e
    rcases h.row.2 with ⟨rfl, _⟩ | ⟨g, cap, cur, rfl, _, hh, _⟩
    · simp [Value.ownBlock] at hk'
    · have : g = k := by simpa [Value.ownBlock] using hk'
      subst this
      rw [hb] at hh
      injection hh with hh
      injection hh with _ ht
      cases ht
theorem Kept.one {w : World} {F : Nat → Prop} {b : Nat} (hF : F b) (i : Nat) (u : Value) : Kept F w (w.setCell ⟨b, i, none⟩ u) := (Kept.refl F w).setCell (p := ⟨b, i, none⟩) (fun _ => hF) u
theorem Kept.own (w : World) (b i : Nat) (u : Value) : Kept (fun k => k = b) w (w.setCell ⟨b, i, none⟩ u) := Kept.one (F := fun k => k = b) rfl i u

theorem Kept.cell {F : Nat → Prop} {w w' : World} (h : Kept F w w') {p : Addr} (hp : p.block < w.heap.size) (hF : ¬ F p.block) : w'.cell? p = w.cell? p := World.cell?_of_block (w := w) (h.block p.block hp hF)
theorem Kept.frozen {F : Nat → Prop} {w w' : World} (h : Kept F w w') {p : Addr} (hp : p.block < w.heap.size) (hF : ¬ F p.block) : w'.frozen? p = w.frozen? p := World.frozen?_of_block (w := w) (h.block p.block hp hF)
theorem block_new (w : World) (o : Obj) : (w.alloc o).heap[w.heap.size]? = some o := by
  show (w.heap.push o)[w.heap.size]? = _
  simp
theorem block_alloc {w : World} {b : Nat} {x : Obj} (h : w.heap[b]? = some x) (o : Obj) : (w.alloc o).heap[b]? = some x := by
  rw [Below.heap_alloc w o b (Array.getElem?_eq_some_iff.1 h).1]
  exact h
theorem cell_alloc {w : World} {a : Addr} {v : Value} (h : w.cell? a = some v) (o : Obj) : (w.alloc o).cell? a = some v := by
  rw [World.cell?_of_block (w := w) (Below.heap_alloc w o a.block (World.block_lt_of_cell? w a h))]
  exact h
theorem MapAt.lt {w : World} {b : Nat} {m : Fm} (h : MapAt w b m) : b < w.heap.size := World.ownsMap.lt h

theorem DiskAt.drewN {w : World} {b s m : Nat} {v : Value} {d : Dk} (h : DiskAt w b s m v d) (n : Nat) : DiskAt (w.drewN n) b s m v d := h.kept ((Kept.refl (fun _ => False) w).drewN n) (fun _ _ f => f)
/-- From a disk in memory a call has led to another one, in its own blocks and new ones. -/
def Step (w : World) (b s m : Nat) (v : Value) (w' : World) (d' : Dk) : Prop :=
  (∃ s' m' v', DiskAt w' b s' m' v' d' ∧ ∀ k, Feet b s' m' v' k → Feet b s m v k ∨ w.heap.size ≤ k) ∧ Kept (Feet b s m v) w w'
theorem Step.same {w w' : World} {b s m : Nat} {v : Value} {d : Dk} (h : DiskAt w b s m v d) (hk : Kept (fun _ => False) w w') : Step w b s m v w' d :=
  ⟨⟨s, m, v, h.kept hk (fun _ _ f => f), fun _ hk => .inl hk⟩, hk.mono fun _ _ f => f.elim⟩
theorem Step.of {w w' : World} {b s m : Nat} {v : Value} {d' : Dk} (h : DiskAt w' b s m v d') {F : Nat → Prop} (hk : Kept F w w') (hF : ∀ k, F k → Feet b s m v k) : Step w b s m v w' d' :=
  ⟨⟨s, m, v, h, fun _ hk => .inl hk⟩, hk.mono fun k _ f => hF k f⟩
theorem Step.before {w w1 w2 : World} {b s m : Nat} {v : Value} {d' : Dk} {F : Nat → Prop} (hk : Kept F w w1) (hF : ∀ k, F k → Feet b s m v k) (h : Step w1 b s m v w2 d') : Step w b s m v w2 d' := by
  obtain ⟨⟨s', m', v', h', hf⟩, hk'⟩ := h
  exact ⟨⟨s', m', v', h', fun k hk1 => (hf k hk1).imp id (fun h => Nat.le_trans hk.size h)⟩, (hk.mono fun k _ f => hF k f).trans hk'⟩
theorem Step.behind {w w1 w2 : World} {b s m : Nat} {v : Value} {d' : Dk} (h : Step w b s m v w1 d') (hk : Kept (fun _ => False) w1 w2) : Step w b s m v w2 d' := by
  obtain ⟨⟨s', m', v', h', hf⟩, hk'⟩ := h
  exact ⟨⟨s', m', v', h'.kept hk (fun _ _ f => f), hf⟩, hk'.step hk fun _ _ f => f.elim⟩
/-! ### a map of texts, at the operation -/
theorem zeroStr (w : World) : (zeroValue 9).run Tryd.prog w = .ok (.string ⟨#[]⟩) w := by kernel_rfl
theorem sR_val {s : ByteArray} (hs : s.size ≤ maxLen) : sR (.string s) = some (Fm.val s, []) := plainElem_string uT_str hs
theorem key_of {k : ByteArray} (hk : k.size ≤ maxLen) : keyOf Tryd.prog 9 (.string k) = some (Fm.key k) := Go.WideMaps.keyOf_string_mk uT_str hk
theorem get_of_read {m : Fm} {k : ByteArray} {x : Value} {ps : List MemPlace} (hv : sR x = some ((Fm.toD m).atKey (Fm.key k) (.lit (.string [])), ps)) : x = .string (m.get k) := by
  rw [Fm.toD_get] at hv
  obtain ⟨s, rfl, hs, _⟩ := plainElem_string_inv uT_str hv
  simp only [Fm.val, Prod.mk.injEq, DataW.lit.injEq, Lit.string.injEq] at hs
  rw [Fm.data_inj hs.1]
/-- 'm[k]', as an equation for the walk. -/
theorem look_run {w : World} {b : Nat} {m : Fm} (hown : MapAt w b m) {k : ByteArray} (hk : k.size ≤ maxLen) : (Instr.lookup 87 (.map (some b)) (.string k) false).run Tryd.prog w = .ok (.string (m.get k)) w := by
  obtain ⟨v, ps, hrun, hv⟩ := World.ownsMap.lookup hown klaw uT_map (zeroStr w) (zd := .lit (.string [])) (sR_val (by decide)) (key_of hk)
  obtain rfl := get_of_read hv
  exact hrun
theorem look_ok_run {w : World} {b : Nat} {m : Fm} (hown : MapAt w b m) {k : ByteArray} (hk : k.size ≤ maxLen) : (Instr.lookup 87 (.map (some b)) (.string k) true).run Tryd.prog w = .ok (.tuple #[.string (m.get k), .bool (m.has k)]) w := by
  obtain ⟨v, ps, hrun, hv⟩ := World.ownsMap.look_ok hown klaw uT_map (zeroStr w) (zd := .lit (.string [])) (sR_val (by decide)) (key_of hk)
  obtain rfl := get_of_read hv
  rw [Fm.toD_has] at hrun
  exact hrun
section
variable (w : World) {ops : Array Oper} {rest : List Oper} {o : Oper} {a : Act} {Q : Exit → Act → World → Prop}
/-- 'm[k]' -/
theorem look_str (hg : o.guard = none) (mo x : Operand) (hop : o.op = Op.lookup 87 mo x false) (b : Nat) (m : Fm)
    (hm : a.eval mo = .map (some b)) (hown : MapAt w b m) (k : ByteArray) (hx : a.eval x = .string k) (hk : k.size ≤ maxLen)
    (hK : wpList Tryd.prog ops Q rest (a.put o.dst (.string (m.get k))) w) : wpList Tryd.prog ops Q (o :: rest) a w := by
  refine wpList_plain hg fun K' hK' => ?_
  obtain ⟨v, ps, hrun, hv⟩ := World.ownsMap.lookup hown klaw uT_map (zeroStr w) (zd := .lit (.string [])) (sR_val (by decide)) (key_of hk)
  obtain rfl := get_of_read hv
  unfold Oper.wp
  simp [execOp, hop, hm, hx, hrun, Result.andThen]
  exact hK' _ _ hK
/-- 'v, ok := m[k]' -/
theorem look_ok (hg : o.guard = none) (mo x : Operand) (hop : o.op = Op.lookup 87 mo x true) (b : Nat) (m : Fm)
    (hm : a.eval mo = .map (some b)) (hown : MapAt w b m) (k : ByteArray) (hx : a.eval x = .string k) (hk : k.size ≤ maxLen)
    (hK : wpList Tryd.prog ops Q rest (a.put o.dst (.tuple #[.string (m.get k), .bool (m.has k)])) w) : wpList Tryd.prog ops Q (o :: rest) a w :=
  wpList_lookup_own_ok w hg mo x 87 hop 9 9 klaw uT_map sR (zeroStr w) (.lit (.string [])) [] (sR_val (by decide)) b m.length (Fm.toD m) hm hown _ (Fm.key k) hx (key_of hk) (fun v ps hv => by
    obtain rfl := get_of_read hv
    rw [Fm.toD_has]
    exact hK)
/-- 'm[k] = v' -/
theorem store_str (hg : o.guard = none) (mo x v : Operand) (hop : o.op = Op.mapUpdate 87 mo x v) (b : Nat) (m : Fm)
    (hm : a.eval mo = .map (some b)) (hown : MapAt w b m) (hn : m.length < maxLen) (k s : ByteArray) (hx : a.eval x = .string k) (hv : a.eval v = .string s) (hk : k.size ≤ maxLen) (hs : s.size ≤ maxLen)
    (hK : ∀ w', MapAt w' b (m.put k s) → Kept (fun j => j = b) w w' → wpList Tryd.prog ops Q rest (a.put o.dst undef) w') : wpList Tryd.prog ops Q (o :: rest) a w :=
  wpList_mapUpdate_own w hg mo x v 87 hop 9 9 klaw uT_map sR b m.length (Fm.toD m) hm hown hn _ _ (Fm.key k) hx hv (key_of hk) (Fm.val s) [] (sR_val hs) (fun w' h1 h2 =>
    hK w' (MapAt.tight (by rw [← Fm.toD_put]; exact h1)) ((Kept.refl _ w).grown h2 fun j hj _ => by injection hj with hj; exact hj.symm))
/-- 'delete(m, k)' -/
theorem del_str (hg : o.guard = none) (mo x : Operand) (hop : o.op = Op.call { callee := Callee.builtin Builtin.delete, args := #[mo, x], argTypes := #[87, 9] }) (b : Nat) (m : Fm)
    (hm : a.eval mo = .map (some b)) (hown : MapAt w b m) (k : ByteArray) (hx : a.eval x = .string k) (hk : k.size ≤ maxLen)
    (hK : ∀ w', MapAt w' b (m.del k) → Kept (fun j => j = b) w w' → wpList Tryd.prog ops Q rest (a.put o.dst (.tuple #[])) w') : wpList Tryd.prog ops Q (o :: rest) a w :=
  wpList_delete_own w hg mo x 87 9 hop 9 klaw uT_map sR b m.length (Fm.toD m) hm hown _ (Fm.key k) hx (key_of hk) (fun w' h1 h2 =>
    hK w' (MapAt.tight (by rw [← Fm.toD_del]; exact h1)) ((Kept.refl _ w).grown h2.grown fun j hj _ => by injection hj with hj; exact hj.symm))
end
end Go.Proofs.YtjobmlnekpaagaaDoor
