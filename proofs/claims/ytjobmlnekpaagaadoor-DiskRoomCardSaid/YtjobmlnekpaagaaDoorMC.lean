/- Merged texts: acts on a disk; a disk of the call's own; layer 5's example; a nil disk. -/
import Derived.Test.YtjobmlnekpaagaaDoorMB
/-! ### Acts on a disk. -/
namespace Go.Proofs.YtjobmlnekpaagaaDoor
open Go Go.RowKit Go.Maps
set_option linter.unusedVariables false

/-- An act. -/
structure DAct where
  kind : Int
  name : ByteArray
  n : Int
  m : Int
  s : ByteArray
/-- An int. -/
def I64 (n : Int) : Prop := -9223372036854775808 ≤ n ∧ n ≤ 9223372036854775807
structure DAct.Wf (x : DAct) : Prop where
  kind : I64 x.kind
  name : x.name.size ≤ 9223372036854775807
  n : I64 x.n
  m : I64 x.m
  s : x.s.size ≤ 9223372036854775807
def DAct.cells (x : DAct) : List Value := [.int .i64 x.kind, .string x.name, .int .i64 x.n, .int .i64 x.m, .string x.s]
def Dk.does (d : Dk) (x : DAct) : Dk × Int :=
  if x.kind = 0 then d.put x.name x.n x.s
  else if x.kind = 1 then d.trim x.name x.n
  else if x.kind = 2 then d.move x.name x.s
  else if x.kind = 3 then d.drop x.name
  else if x.kind = 4 then d.sync
  else if x.kind = 5 then (d.fail x.n, 0)
  else if x.kind = 6 then (d.trip x.n x.m, 0)
  else if x.kind = 7 then (d.wake, 0)
  else if x.kind = 8 then (d.setRoom x.n, 0)
  else (d, 0)
theorem Dk.Ok.does {d : Dk} {N : Nat} (h : d.Ok N) {x : DAct} (hx : x.Wf) : (d.does x).1.Ok (N + 1) := by
  unfold Dk.does
  split
  · exact h.put _ _ _
  · split
    · exact h.trim _ _
    · split
      · exact h.move _ _
      · split
        · exact h.drop _
        · split
          · exact h.sync.mono (Nat.le_succ _)
          · split
            · exact (h.fail _).mono (Nat.le_succ _)
            · split
              · exact (h.trip hx.n.2 hx.m).mono (Nat.le_succ _)
              · split
                · exact h.wake.mono (Nat.le_succ _)
                · split
                  · exact (h.setRoom hx.n.2).mono (Nat.le_succ _)
                  · exact h.mono (Nat.le_succ _)
theorem fail_any {w : World} {b s m : Nat} {v : Value} {N : Nat} {d : Dk} (h : DiskAt w b s m v d) (ok : d.Ok N) (hN : N ≤ 1099511627776) (k : Int) (hk : I64 k) :
    Calls Tryd.prog 19 #[.pointer (some ⟨b, 0, none⟩), .int .i64 k] w fun e w' => e = .returned (.tuple #[]) ∧ Step w b s m v w' (d.fail k) := by
  cases hd : d.down with
  | true =>
    refine (fail_down h hd k).mono fun e w' ⟨h1, h2⟩ => ⟨h1, ?_⟩
    subst h2
    have : d.fail k = d := by unfold Dk.fail; rw [hd]; rfl
    rw [this]
    exact Step.same h (Kept.refl _ _)
  | false =>
    refine (fail_up h ok hN hd k hk.1 hk.2).mono fun e w' ⟨h1, ⟨m', h2, h3⟩, h4⟩ => ⟨h1, ⟨s, m', _, h2, fun j hf => ?_⟩, h4.mono fun j _ e => ?_⟩
    · rcases hf with e | e | e | e
      · exact .inl (.inl e)
      · exact .inl (.inr (.inl e))
      · exact .inr (by omega)
      · simp [Value.ownBlock] at e
    · rcases e with e | e
      · exact .inl e
      · exact .inr (.inl e)
set_option maxRecDepth 100000 in
set_option maxHeartbeats 4000000 in
theorem does_any {w : World} {b s m : Nat} {v : Value} {N : Nat} {d : Dk} (h : DiskAt w b s m v d) (ok : d.Ok N) (hN : N + 1 ≤ 1099511627776) (x : DAct) (hx : x.Wf) :
    Calls Tryd.prog 18 #[.pointer (some ⟨b, 0, none⟩), .agg x.cells.toArray] w fun e w' => e = .returned (.int .i64 (d.does x).2) ∧ Step w b s m v w' (d.does x).1 := by
  obtain ⟨kind, name, n, mm, t⟩ := x
  obtain ⟨⟨hk0, hk1⟩, hname, ⟨hn0, hn1⟩, ⟨hm0, hm1⟩, ht⟩ := hx
  simp only at hk0 hk1 hname hn0 hn1 hm0 hm1 ht
  simp only [DAct.cells]
  have HB := Lib.hid ((Kept.refl (fun _ => False) w).alloc (.cells #[.int .i64 kind, .string name, .int .i64 n, .int .i64 mm, .string t] 31))
  have h' := h.kept HB.out (fun _ _ f => f)
  by_cases c0 : kind = 0
  · subst c0
    have hc := put_any h' ok hN name n t hname ht hn0 hn1
    have HE : Hid (d.does ⟨0, name, n, mm, t⟩ = d.put name n t) := by unfold Hid Dk.does; rfl
    clear h h' ok
    go_enter Tryd.func18, Tryd.ntmps18
    go_wp2_with (go_at_call 15; refine hc.mono ?_; rintro e w1 ⟨rfl, hs⟩)
    go_ret
    rw [HE.out]
    exact ⟨rfl, hs.before HB.out (fun _ f => f.elim)⟩
  by_cases c1 : kind = 1
  · subst c1
    have hc := trim_any h' ok hN name n hname hn0 hn1
    have HE : Hid (d.does ⟨1, name, n, mm, t⟩ = d.trim name n) := by unfold Hid Dk.does; rfl
    clear h h' ok
    go_enter Tryd.func18, Tryd.ntmps18
    go_wp2_with (go_at_call 55; refine hc.mono ?_; rintro e w1 ⟨rfl, hs⟩)
    go_ret
    rw [HE.out]
    exact ⟨rfl, hs.before HB.out (fun _ f => f.elim)⟩
  by_cases c2 : kind = 2
  · subst c2
    have hc := move_any h' ok hN name t hname ht
    have HE : Hid (d.does ⟨2, name, n, mm, t⟩ = d.move name t) := by unfold Hid Dk.does; rfl
    clear h h' ok
    go_enter Tryd.func18, Tryd.ntmps18
    go_wp2_with (go_at_call 56; refine hc.mono ?_; rintro e w1 ⟨rfl, hs⟩)
    go_ret
    rw [HE.out]
    exact ⟨rfl, hs.before HB.out (fun _ f => f.elim)⟩
  by_cases c3 : kind = 3
  · subst c3
    have hc := drop_any h' ok hN name hname
    have HE : Hid (d.does ⟨3, name, n, mm, t⟩ = d.drop name) := by unfold Hid Dk.does; rfl
    clear h h' ok
    go_enter Tryd.func18, Tryd.ntmps18
    go_wp2_with (go_at_call 57; refine hc.mono ?_; rintro e w1 ⟨rfl, hs⟩)
    go_ret
    rw [HE.out]
    exact ⟨rfl, hs.before HB.out (fun _ f => f.elim)⟩
  by_cases c4 : kind = 4
  · subst c4
    have hc := sync_any h' ok (by omega)
    have HE : Hid (d.does ⟨4, name, n, mm, t⟩ = d.sync) := by unfold Hid Dk.does; rfl
    clear h h' ok
    go_enter Tryd.func18, Tryd.ntmps18
    go_wp2_with (go_at_call 16; refine hc.mono ?_; rintro e w1 ⟨rfl, hs⟩)
    go_ret
    rw [HE.out]
    exact ⟨rfl, hs.before HB.out (fun _ f => f.elim)⟩
  by_cases c5 : kind = 5
  · subst c5
    have hc := fail_any h' ok (by omega) n ⟨hn0, hn1⟩
    have HE : Hid (d.does ⟨5, name, n, mm, t⟩ = (d.fail n, 0)) := by unfold Hid Dk.does; rfl
    clear h h' ok
    go_enter Tryd.func18, Tryd.ntmps18
    go_wp2_with (go_at_call 19; refine hc.mono ?_; rintro e w1 ⟨rfl, hs⟩)
    go_ret
    rw [HE.out]
    exact ⟨rfl, hs.before HB.out (fun _ f => f.elim)⟩
  by_cases c6 : kind = 6
  · subst c6
    have hc := trip_any h' n mm
    have HE : Hid (d.does ⟨6, name, n, mm, t⟩ = (d.trip n mm, 0)) := by unfold Hid Dk.does; rfl
    clear h h' ok
    go_enter Tryd.func18, Tryd.ntmps18
    go_wp2_with (go_at_call 36; refine hc.mono ?_; rintro e w1 ⟨rfl, hs, hk⟩)
    go_ret
    rw [HE.out]
    exact ⟨rfl, (Step.of hs hk (fun k e => .inl e)).before HB.out (fun _ f => f.elim)⟩
  by_cases c7 : kind = 7
  · subst c7
    have hc := wake_any h'
    have HE : Hid (d.does ⟨7, name, n, mm, t⟩ = (d.wake, 0)) := by unfold Hid Dk.does; rfl
    clear h h' ok
    go_enter Tryd.func18, Tryd.ntmps18
    go_wp2_with (go_at_call 20; refine hc.mono ?_; rintro e w1 ⟨rfl, hs, hk⟩)
    go_ret
    rw [HE.out]
    exact ⟨rfl, (Step.of hs hk (fun k e => .inl e)).before HB.out (fun _ f => f.elim)⟩
  by_cases c8 : kind = 8
  · subst c8
    have hc := room_any h' n
    have HE : Hid (d.does ⟨8, name, n, mm, t⟩ = (d.setRoom n, 0)) := by unfold Hid Dk.does; rfl
    clear h h' ok
    go_enter Tryd.func18, Tryd.ntmps18
    go_wp2_with (go_at_call 42; refine hc.mono ?_; rintro e w1 ⟨rfl, hs, hk⟩)
    go_ret
    rw [HE.out]
    exact ⟨rfl, (Step.of hs hk (fun k e => .inl e)).before HB.out (fun _ f => f.elim)⟩
  have e0 : (kind == 0) = false := by simpa using c0
  have e1 : (kind == 1) = false := by simpa using c1
  have e2 : (kind == 2) = false := by simpa using c2
  have e3 : (kind == 3) = false := by simpa using c3
  have e4 : (kind == 4) = false := by simpa using c4
  have e5 : (kind == 5) = false := by simpa using c5
  have e6 : (kind == 6) = false := by simpa using c6
  have e7 : (kind == 7) = false := by simpa using c7
  have e8 : (kind == 8) = false := by simpa using c8
  have HE : Hid (d.does ⟨kind, name, n, mm, t⟩ = (d, 0)) := by unfold Hid Dk.does; simp [c0, c1, c2, c3, c4, c5, c6, c7, c8]
  have H' := Lib.hid h
  clear h h' ok c0 c1 c2 c3 c4 c5 c6 c7 c8
  go_enter Tryd.func18, Tryd.ntmps18
  go_wp2
  go_ret
  rw [HE.out]
  exact ⟨rfl, Step.same H'.out HB.out⟩
end Go.Proofs.YtjobmlnekpaagaaDoor

/-! ### The acts that are looked at. -/
namespace Go.Proofs.YtjobmlnekpaagaaDoor
open Go Go.RowKit Go.Maps
set_option linter.unusedVariables false

/-- A slice of acts is read. -/
def ReadsActs (w : World) (A : Option Addr) (n : Nat) (xs : List DAct) : Prop :=
  xs.length = n ∧ n ≤ 2513169434916 ∧ (∀ x ∈ xs, x.Wf) ∧ (n = 0 ∨ ∃ g off, A = some ⟨g, off, none⟩ ∧ g < w.heap.size ∧ ∀ i x, xs[i]? = some x → ∀ j u, x.cells[j]? = some u → w.cell? ⟨g, off + i * 5 + j, none⟩ = some u)
theorem ReadsActs.kept {w w' : World} {A : Option Addr} {n : Nat} {xs : List DAct} (h : ReadsActs w A n xs) (hk : Kept (fun _ => False) w w') : ReadsActs w' A n xs := by
  obtain ⟨h1, h2, h3, h4⟩ := h
  refine ⟨h1, h2, h3, h4.imp id fun ⟨g, off, hA, hg, hc⟩ => ⟨g, off, hA, Nat.lt_of_lt_of_le hg hk.size, fun i x hi j u hj => ?_⟩⟩
  rw [hk.cell hg (fun f => f)]
  exact hc i x hi j u hj
def mostGo : Nat → List DAct → List DAct
  | _, [] => []
  | k, x :: r => if 60 ≤ k then [] else if x.s.size ≤ 3000 then x :: mostGo (k + 1) r else mostGo k r
def mostOf (xs : List DAct) : List DAct := mostGo 0 xs
theorem mostGo_keep {i : Nat} {xs acc : List DAct} {x : DAct} (hx : xs[i]? = some x) (hk : acc.length < 60) (hs : x.s.size ≤ 3000) (h : mostOf xs = acc ++ mostGo acc.length (xs.drop i)) : mostOf xs = (acc ++ [x]) ++ mostGo (acc ++ [x]).length (xs.drop (i + 1)) := by
  obtain ⟨hi, hx'⟩ := List.getElem?_eq_some_iff.1 hx
  rw [h, List.drop_eq_getElem_cons hi, hx']
  conv => lhs; unfold mostGo
  rw [if_neg (by omega), if_pos hs]
  simp
theorem mostGo_skip {i : Nat} {xs acc : List DAct} {x : DAct} (hx : xs[i]? = some x) (hk : acc.length < 60) (hs : ¬ x.s.size ≤ 3000) (h : mostOf xs = acc ++ mostGo acc.length (xs.drop i)) : mostOf xs = acc ++ mostGo acc.length (xs.drop (i + 1)) := by
  obtain ⟨hi, hx'⟩ := List.getElem?_eq_some_iff.1 hx
  rw [h, List.drop_eq_getElem_cons hi, hx']
  conv => lhs; unfold mostGo
  rw [if_neg (by omega), if_neg hs]
theorem mostGo_full {k : Nat} (hk : 60 ≤ k) (l : List DAct) : mostGo k l = [] := by
  cases l with
  | nil => rfl
  | cons x r => unfold mostGo; rw [if_pos hk]
theorem mostGo_sub : ∀ (k : Nat) (l : List DAct), ∀ x ∈ mostGo k l, x ∈ l ∧ x.s.size ≤ 3000
  | _, [], x, h => by cases h
  | k, y :: r, x, h => by
    unfold mostGo at h
    split at h
    · cases h
    · split at h
      · rcases List.mem_cons.1 h with rfl | h
        · exact ⟨by simp, by assumption⟩
        · exact ⟨List.mem_cons_of_mem _ (mostGo_sub _ _ x h).1, (mostGo_sub _ _ x h).2⟩
      · exact ⟨List.mem_cons_of_mem _ (mostGo_sub _ _ x h).1, (mostGo_sub _ _ x h).2⟩
theorem mostGo_length : ∀ (k : Nat) (l : List DAct), (mostGo k l).length ≤ 60 - k
  | _, [] => Nat.zero_le _
  | k, y :: r => by
    unfold mostGo
    split
    · simp
    · split
      · have := mostGo_length (k + 1) r
        simp
        omega
      · exact mostGo_length k r
def flat (xs : List DAct) : List Value := xs.flatMap DAct.cells
theorem flat_snoc (xs : List DAct) (x : DAct) : flat (xs ++ [x]) = flat xs ++ x.cells := by unfold flat; simp
theorem cells_length (x : DAct) : x.cells.length = 5 := rfl
theorem flat_length (xs : List DAct) : (flat xs).length = xs.length * 5 := by
  induction xs with
  | nil => rfl
  | cons x r ih => unfold flat at *; rw [List.flatMap_cons, List.length_append, ih, List.length_cons, cells_length]; omega
theorem own_base {w : World} {base : Nat} {e : TypeId} {size n : Nat} {v : Value} {xs : List Value} (h : w.ownsRow base e size v n xs) (k : Nat) (hk : v.ownBlock = some k) : base ≤ k := by
  rcases h.2 with ⟨rfl, _⟩ | ⟨g, cap, cur, rfl, hb, _⟩
  · simp [Value.ownBlock] at hk
  · have : g = k := by simpa [Value.ownBlock] using hk
    omega
theorem news_at (w : World) (l : List Value) (T : TypeId) : ∀ (j : Nat) u, l[j]? = some u → (w.alloc (.cells l.toArray T)).cell? ((⟨w.heap.size, 0, none⟩ : Addr).add j) = some u := by
  intro j u hj
  have h2 : (⟨w.heap.size, 0, none⟩ : Addr).add j = ⟨w.heap.size, j, none⟩ := by unfold Addr.add; split <;> simp_all
  rw [h2, cell_of_block (block_new w (.cells l.toArray T)) j]
  simpa using hj
theorem cells_one (x : DAct) : ∀ u ∈ x.cells, u.oneCell' = true := by
  intro u hu
  simp only [DAct.cells, List.mem_cons, List.not_mem_nil, or_false] at hu
  rcases hu with rfl | rfl | rfl | rfl | rfl <;> rfl
theorem info_act : (Tryd.prog.info? 31).map (fun i => (i.zero, i.size, i.bytes)) = some (some (.agg #[.int .i64 0, .string ⟨#[]⟩, .int .i64 0, .int .i64 0, .string ⟨#[]⟩]), 5, 56) := by kernel_rfl
theorem uT_acts : Tryd.prog.underlying 22 = some (.slice 31) := by kernel_rfl
set_option maxRecDepth 100000 in
set_option maxHeartbeats 1600000 in
theorem most_any {w : World} {A : Option Addr} {n c : Nat} {xs : List DAct} (h : ReadsActs w A n xs) :
    Calls Tryd.prog 17 #[.slice A n c] w fun e w' => ∃ v', e = .returned v' ∧ w'.ownsRow w.heap.size 31 5 v' (mostOf xs).length (flat (mostOf xs)) ∧ Kept (fun _ => False) w w' := by
  obtain ⟨hl, hn, hwf, hcells⟩ := h
  obtain ⟨i0, hi, hz0, hz1, hz2⟩ := info_parts info_act
  rcases hcells with h0 | ⟨g, off, rfl, hg, hc⟩
  · have hx : xs = [] := by cases xs with | nil => rfl | cons a r => simp at hl; omega
    subst hx
    obtain rfl : n = 0 := h0
    go_enter Tryd.func17, Tryd.ntmps17
    go_wp2
    refine wp_loop_rounds 1 ?_
    rw [rounds_succ]
    go_wp2
    go_ret
    exact ⟨_, rfl, ⟨by simp [mostOf, mostGo, flat], .inl ⟨rfl, by simp [mostOf, mostGo]⟩⟩, Kept.refl _ _⟩
  · have HC := Lib.hid hc
    have HWF := Lib.hid hwf
    have HL := Lib.hid hl
    clear hc hwf hl
    go_enter Tryd.func17, Tryd.ntmps17
    go_wp2
    go_loopw [3, 4] (fun v3 v4 wr => ∃ (i : Nat) (acc : List DAct) (Av : Option Addr) (cv : Nat), i ≤ n ∧ v4 = .int .i64 i ∧ v3 = .slice Av acc.length cv ∧ wr.ownsRow w.heap.size 31 5 (.slice Av acc.length cv) acc.length (flat acc) ∧ acc.length ≤ 60 ∧ Hid (mostOf xs = acc ++ mostGo acc.length (xs.drop i)) ∧ Kept (fun _ => False) w wr)
      (fun _ v4 _ => n - (intOf v4).toNat)
    case atStart => exact ⟨0, [], none, 0, Nat.zero_le _, rfl, rfl, ⟨by simp [flat], .inl ⟨rfl, rfl⟩⟩, by simp, rfl, Kept.refl _ _⟩
    case round =>
      obtain ⟨i, acc, Av, cv, hin, rfl, rfl, hrow, hacc, hmo, hkw⟩ := hrel
      have hrow0 := Lib.hid hrow
      by_cases hlt : i < n
      · have hd1 : decide (i < n) = true := by simpa using hlt
        by_cases h60 : acc.length < 60
        · have hd2 : decide (acc.length < 60) = true := by simpa using h60
          have hd3 : decide ((acc.length : Int) < 60) = true := decide_eq_true (by omega)
          obtain ⟨x, hx⟩ : ∃ x, xs[i]? = some x := ⟨xs[i]'(by rw [HL.out]; exact hlt), List.getElem?_eq_getElem _⟩
          have hcx := fun j u h => (hkw.cell (p := ⟨g, off + i * 5 + j, none⟩) hg (fun f => f)).trans (HC.out i x hx j u h)
          have x0 : wr.cell? ⟨g, off + i * 5, none⟩ = some (.int .i64 x.kind) := hcx 0 _ rfl
          have x1 := hcx 1 _ rfl
          have x2 := hcx 2 _ rfl
          have x3 := hcx 3 _ rfl
          have x4 := hcx 4 _ rfl
          have hw := HWF.out x (List.mem_of_getElem? hx)
          have HX := Lib.hid hx
          have HW := Lib.hid hw
          clear hcx hx hw
          by_cases hs : x.s.size ≤ 3000
          · go_wp2_with (at_builtin; refine wpList_append_own_at _ rfl _ _ 22 rfl w.heap.size 31 i0 _ 5 56 uT_acts hi hz0 hz1 hz2 rfl (by decide) _ _ _ rfl (hrow.alloc _) ⟨wr.heap.size, 0, none⟩ 1 1 x.cells rfl rfl (news_at _ _ _) (cells_one x) (by unfold maxLen; omega) (by omega) (by have := hkw.size; simp; omega) ?_; intro v' w2 hrow2 hg2 hnil hloc; obtain ⟨gg, gcap, rfl⟩ := row_succ hrow2; have HR2 := Lib.hid hrow2; have HL2 := Lib.hid hloc; have HG2 := Lib.hid hg2; clear hnil hrow2 hloc hg2 hrow)
            go_roundw
            case rel => exact ⟨i + 1, acc ++ [x], some ⟨gg, 0, none⟩, gcap, by omega, by go_num, by simp, by rw [flat_snoc]; simpa using HR2.out, by simp; omega, mostGo_keep HX.out h60 hs hmo, (hkw.alloc _).grown HG2.out fun k hk hlt => by have := own_base hrow0.out k hk; omega⟩
            case measure => simp [intOf]; omega
          · go_wp2_with fail
            go_roundw
            case rel => exact ⟨i + 1, acc, Av, cv, by omega, by go_num, rfl, hrow, hacc, mostGo_skip HX.out h60 hs hmo, hkw⟩
            case measure => simp [intOf]; omega
        · have hd2 : decide (acc.length < 60) = false := by simpa using h60
          have hd3 : decide ((acc.length : Int) < 60) = false := decide_eq_false (by omega)
          have he : mostOf xs = acc := by rw [hmo.out, mostGo_full (by omega)]; simp
          have HE := Lib.hid he
          clear he
          go_wp2_with fail
          go_ret
          rw [HE.out]
          exact ⟨_, rfl, hrow, hkw⟩
      · have hd1 : decide (i < n) = false := by simpa using hlt
        have he : mostOf xs = acc := by rw [hmo.out, List.drop_eq_nil_of_le (by have := HL.out; omega)]; simp [mostGo]
        have HE := Lib.hid he
        clear he
        go_wp2_with fail
        go_ret
        rw [HE.out]
        exact ⟨_, rfl, hrow, hkw⟩
end Go.Proofs.YtjobmlnekpaagaaDoor

/-! ### A disk that the law has made: its calls. -/
namespace Go.Proofs.YtjobmlnekpaagaaDoor
open Go Go.RowKit Go.Maps
set_option linter.unusedVariables false

/-- Since w a disk has been used: it is d now, in blocks of F and new ones; of what was there in w nothing has turned but F. -/
def OwnF (F : Nat → Prop) (w w' : World) (b : Nat) (d : Dk) : Prop := ∃ s m v, DiskAt w' b s m v d ∧ (∀ k, Feet b s m v k → F k ∨ w.heap.size ≤ k) ∧ Kept F w w'
/-- Since w a disk has been made and used. -/
abbrev Own (w w' : World) (b : Nat) (d : Dk) : Prop := OwnF (fun _ => False) w w' b d
section
variable {F : Nat → Prop}
theorem OwnF.step {w w1 w2 : World} {b s m : Nat} {v : Value} {d' : Dk} (hf : ∀ k, Feet b s m v k → F k ∨ w.heap.size ≤ k) (hk : Kept F w w1) (h : Step w1 b s m v w2 d') : OwnF F w w2 b d' := by
  obtain ⟨⟨s', m', v', h', hf'⟩, hk'⟩ := h
  refine ⟨s', m', v', h', fun k hk1 => ?_, hk.step hk' fun k hlt hF => ?_⟩
  · rcases hf' k hk1 with e | e
    · exact hf k e
    · exact .inr (Nat.le_trans hk.size e)
  · rcases hf k hF with e | e
    · exact e
    · omega
theorem OwnF.quiet {w w1 w2 : World} {b : Nat} {d : Dk} (h : OwnF F w w1 b d) (hk : Kept (fun _ => False) w1 w2) : OwnF F w w2 b d := by
  obtain ⟨s, m, v, h1, h2, h3⟩ := h
  exact ⟨s, m, v, h1.kept hk (fun _ _ f => f), h2, h3.step hk fun _ _ f => f.elim⟩
theorem OwnF.kept {w w1 : World} {b : Nat} {d : Dk} (h : OwnF F w w1 b d) : Kept F w w1 := by
  obtain ⟨s, m, v, h1, h2, h3⟩ := h
  exact h3
/-- From a later world on: the disk's blocks then are the new F. -/
theorem OwnF.rebase {w w1 : World} {b : Nat} {d : Dk} (h : OwnF F w w1 b d) : ∃ G : Nat → Prop, OwnF G w1 w1 b d ∧ (∀ k, G k → F k ∨ w.heap.size ≤ k) ∧ (∀ k, G k → k < w1.heap.size) := by
  obtain ⟨s, m, v, h1, h2, h3⟩ := h
  refine ⟨Feet b s m v, ⟨s, m, v, h1, fun k hk => .inl hk, Kept.refl _ _⟩, h2, fun k hk => ?_⟩
  rcases hk with e | e | e | e
  · rw [e]; exact h1.lt
  · rw [e]; exact h1.sure.lt
  · rw [e]; exact h1.now.lt
  · obtain ⟨cs, fz, hh⟩ := h1.row_block e
    exact (Array.getElem?_eq_some_iff.1 hh).1
/-- .. and they lie below what was made since. -/
theorem OwnF.rebase_quiet {w w1 w2 : World} {b : Nat} {d : Dk} (h : OwnF F w w1 b d) (hk : Kept (fun _ => False) w1 w2) : ∃ G : Nat → Prop, OwnF G w2 w2 b d ∧ (∀ k, G k → F k ∨ w.heap.size ≤ k) ∧ (∀ k, G k → k < w1.heap.size) := by
  obtain ⟨s, m, v, h1, h2, h3⟩ := h
  refine ⟨Feet b s m v, ⟨s, m, v, h1.kept hk (fun _ _ f => f), fun k hk => .inl hk, Kept.refl _ _⟩, h2, fun k hk => ?_⟩
  rcases hk with e | e | e | e
  · rw [e]; exact h1.lt
  · rw [e]; exact h1.sure.lt
  · rw [e]; exact h1.now.lt
  · obtain ⟨cs, fz, hh⟩ := h1.row_block e
    exact (Array.getElem?_eq_some_iff.1 hh).1
/-- And back: what was since w1 is since w. -/
theorem OwnF.back {G : Nat → Prop} {w w1 w2 : World} {b : Nat} {d : Dk} (hk : Kept F w w1) (hG : ∀ k, G k → F k ∨ w.heap.size ≤ k) (h : OwnF G w1 w2 b d) : OwnF F w w2 b d := by
  obtain ⟨s, m, v, h1, h2, h3⟩ := h
  refine ⟨s, m, v, h1, fun k hk' => ?_, hk.step h3 fun k hlt e => ?_⟩
  · rcases h2 k hk' with e | e
    · exact hG k e
    · exact .inr (Nat.le_trans hk.size e)
  · rcases hG k e with e | e
    · exact e
    · omega
theorem own_new {w w1 : World} (hk : Kept F w w1) : Calls Tryd.prog 13 #[] w1 fun e w' => ∃ b, e = .returned (.pointer (some ⟨b, 0, none⟩)) ∧ OwnF F w w' b Dk.new :=
  (new_any w1).mono fun e w' ⟨b, s, m, h1, h2, h3, h4, h5, h6⟩ => ⟨b, h1, s, m, _, h2, fun k hf => by
    have := hk.size
    rcases hf with e | e | e | e
    · exact .inr (by omega)
    · exact .inr (by omega)
    · exact .inr (by omega)
    · simp [Value.ownBlock] at e, hk.step h6 fun _ _ f => f.elim⟩
theorem own_put {w w1 : World} {b N : Nat} {d : Dk} (h : OwnF F w w1 b d) (ok : d.Ok N) (hN : N + 1 ≤ 1099511627776) (f : ByteArray) (at_ : Int) (t : ByteArray) (hf : f.size ≤ 9223372036854775807) (ht : t.size ≤ 9223372036854775807) (ha : I64 at_) : Calls Tryd.prog 15 #[.pointer (some ⟨b, 0, none⟩), .string f, .int .i64 at_, .string t] w1 fun e w' => e = .returned (.int .i64 (d.put f at_ t).2) ∧ OwnF F w w' b (d.put f at_ t).1 := by
  obtain ⟨s, m, v, h1, h2, h3⟩ := h
  exact (put_any h1 ok hN f at_ t hf ht ha.1 ha.2).mono fun e w' ⟨g1, g2⟩ => ⟨g1, OwnF.step h2 h3 g2⟩
theorem own_trim {w w1 : World} {b N : Nat} {d : Dk} (h : OwnF F w w1 b d) (ok : d.Ok N) (hN : N + 1 ≤ 1099511627776) (f : ByteArray) (n : Int) (hf : f.size ≤ 9223372036854775807) (ha : I64 n) : Calls Tryd.prog 55 #[.pointer (some ⟨b, 0, none⟩), .string f, .int .i64 n] w1 fun e w' => e = .returned (.int .i64 (d.trim f n).2) ∧ OwnF F w w' b (d.trim f n).1 := by
  obtain ⟨s, m, v, h1, h2, h3⟩ := h
  exact (trim_any h1 ok hN f n hf ha.1 ha.2).mono fun e w' ⟨g1, g2⟩ => ⟨g1, OwnF.step h2 h3 g2⟩
theorem own_move {w w1 : World} {b N : Nat} {d : Dk} (h : OwnF F w w1 b d) (ok : d.Ok N) (hN : N + 1 ≤ 1099511627776) (f t : ByteArray) (hf : f.size ≤ 9223372036854775807) (ht : t.size ≤ 9223372036854775807) : Calls Tryd.prog 56 #[.pointer (some ⟨b, 0, none⟩), .string f, .string t] w1 fun e w' => e = .returned (.int .i64 (d.move f t).2) ∧ OwnF F w w' b (d.move f t).1 := by
  obtain ⟨s, m, v, h1, h2, h3⟩ := h
  exact (move_any h1 ok hN f t hf ht).mono fun e w' ⟨g1, g2⟩ => ⟨g1, OwnF.step h2 h3 g2⟩
theorem own_drop {w w1 : World} {b N : Nat} {d : Dk} (h : OwnF F w w1 b d) (ok : d.Ok N) (hN : N + 1 ≤ 1099511627776) (f : ByteArray) (hf : f.size ≤ 9223372036854775807) : Calls Tryd.prog 57 #[.pointer (some ⟨b, 0, none⟩), .string f] w1 fun e w' => e = .returned (.int .i64 (d.drop f).2) ∧ OwnF F w w' b (d.drop f).1 := by
  obtain ⟨s, m, v, h1, h2, h3⟩ := h
  exact (drop_any h1 ok hN f hf).mono fun e w' ⟨g1, g2⟩ => ⟨g1, OwnF.step h2 h3 g2⟩
theorem own_sync {w w1 : World} {b N : Nat} {d : Dk} (h : OwnF F w w1 b d) (ok : d.Ok N) (hN : N + 1 ≤ 1099511627776) : Calls Tryd.prog 16 #[.pointer (some ⟨b, 0, none⟩)] w1 fun e w' => e = .returned (.int .i64 d.sync.2) ∧ OwnF F w w' b d.sync.1 := by
  obtain ⟨s, m, v, h1, h2, h3⟩ := h
  exact (sync_any h1 ok (by omega)).mono fun e w' ⟨g1, g2⟩ => ⟨g1, OwnF.step h2 h3 g2⟩
theorem own_fail {w w1 : World} {b N : Nat} {d : Dk} (h : OwnF F w w1 b d) (ok : d.Ok N) (hN : N + 1 ≤ 1099511627776) (k : Int) (hk : I64 k) : Calls Tryd.prog 19 #[.pointer (some ⟨b, 0, none⟩), .int .i64 k] w1 fun e w' => e = .returned (.tuple #[]) ∧ OwnF F w w' b (d.fail k) := by
  obtain ⟨s, m, v, h1, h2, h3⟩ := h
  exact (fail_any h1 ok (by omega) k hk).mono fun e w' ⟨g1, g2⟩ => ⟨g1, OwnF.step h2 h3 g2⟩
theorem own_does {w w1 : World} {b N : Nat} {d : Dk} (h : OwnF F w w1 b d) (ok : d.Ok N) (hN : N + 1 ≤ 1099511627776) (x : DAct) (hx : x.Wf) : Calls Tryd.prog 18 #[.pointer (some ⟨b, 0, none⟩), .agg x.cells.toArray] w1 fun e w' => e = .returned (.int .i64 (d.does x).2) ∧ OwnF F w w' b (d.does x).1 := by
  obtain ⟨s, m, v, h1, h2, h3⟩ := h
  exact (does_any h1 ok hN x hx).mono fun e w' ⟨g1, g2⟩ => ⟨g1, OwnF.step h2 h3 g2⟩
theorem own_trip {w w1 : World} {b : Nat} {d : Dk} (h : OwnF F w w1 b d) (n k : Int) : Calls Tryd.prog 36 #[.pointer (some ⟨b, 0, none⟩), .int .i64 n, .int .i64 k] w1 fun e w' => e = .returned (.tuple #[]) ∧ OwnF F w w' b (d.trip n k) := by
  obtain ⟨s, m, v, h1, h2, h3⟩ := h
  exact (trip_any h1 n k).mono fun e w' ⟨g1, g2, g3⟩ => ⟨g1, OwnF.step h2 h3 (Step.of g2 g3 (fun k e => .inl e))⟩
theorem own_wake {w w1 : World} {b : Nat} {d : Dk} (h : OwnF F w w1 b d) : Calls Tryd.prog 20 #[.pointer (some ⟨b, 0, none⟩)] w1 fun e w' => e = .returned (.tuple #[]) ∧ OwnF F w w' b d.wake := by
  obtain ⟨s, m, v, h1, h2, h3⟩ := h
  exact (wake_any h1).mono fun e w' ⟨g1, g2, g3⟩ => ⟨g1, OwnF.step h2 h3 (Step.of g2 g3 (fun k e => .inl e))⟩
theorem own_room {w w1 : World} {b : Nat} {d : Dk} (h : OwnF F w w1 b d) (n : Int) : Calls Tryd.prog 42 #[.pointer (some ⟨b, 0, none⟩), .int .i64 n] w1 fun e w' => e = .returned (.tuple #[]) ∧ OwnF F w w' b (d.setRoom n) := by
  obtain ⟨s, m, v, h1, h2, h3⟩ := h
  exact (room_any h1 n).mono fun e w' ⟨g1, g2, g3⟩ => ⟨g1, OwnF.step h2 h3 (Step.of g2 g3 (fun k e => .inl e))⟩
theorem own_read {w w1 : World} {b : Nat} {d : Dk} (h : OwnF F w w1 b d) (f : ByteArray) (hf : f.size ≤ 9223372036854775807) : Calls Tryd.prog 21 #[.pointer (some ⟨b, 0, none⟩), .string f] w1 fun e w' => e = .returned (.tuple #[.string (d.read f).1, .int .i64 (d.read f).2]) ∧ OwnF F w w' b d := by
  have h0 := h
  obtain ⟨s, m, v, h1, h2, h3⟩ := h
  exact (read_any h1 f hf).mono fun e w' ⟨g1, g2⟩ => ⟨g1, h0.quiet g2⟩
theorem own_waits {w w1 : World} {b : Nat} {d : Dk} (h : OwnF F w w1 b d) : Calls Tryd.prog 44 #[.pointer (some ⟨b, 0, none⟩)] w1 fun e w' => e = .returned (.int .i64 d.waits) ∧ OwnF F w w' b d := by
  have h0 := h
  obtain ⟨s, m, v, h1, h2, h3⟩ := h
  exact (waits_any h1).mono fun e w' ⟨g1, g2⟩ => ⟨g1, g2 ▸ h0⟩
theorem own_down {w w1 : World} {b : Nat} {d : Dk} (h : OwnF F w w1 b d) : Calls Tryd.prog 40 #[.pointer (some ⟨b, 0, none⟩)] w1 fun e w' => e = .returned (.bool d.down) ∧ OwnF F w w' b d := by
  have h0 := h
  obtain ⟨s, m, v, h1, h2, h3⟩ := h
  exact (down_any h1).mono fun e w' ⟨g1, g2⟩ => ⟨g1, g2 ▸ h0⟩
theorem own_calls {w w1 : World} {b : Nat} {d : Dk} (h : OwnF F w w1 b d) : Calls Tryd.prog 49 #[.pointer (some ⟨b, 0, none⟩)] w1 fun e w' => e = .returned (.int .i64 d.calls) ∧ OwnF F w w' b d := by
  have h0 := h
  obtain ⟨s, m, v, h1, h2, h3⟩ := h
  exact (calls_any h1).mono fun e w' ⟨g1, g2⟩ => ⟨g1, g2 ▸ h0⟩
end
end Go.Proofs.YtjobmlnekpaagaaDoor

/-! ### Layer 5's example. -/
namespace Go.Proofs.YtjobmlnekpaagaaDoor
open Go Go.RowKit Go.Maps
set_option linter.unusedVariables false

def akA : ByteArray := ⟨#[97]⟩
def ak1 : Dk := (Dk.new.put akA 0 ⟨#[120, 121, 122]⟩).1
def ak2 : Dk := ak1.sync.1
def ak3 : Dk := (ak2.put akA 3 ⟨#[117, 118, 119]⟩).1
def ak4 : Dk := ak3.fail 3
def ak5 : Dk := ak4.wake
theorem ak1_ok : ak1.Ok 1 := Dk.ok_new.put _ _ _
theorem ak2_ok : ak2.Ok 1 := ak1_ok.sync
theorem ak3_ok : ak3.Ok 2 := ak2_ok.put _ _ _
theorem ak_r1 : (Dk.new.put akA 0 ⟨#[120, 121, 122]⟩).2 = 0 := by decide +kernel
theorem ak_r2 : ak1.sync.2 = 0 := by decide +kernel
theorem ak_r3 : (ak2.put akA 3 ⟨#[117, 118, 119]⟩).2 = 0 := by decide +kernel
theorem ak_r4 : (ak4.read akA).2 = 8 := by decide +kernel
theorem ak_r5 : (ak5.read akA).2 = 0 := by decide +kernel
theorem ak_r6 : (ak5.read akA).1.data.toList = [120, 121, 122, 117, 118] := by decide +kernel
theorem ak_r7 : (ak5.read akA).1 = ⟨#[120, 121, 122, 117, 118]⟩ := Fm.data_inj ak_r6
set_option maxRecDepth 100000 in
set_option maxHeartbeats 1600000 in
theorem awake5 (w : World) : Calls Tryd.prog 14 #[] w fun e w' => e = .returned (.bool true) ∧ Kept (fun _ => False) w w' := by
  go_enter Tryd.func14, Tryd.ntmps14
  go_wp2_with fail
  refine (own_new (Kept.refl (fun _ => False) w)).mono ?_
  rintro e w1 ⟨b, rfl, h1⟩
  have H1 := Lib.hid h1
  clear h1
  go_wp2_with fail
  have hc := own_put H1.out Dk.ok_new (by decide) akA 0 ⟨#[120, 121, 122]⟩ (by decide) (by decide) ⟨by decide, by decide⟩
  rw [ak_r1] at hc
  refine hc.mono ?_
  clear hc
  rintro e w2 ⟨rfl, h2⟩
  have H2 := Lib.hid h2
  clear h2
  go_wp2_with fail
  have hc := own_sync H2.out ak1_ok (by decide)
  change Calls _ _ _ _ (fun e w' => e = .returned (.int .i64 ak1.sync.2) ∧ Own w w' b ak2) at hc
  rw [ak_r2] at hc
  refine hc.mono ?_
  clear hc
  rintro e w3 ⟨rfl, h3⟩
  have H3 := Lib.hid h3
  clear h3
  go_wp2_with fail
  have hc := own_put H3.out ak2_ok (by decide) akA 3 ⟨#[117, 118, 119]⟩ (by decide) (by decide) ⟨by decide, by decide⟩
  rw [ak_r3] at hc
  refine hc.mono ?_
  clear hc
  rintro e w4 ⟨rfl, h4⟩
  have H4 := Lib.hid h4
  clear h4
  go_wp2_with fail
  refine (own_fail (d := ak3) H4.out ak3_ok (by decide) 3 ⟨by decide, by decide⟩).mono ?_
  rintro e w5 ⟨rfl, h5⟩
  have H5 := Lib.hid h5
  clear h5
  go_wp2_with fail
  have hc := own_read (d := ak4) H5.out akA (by decide)
  rw [ak_r4] at hc
  refine hc.mono ?_
  clear hc
  rintro e w6 ⟨rfl, h6⟩
  have H6 := Lib.hid h6
  clear h6
  go_wp2_with fail
  refine (own_wake (d := ak4) H6.out).mono ?_
  rintro e w7 ⟨rfl, h7⟩
  have H7 := Lib.hid h7
  clear h7
  go_wp2_with fail
  have hc := own_read (d := ak5) H7.out akA (by decide)
  rw [ak_r5, ak_r7] at hc
  refine hc.mono ?_
  clear hc
  rintro e w8 ⟨rfl, h8⟩
  have H8 := Lib.hid h8
  clear h8
  go_wp2_with fail
  go_ret
  exact ⟨rfl, H8.out.kept⟩
end Go.Proofs.YtjobmlnekpaagaaDoor

/-! ### A nil disk, and one that is down: its calls. -/
namespace Go.Proofs.YtjobmlnekpaagaaDoor
open Go Go.RowKit Go.Maps
set_option linter.unusedVariables false

set_option maxRecDepth 100000 in
set_option maxHeartbeats 800000 in
theorem there_nil (f : ByteArray) (w : World) : Calls Tryd.prog 59 #[.pointer none, .string f] w fun e w' => e = .returned (.int .i64 1) ∧ w = w' := by
  go_enter Tryd.func59, Tryd.ntmps59
  go_wp2_with (first | (go_at_call 50; refine (ready_nil _).mono ?_; rintro e w1 ⟨rfl, rfl⟩))
  go_ret
  exact ⟨rfl, rfl⟩

set_option maxRecDepth 100000 in
set_option maxHeartbeats 800000 in
theorem put_nil (f : ByteArray) (a : Int) (t : ByteArray) (w : World) : Calls Tryd.prog 15 #[.pointer none, .string f, .int .i64 a, .string t] w fun e w' => e = .returned (.int .i64 1) ∧ w = w' := by
  go_enter Tryd.func15, Tryd.ntmps15
  go_wp2_with (first | (go_at_call 50; refine (ready_nil _).mono ?_; rintro e w1 ⟨rfl, rfl⟩))
  go_ret
  exact ⟨rfl, rfl⟩

set_option maxRecDepth 100000 in
set_option maxHeartbeats 800000 in
theorem trim_nil (f : ByteArray) (a : Int) (w : World) : Calls Tryd.prog 55 #[.pointer none, .string f, .int .i64 a] w fun e w' => e = .returned (.int .i64 1) ∧ w = w' := by
  go_enter Tryd.func55, Tryd.ntmps55
  go_wp2_with (first | (go_at_call 59; refine (there_nil _ _).mono ?_; rintro e w1 ⟨rfl, rfl⟩))
  go_ret
  exact ⟨rfl, rfl⟩

set_option maxRecDepth 100000 in
set_option maxHeartbeats 800000 in
theorem move_nil (f t : ByteArray) (w : World) : Calls Tryd.prog 56 #[.pointer none, .string f, .string t] w fun e w' => e = .returned (.int .i64 1) ∧ w = w' := by
  go_enter Tryd.func56, Tryd.ntmps56
  go_wp2_with (first | (go_at_call 50; refine (ready_nil _).mono ?_; rintro e w1 ⟨rfl, rfl⟩) | (go_at_call 59; refine (there_nil _ _).mono ?_; rintro e w1 ⟨rfl, rfl⟩))
  go_ret
  exact ⟨rfl, rfl⟩

set_option maxRecDepth 100000 in
set_option maxHeartbeats 800000 in
theorem drop_nil (f : ByteArray) (w : World) : Calls Tryd.prog 57 #[.pointer none, .string f] w fun e w' => e = .returned (.int .i64 1) ∧ w = w' := by
  go_enter Tryd.func57, Tryd.ntmps57
  go_wp2_with (first | (go_at_call 59; refine (there_nil _ _).mono ?_; rintro e w1 ⟨rfl, rfl⟩))
  go_ret
  exact ⟨rfl, rfl⟩

set_option maxRecDepth 100000 in
set_option maxHeartbeats 800000 in
theorem sync_nil (w : World) : Calls Tryd.prog 16 #[.pointer none] w fun e w' => e = .returned (.int .i64 1) ∧ w = w' := by
  go_enter Tryd.func16, Tryd.ntmps16
  go_wp2_with (first | (go_at_call 50; refine (ready_nil _).mono ?_; rintro e w1 ⟨rfl, rfl⟩))
  go_ret
  exact ⟨rfl, rfl⟩

set_option maxRecDepth 100000 in
set_option maxHeartbeats 800000 in
theorem fail_nil (k : Int) (w : World) : Calls Tryd.prog 19 #[.pointer none, .int .i64 k] w fun e w' => e = .returned (.tuple #[]) ∧ w = w' := by
  go_enter Tryd.func19, Tryd.ntmps19
  go_wp2_with (first | (go_at_call 50; refine (ready_nil _).mono ?_; rintro e w1 ⟨rfl, rfl⟩))
  go_returns
  exact ⟨rfl, rfl⟩

set_option maxRecDepth 100000 in
set_option maxHeartbeats 800000 in
theorem trip_nil (n k : Int) (w : World) : Calls Tryd.prog 36 #[.pointer none, .int .i64 n, .int .i64 k] w fun e w' => e = .returned (.tuple #[]) ∧ w = w' := by
  go_enter Tryd.func36, Tryd.ntmps36
  go_wp2
  go_end0
  exact ⟨rfl, rfl⟩

set_option maxRecDepth 100000 in
set_option maxHeartbeats 800000 in
theorem wake_nil (w : World) : Calls Tryd.prog 20 #[.pointer none] w fun e w' => e = .returned (.tuple #[]) ∧ w = w' := by
  go_enter Tryd.func20, Tryd.ntmps20
  go_wp2
  go_end0
  exact ⟨rfl, rfl⟩

set_option maxRecDepth 100000 in
set_option maxHeartbeats 800000 in
theorem room_nil (n : Int) (w : World) : Calls Tryd.prog 42 #[.pointer none, .int .i64 n] w fun e w' => e = .returned (.tuple #[]) ∧ w = w' := by
  go_enter Tryd.func42, Tryd.ntmps42
  go_wp2
  go_end0
  exact ⟨rfl, rfl⟩

set_option maxRecDepth 100000 in
set_option maxHeartbeats 800000 in
theorem names_nil (w : World) : Calls Tryd.prog 48 #[.pointer none] w fun e w' => e = .returned (.slice none 0 0) ∧ w = w' := by
  go_enter Tryd.func48, Tryd.ntmps48
  go_wp2_with (first | (go_at_call 50; refine (ready_nil _).mono ?_; rintro e w1 ⟨rfl, rfl⟩))
  go_ret
  exact ⟨rfl, rfl⟩

set_option maxRecDepth 100000 in
set_option maxHeartbeats 800000 in
theorem used_nil (w : World) : Calls Tryd.prog 43 #[.pointer none] w fun e w' => e = .returned (.int .i64 0) ∧ w = w' := by
  go_enter Tryd.func43, Tryd.ntmps43
  go_wp2_with (first | (go_at_call 50; refine (ready_nil _).mono ?_; rintro e w1 ⟨rfl, rfl⟩))
  go_ret
  exact ⟨rfl, rfl⟩

set_option maxRecDepth 100000 in
set_option maxHeartbeats 800000 in
theorem waits_nil (w : World) : Calls Tryd.prog 44 #[.pointer none] w fun e w' => e = .returned (.int .i64 0) ∧ w = w' := by
  go_enter Tryd.func44, Tryd.ntmps44
  go_wp2_with (first | (go_at_call 50; refine (ready_nil _).mono ?_; rintro e w1 ⟨rfl, rfl⟩))
  go_ret
  exact ⟨rfl, rfl⟩

set_option maxRecDepth 100000 in
set_option maxHeartbeats 800000 in
theorem calls_nil (w : World) : Calls Tryd.prog 49 #[.pointer none] w fun e w' => e = .returned (.int .i64 0) ∧ w = w' := by
  go_enter Tryd.func49, Tryd.ntmps49
  go_wp2
  go_ret
  exact ⟨rfl, rfl⟩

set_option maxRecDepth 100000 in
set_option maxHeartbeats 800000 in
theorem down_nil (w : World) : Calls Tryd.prog 40 #[.pointer none] w fun e w' => e = .returned (.bool true) ∧ w = w' := by
  go_enter Tryd.func40, Tryd.ntmps40
  go_wp2
  go_ret
  exact ⟨rfl, rfl⟩

set_option maxRecDepth 100000 in
set_option maxHeartbeats 800000 in
theorem names_down {w : World} {b s m : Nat} {v : Value} {d : Dk} (h : DiskAt w b s m v d) (hd : d.down = true) : Calls Tryd.prog 48 #[.pointer (some ⟨b, 0, none⟩)] w fun e w' => e = .returned (.slice none 0 0) ∧ w = w' := by
  have hr := ready_down h hd
  clear h hd
  go_enter Tryd.func48, Tryd.ntmps48
  go_wp2_with (first | (go_at_call 50; refine hr.mono ?_; rintro e w1 ⟨rfl, rfl⟩))
  go_ret
  exact ⟨rfl, rfl⟩

set_option maxRecDepth 100000 in
set_option maxHeartbeats 800000 in
theorem used_down {w : World} {b s m : Nat} {v : Value} {d : Dk} (h : DiskAt w b s m v d) (hd : d.down = true) : Calls Tryd.prog 43 #[.pointer (some ⟨b, 0, none⟩)] w fun e w' => e = .returned (.int .i64 0) ∧ w = w' := by
  have hr := ready_down h hd
  clear h hd
  go_enter Tryd.func43, Tryd.ntmps43
  go_wp2_with (first | (go_at_call 50; refine hr.mono ?_; rintro e w1 ⟨rfl, rfl⟩))
  go_ret
  exact ⟨rfl, rfl⟩

set_option maxRecDepth 100000 in
set_option maxHeartbeats 800000 in
theorem read_nil (f : ByteArray) (w : World) : Calls Tryd.prog 21 #[.pointer none, .string f] w fun e w' => e = .returned (.tuple #[.string .empty, .int .i64 1]) ∧ w = w' := by
  go_enter Tryd.func21, Tryd.ntmps21
  go_wp2_with (first | (go_at_call 59; refine (there_nil _ _).mono ?_; rintro e w1 ⟨rfl, rfl⟩))
  go_ret2
  exact ⟨rfl, rfl⟩

def nilDoes (k : Int) : Int := if k = 0 ∨ k = 1 ∨ k = 2 ∨ k = 3 ∨ k = 4 then 1 else 0

set_option maxRecDepth 100000 in
set_option maxHeartbeats 4000000 in
theorem does_nil (x : DAct) (hx : x.Wf) (w : World) : Calls Tryd.prog 18 #[.pointer none, .agg x.cells.toArray] w fun e w' => e = .returned (.int .i64 (nilDoes x.kind)) ∧ Kept (fun _ => False) w w' := by
  obtain ⟨kind, name, n, mm, t⟩ := x
  simp only [DAct.cells]
  clear hx
  have HB := Lib.hid ((Kept.refl (fun _ => False) w).alloc (.cells #[.int .i64 kind, .string name, .int .i64 n, .int .i64 mm, .string t] 31))
  by_cases c0 : kind = 0
  · subst c0
    have HE : Hid (nilDoes 0 = 1) := by unfold Hid nilDoes; decide
    go_enter Tryd.func18, Tryd.ntmps18
    go_wp2_with (go_at_call 15; refine (put_nil _ _ _ _).mono ?_; rintro e w1 ⟨rfl, rfl⟩)
    go_ret
    rw [HE.out]
    exact ⟨rfl, HB.out⟩
  by_cases c1 : kind = 1
  · subst c1
    have HE : Hid (nilDoes 1 = 1) := by unfold Hid nilDoes; decide
    go_enter Tryd.func18, Tryd.ntmps18
    go_wp2_with (go_at_call 55; refine (trim_nil _ _ _).mono ?_; rintro e w1 ⟨rfl, rfl⟩)
    go_ret
    rw [HE.out]
    exact ⟨rfl, HB.out⟩
  by_cases c2 : kind = 2
  · subst c2
    have HE : Hid (nilDoes 2 = 1) := by unfold Hid nilDoes; decide
    go_enter Tryd.func18, Tryd.ntmps18
    go_wp2_with (go_at_call 56; refine (move_nil _ _ _).mono ?_; rintro e w1 ⟨rfl, rfl⟩)
    go_ret
    rw [HE.out]
    exact ⟨rfl, HB.out⟩
  by_cases c3 : kind = 3
  · subst c3
    have HE : Hid (nilDoes 3 = 1) := by unfold Hid nilDoes; decide
    go_enter Tryd.func18, Tryd.ntmps18
    go_wp2_with (go_at_call 57; refine (drop_nil _ _).mono ?_; rintro e w1 ⟨rfl, rfl⟩)
    go_ret
    rw [HE.out]
    exact ⟨rfl, HB.out⟩
  by_cases c4 : kind = 4
  · subst c4
    have HE : Hid (nilDoes 4 = 1) := by unfold Hid nilDoes; decide
    go_enter Tryd.func18, Tryd.ntmps18
    go_wp2_with (go_at_call 16; refine (sync_nil _).mono ?_; rintro e w1 ⟨rfl, rfl⟩)
    go_ret
    rw [HE.out]
    exact ⟨rfl, HB.out⟩
  by_cases c5 : kind = 5
  · subst c5
    have HE : Hid (nilDoes 5 = 0) := by unfold Hid nilDoes; decide
    go_enter Tryd.func18, Tryd.ntmps18
    go_wp2_with (go_at_call 19; refine (fail_nil _ _).mono ?_; rintro e w1 ⟨rfl, rfl⟩)
    go_ret
    rw [HE.out]
    exact ⟨rfl, HB.out⟩
  by_cases c6 : kind = 6
  · subst c6
    have HE : Hid (nilDoes 6 = 0) := by unfold Hid nilDoes; decide
    go_enter Tryd.func18, Tryd.ntmps18
    go_wp2_with (go_at_call 36; refine (trip_nil _ _ _).mono ?_; rintro e w1 ⟨rfl, rfl⟩)
    go_ret
    rw [HE.out]
    exact ⟨rfl, HB.out⟩
  by_cases c7 : kind = 7
  · subst c7
    have HE : Hid (nilDoes 7 = 0) := by unfold Hid nilDoes; decide
    go_enter Tryd.func18, Tryd.ntmps18
    go_wp2_with (go_at_call 20; refine (wake_nil _).mono ?_; rintro e w1 ⟨rfl, rfl⟩)
    go_ret
    rw [HE.out]
    exact ⟨rfl, HB.out⟩
  by_cases c8 : kind = 8
  · subst c8
    have HE : Hid (nilDoes 8 = 0) := by unfold Hid nilDoes; decide
    go_enter Tryd.func18, Tryd.ntmps18
    go_wp2_with (go_at_call 42; refine (room_nil _ _).mono ?_; rintro e w1 ⟨rfl, rfl⟩)
    go_ret
    rw [HE.out]
    exact ⟨rfl, HB.out⟩

  have e0 : (kind == 0) = false := by simpa using c0
  have e1 : (kind == 1) = false := by simpa using c1
  have e2 : (kind == 2) = false := by simpa using c2
  have e3 : (kind == 3) = false := by simpa using c3
  have e4 : (kind == 4) = false := by simpa using c4
  have e5 : (kind == 5) = false := by simpa using c5
  have e6 : (kind == 6) = false := by simpa using c6
  have e7 : (kind == 7) = false := by simpa using c7
  have e8 : (kind == 8) = false := by simpa using c8
  have HE : Hid (nilDoes kind = 0) := by unfold Hid nilDoes; rw [if_neg (by omega)]
  clear c0 c1 c2 c3 c4 c5 c6 c7 c8
  go_enter Tryd.func18, Tryd.ntmps18
  go_wp2
  go_ret
  rw [HE.out]
  exact ⟨rfl, HB.out⟩
end Go.Proofs.YtjobmlnekpaagaaDoor
