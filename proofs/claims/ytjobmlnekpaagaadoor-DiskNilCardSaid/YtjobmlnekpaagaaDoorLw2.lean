/- The acts that are looked at. -/
import Derived.Test.YtjobmlnekpaagaaDoorLw1
namespace Go.Proofs.YtjobmlnekpaagaaDoor
open Go Go.RowKit Go.Maps
set_option linter.unusedVariables false

/-- A slice of acts is read. -/
def ReadsActs (w : World) (A : Option Addr) (n : Nat) (xs : List DAct) : Prop :=
  xs.length = n ∧ n ≤ 2513169434916 ∧ (∀ x ∈ xs, x.Wf) ∧ (n = 0 ∨ ∃ g off, A = some ⟨g, off, none⟩ ∧ g < w.heap.size ∧ ∀ i x, xs[i]? = some x → ∀ j u, x.cells[j]? = some u → w.cell? ⟨g, off + i * 5 + j, none⟩ = some u)
theorem ReadsActs.kept {w w' : World} {A : Option Addr} {n : Nat} {xs : List DAct} (h : ReadsActs w A n xs) (hk : Kept (fun _ => False) w w') : ReadsActs w' A n xs := by
  obtain ⟨h1, h2, h3, h4⟩ := h
  refine ⟨h1, h2, h3, h4.imp id fun ⟨g, off, hA, hg, hc⟩ => ⟨g, off, hA, Nat.lt_of_lt_of_le hg hk.size, fun i x hi j u hj => ?_⟩⟩
  rw [hk.cell hg (fun f => f)]
  exact hc i x hi j u hj
def mostGo : Nat → List DAct → List DAct
  | _, [] => []
  | k, x :: r => if 60 ≤ k then [] else if x.s.size ≤ 3000 then x :: mostGo (k + 1) r else mostGo k r
def mostOf (xs : List DAct) : List DAct := mostGo 0 xs
theorem mostGo_keep {i : Nat} {xs acc : List DAct} {x : DAct} (hx : xs[i]? = some x) (hk : acc.length < 60) (hs : x.s.size ≤ 3000) (h : mostOf xs = acc ++ mostGo acc.length (xs.drop i)) : mostOf xs = (acc ++ [x]) ++ mostGo (acc ++ [x]).length (xs.drop (i + 1)) := by
  obtain ⟨hi, hx'⟩ := List.getElem?_eq_some_iff.1 hx
  rw [h, List.drop_eq_getElem_cons hi, hx']
  conv => lhs; unfold mostGo
  rw [if_neg (by omega), if_pos hs]
  simp
theorem mostGo_skip {i : Nat} {xs acc : List DAct} {x : DAct} (hx : xs[i]? = some x) (hk : acc.length < 60) (hs : ¬ x.s.size ≤ 3000) (h : mostOf xs = acc ++ mostGo acc.length (xs.drop i)) : mostOf xs = acc ++ mostGo acc.length (xs.drop (i + 1)) := by
  obtain ⟨hi, hx'⟩ := List.getElem?_eq_some_iff.1 hx
  rw [h, List.drop_eq_getElem_cons hi, hx']
  conv => lhs; unfold mostGo
  rw [if_neg (by omega), if_neg hs]
theorem mostGo_full {k : Nat} (hk : 60 ≤ k) (l : List DAct) : mostGo k l = [] := by
  cases l with
  | nil => rfl
  | cons x r => unfold mostGo; rw [if_pos hk]
theorem mostGo_sub : ∀ (k : Nat) (l : List DAct), ∀ x ∈ mostGo k l, x ∈ l ∧ x.s.size ≤ 3000
  | _, [], x, h => by cases h
  | k, y :: r, x, h => by
    unfold mostGo at h
    split at h
    · cases h
    · split at h
      · rcases List.mem_cons.1 h with rfl | h
        · exact ⟨by simp, by assumption⟩
        · exact ⟨List.mem_cons_of_mem _ (mostGo_sub _ _ x h).1, (mostGo_sub _ _ x h).2⟩
      · exact ⟨List.mem_cons_of_mem _ (mostGo_sub _ _ x h).1, (mostGo_sub _ _ x h).2⟩
theorem mostGo_length : ∀ (k : Nat) (l : List DAct), (mostGo k l).length ≤ 60 - k
  | _, [] => Nat.zero_le _
  | k, y :: r => by
    unfold mostGo
    split
    · simp
    · split
      · have := mostGo_length (k + 1) r
        simp
        omega
      · exact mostGo_length k r
def flat (xs : List DAct) : List Value := xs.flatMap DAct.cells
theorem flat_snoc (xs : List DAct) (x : DAct) : flat (xs ++ [x]) = flat xs ++ x.cells := by unfold flat; simp
theorem cells_length (x : DAct) : x.cells.length = 5 := rfl
theorem flat_length (xs : List DAct) : (flat xs).length = xs.length * 5 := by
  induction xs with
  | nil => rfl
  | cons x r ih => unfold flat at *; rw [List.flatMap_cons, List.length_append, ih, List.length_cons, cells_length]; omega
theorem own_base {w : World} {base : Nat} {e : TypeId} {size n : Nat} {v : Value} {xs : List Value} (h : w.ownsRow base e size v n xs) (k : Nat) (hk : v.ownBlock = some k) : base ≤ k := by
  rcases h.2 with ⟨rfl, _⟩ | ⟨g, cap, cur, rfl, hb, _⟩
  · simp [Value.ownBlock] at hk
  · have : g = k := by simpa [Value.ownBlock] using hk
    omega
theorem news_at (w : World) (l : List Value) (T : TypeId) : ∀ (j : Nat) u, l[j]? = some u → (w.alloc (.cells l.toArray T)).cell? ((⟨w.heap.size, 0, none⟩ : Addr).add j) = some u := by
  intro j u hj
  have h2 : (⟨w.heap.size, 0, none⟩ : Addr).add j = ⟨w.heap.size, j, none⟩ := by unfold Addr.add; split <;> simp_all
  rw [h2, cell_of_block (block_new w (.cells l.toArray T)) j]
  simpa using hj
theorem cells_one (x : DAct) : ∀ u ∈ x.cells, u.oneCell' = true := by
  intro u hu
  simp only [DAct.cells, List.mem_cons, List.not_mem_nil, or_false] at hu
  rcases hu with rfl | rfl | rfl | rfl | rfl <;> rfl
theorem info_act : (Tryd.prog.info? 31).map (fun i => (i.zero, i.size, i.bytes)) = some (some (.agg #[.int .i64 0, .string ⟨#[]⟩, .int .i64 0, .int .i64 0, .string ⟨#[]⟩]), 5, 56) := by kernel_rfl
theorem uT_acts : Tryd.prog.underlying 22 = some (.slice 31) := by kernel_rfl
set_option maxRecDepth 100000 in
set_option maxHeartbeats 1600000 in
theorem most_any {w : World} {A : Option Addr} {n c : Nat} {xs : List DAct} (h : ReadsActs w A n xs) :
    Calls Tryd.prog 17 #[.slice A n c] w fun e w' => ∃ v', e = .returned v' ∧ w'.ownsRow w.heap.size 31 5 v' (mostOf xs).length (flat (mostOf xs)) ∧ Kept (fun _ => False) w w' := by
  obtain ⟨hl, hn, hwf, hcells⟩ := h
  obtain ⟨i0, hi, hz0, hz1, hz2⟩ := info_parts info_act
  rcases hcells with h0 | ⟨g, off, rfl, hg, hc⟩
  · have hx : xs = [] := by cases xs with | nil => rfl | cons a r => simp at hl; omega
    subst hx
    obtain rfl : n = 0 := h0
    go_enter Tryd.func17, Tryd.ntmps17
    go_wp2
    refine wp_loop_rounds 1 ?_
    rw [rounds_succ]
    go_wp2
    go_ret
    exact ⟨_, rfl, ⟨by simp [mostOf, mostGo, flat], .inl ⟨rfl, by simp [mostOf, mostGo]⟩⟩, Kept.refl _ _⟩
  · have HC := Lib.hid hc
    have HWF := Lib.hid hwf
    have HL := Lib.hid hl
    clear hc hwf hl
    go_enter Tryd.func17, Tryd.ntmps17
    go_wp2
    go_loopw [3, 4] (fun v3 v4 wr => ∃ (i : Nat) (acc : List DAct) (Av : Option Addr) (cv : Nat), i ≤ n ∧ v4 = .int .i64 i ∧ v3 = .slice Av acc.length cv ∧ wr.ownsRow w.heap.size 31 5 (.slice Av acc.length cv) acc.length (flat acc) ∧ acc.length ≤ 60 ∧ Hid (mostOf xs = acc ++ mostGo acc.length (xs.drop i)) ∧ Kept (fun _ => False) w wr)
      (fun _ v4 _ => n - (intOf v4).toNat)
    case atStart => exact ⟨0, [], none, 0, Nat.zero_le _, rfl, rfl, ⟨by simp [flat], .inl ⟨rfl, rfl⟩⟩, by simp, rfl, Kept.refl _ _⟩
    case round =>
      obtain ⟨i, acc, Av, cv, hin, rfl, rfl, hrow, hacc, hmo, hkw⟩ := hrel
      have hrow0 := Lib.hid hrow
      by_cases hlt : i < n
      · have hd1 : decide (i < n) = true := by simpa using hlt
        by_cases h60 : acc.length < 60
        · have hd2 : decide (acc.length < 60) = true := by simpa using h60
          have hd3 : decide ((acc.length : Int) < 60) = true := decide_eq_true (by omega)
          obtain ⟨x, hx⟩ : ∃ x, xs[i]? = some x := ⟨xs[i]'(by rw [HL.out]; exact hlt), List.getElem?_eq_getElem _⟩
          have hcx := fun j u h => (hkw.cell (p := ⟨g, off + i * 5 + j, none⟩) hg (fun f => f)).trans (HC.out i x hx j u h)
          have x0 : wr.cell? ⟨g, off + i * 5, none⟩ = some (.int .i64 x.kind) := hcx 0 _ rfl
          have x1 := hcx 1 _ rfl
          have x2 := hcx 2 _ rfl
          have x3 := hcx 3 _ rfl
          have x4 := hcx 4 _ rfl
          have hw := HWF.out x (List.mem_of_getElem? hx)
          have HX := Lib.hid hx
          have HW := Lib.hid hw
          clear hcx hx hw
          by_cases hs : x.s.size ≤ 3000
          · go_wp2_with (at_builtin; refine wpList_append_own_at _ rfl _ _ 22 rfl w.heap.size 31 i0 _ 5 56 uT_acts hi hz0 hz1 hz2 rfl (by decide) _ _ _ rfl (hrow.alloc _) ⟨wr.heap.size, 0, none⟩ 1 1 x.cells rfl rfl (news_at _ _ _) (cells_one x) (by unfold maxLen; omega) (by omega) (by have := hkw.size; simp; omega) ?_; intro v' w2 hrow2 hg2 hnil hloc; obtain ⟨gg, gcap, rfl⟩ := row_succ hrow2; have HR2 := Lib.hid hrow2; have HL2 := Lib.hid hloc; have HG2 := Lib.hid hg2; clear hnil hrow2 hloc hg2 hrow)
            go_roundw
            case rel => exact ⟨i + 1, acc ++ [x], some ⟨gg, 0, none⟩, gcap, by omega, by go_num, by simp, by rw [flat_snoc]; simpa using HR2.out, by simp; omega, mostGo_keep HX.out h60 hs hmo, (hkw.alloc _).grown HG2.out fun k hk hlt => by have := own_base hrow0.out k hk; omega⟩
            case measure => simp [intOf]; omega
          · go_wp2_with fail
            go_roundw
            case rel => exact ⟨i + 1, acc, Av, cv, by omega, by go_num, rfl, hrow, hacc, mostGo_skip HX.out h60 hs hmo, hkw⟩
            case measure => simp [intOf]; omega
        · have hd2 : decide (acc.length < 60) = false := by simpa using h60
          have hd3 : decide ((acc.length : Int) < 60) = false := decide_eq_false (by omega)
          have he : mostOf xs = acc := by rw [hmo.out, mostGo_full (by omega)]; simp
          have HE := Lib.hid he
          clear he
          go_wp2_with fail
          go_ret
          rw [HE.out]
          exact ⟨_, rfl, hrow, hkw⟩
      · have hd1 : decide (i < n) = false := by simpa using hlt
        have he : mostOf xs = acc := by rw [hmo.out, List.drop_eq_nil_of_le (by have := HL.out; omega)]; simp [mostGo]
        have HE := Lib.hid he
        clear he
        go_wp2_with fail
        go_ret
        rw [HE.out]
        exact ⟨_, rfl, hrow, hkw⟩
end Go.Proofs.YtjobmlnekpaagaaDoor
