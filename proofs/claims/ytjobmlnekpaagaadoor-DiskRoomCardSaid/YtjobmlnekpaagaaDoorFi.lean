/- auspicelaw05.Files, walked. -/
import Derived.Test.YtjobmlnekpaagaaDoorNm
import Derived.Test.YtjobmlnekpaagaaDoorMC
namespace Go.Proofs.YtjobmlnekpaagaaDoor
open Go Go.RowKit Go.Maps
set_option linter.unusedVariables false

theorem Dk.Ok.read_le {d : Dk} {N : Nat} (ok : d.Ok N) (f : ByteArray) : (d.read f).1.size ≤ 1099511627776 := by
  unfold Dk.read
  split
  · show ByteArray.empty.size ≤ _
    simp
  · have := ok.nowSmall.get f
    show (d.now.get f).size ≤ _
    omega
/-- Files: names and texts. -/
abbrev FL := List (ByteArray × ByteArray)
def fCells (p : ByteArray × ByteArray) : List Value := [.string p.1, .string p.2]
def flatF (xs : FL) : List Value := xs.flatMap fCells
theorem flatF_snoc (xs : FL) (x : ByteArray × ByteArray) : flatF (xs ++ [x]) = flatF xs ++ fCells x := by unfold flatF; simp
theorem fCells_one (x : ByteArray × ByteArray) : ∀ u ∈ fCells x, u.oneCell' = true := by
  intro u hu
  simp only [fCells, List.mem_cons, List.not_mem_nil, or_false] at hu
  rcases hu with rfl | rfl <;> rfl
theorem info_file : (Tryd.prog.info? 129).map (fun i => (i.zero, i.size, i.bytes)) = some (some (.agg #[.string ⟨#[]⟩, .string ⟨#[]⟩]), 2, 32) := by kernel_rfl
theorem uT_files : Tryd.prog.underlying 77 = some (.slice 129) := by kernel_rfl
/-- The names of files, rising. -/
def sortedNames (m : Fm) : List ByteArray := ((m.map fun p => p.1.data.toList).mergeSort leB).map fun l => ⟨l.toArray⟩
/-- A disk's files, as 'Files' tells them. -/
def Dk.files (d : Dk) : FL := if d.down then [] else (sortedNames d.now).map fun n => (n, (d.read n).1)
theorem sortedNames_length (m : Fm) : (sortedNames m).length = m.length := by
  unfold sortedNames
  rw [List.length_map, List.length_mergeSort, List.length_map]
theorem strKeys_toD (m : Fm) : strKeys (Fm.toD (H := Unit) m) = m.map fun p => p.1.data.toList := by
  show List.map _ (List.map Fm.ent m) = _
  rw [List.map_map]
  rfl
theorem names_enc {m : Fm} {ss : List (List UInt8)} (h : ss.Perm (strKeys (Fm.toD (H := Unit) m))) : (ss.mergeSort (fun x y => decide (x ≤ y))).map encStr = (sortedNames m).map Value.string ∧ ss.length = (sortedNames m).length := by
  rw [strKeys_toD] at h
  refine ⟨?_, ?_⟩
  · rw [mergeSort_of_perm h]
    unfold sortedNames
    rw [List.map_map]
    rfl
  · rw [sortedNames_length, h.length_eq, List.length_map]
theorem names_all {w : World} {b s m : Nat} {v : Value} {N : Nat} {d : Dk} (h : DiskAt w b s m v d) (ok : d.Ok N) (hN : N ≤ 1099511627776) (hd : d.down = false) :
    Calls Tryd.prog 48 #[.pointer (some ⟨b, 0, none⟩)] w fun e w' => ∃ v : Value, e = .returned v ∧ w'.ownsRow w.heap.size 9 1 v (sortedNames d.now).length ((sortedNames d.now).map Value.string) ∧ Kept (fun _ => False) w w' :=
  (names_up h ok hN hd).mono fun e w' ⟨v, ss, h1, h2, h3, h4, h5⟩ => by
    obtain ⟨a, c⟩ := names_enc h2
    rw [a, c] at h3
    exact ⟨v, h1, h3, h5⟩
/-- A row of texts, cell by cell. -/
theorem row_strs {w : World} {base : Nat} {v : Value} {xs : List ByteArray} (h : w.ownsRow base 9 1 v xs.length (xs.map Value.string)) :
    (v = .slice none 0 0 ∧ xs = []) ∨ ∃ g cap, v = .slice (some ⟨g, 0, none⟩) xs.length cap ∧ base ≤ g ∧ g < w.heap.size ∧ ∀ i x, xs[i]? = some x → w.cell? ⟨g, i, none⟩ = some (.string x) := by
  rcases h.2 with ⟨hv, hx⟩ | ⟨g, cap, cur, rfl, hg, hh, r⟩
  · exact .inl ⟨hv, List.length_eq_zero_iff.1 hx⟩
  · refine .inr ⟨g, cap, rfl, hg, (Array.getElem?_eq_some_iff.1 hh).1, fun i x hx => ?_⟩
    have h1 := h.cells (g := g) rfl i (.string x) (by rw [List.getElem?_map, hx]; rfl)
    have h2 : (⟨g, 0, none⟩ : Addr).add i = ⟨g, i, none⟩ := by unfold Addr.add; split <;> simp_all
    rw [← h2]
    exact h1
theorem names_size {w : World} {b : Nat} {m : Fm} (h : MapAt w b m) : ∀ n ∈ sortedNames m, n.size ≤ 9223372036854775807 := by
  intro n hn
  unfold sortedNames at hn
  obtain ⟨l, hl, rfl⟩ := List.mem_map.1 hn
  have hl2 := (List.mergeSort_perm _ _).mem_iff.1 hl
  have := strKeys_le h uT_str l (by rw [strKeys_toD]; exact hl2)
  have e : (⟨l.toArray⟩ : ByteArray).size = l.length := by simp [ByteArray.size]
  rw [e]
  simpa [maxLen] using this
set_option maxRecDepth 100000 in
set_option maxHeartbeats 1600000 in
theorem files_down {w : World} {b s m : Nat} {v : Value} {d : Dk} (h : DiskAt w b s m v d) (hd : d.down = true) :
    Calls Tryd.prog 45 #[.pointer (some ⟨b, 0, none⟩)] w fun e w' => e = .returned (.slice none 0 0) ∧ w = w' := by
  have hn := names_down h hd
  go_enter Tryd.func45, Tryd.ntmps45
  go_wp2_with fail
  refine hn.mono ?_
  rintro e w1 ⟨rfl, rfl⟩
  go_wp2_with fail
  refine wp_loop_rounds 1 ?_
  rw [rounds_succ]
  go_wp2_with fail
  go_ret
  exact ⟨rfl, rfl⟩
set_option maxRecDepth 100000 in
set_option maxHeartbeats 4000000 in
theorem files_up {w : World} {b s m : Nat} {v : Value} {N : Nat} {d : Dk} (h : DiskAt w b s m v d) (ok : d.Ok N) (hN : N ≤ 1099511627776) (hd : d.down = false) :
    Calls Tryd.prog 45 #[.pointer (some ⟨b, 0, none⟩)] w fun e w' => ∃ v', e = .returned v' ∧ w'.ownsRow w.heap.size 129 2 v' d.files.length (flatF d.files) ∧ Kept (fun _ => False) w w' := by
  have hn := names_all h ok hN hd
  have hsz := names_size h.now
  have hlen : (sortedNames d.now).length ≤ 1099511627776 := by rw [sortedNames_length]; have := ok.len1; omega
  have hfiles : d.files = (sortedNames d.now).map fun n => (n, (d.read n).1) := by unfold Dk.files; rw [if_neg (by rw [hd]; decide)]
  have HRD := Lib.hid (fun w1 (h1 : DiskAt w1 b s m v d) f hf => read_any h1 f hf)
  have HRZ := Lib.hid (fun f => ok.read_le f)
  rw [hfiles]
  clear hfiles ok hd
  generalize d.read = rd at *
  generalize sortedNames d.now = ns at *
  have H := Lib.hid h
  have HSZ := Lib.hid hsz
  clear h hsz
  obtain ⟨i0, hi, hz0, hz1, hz2⟩ := info_parts info_file
  go_enter Tryd.func45, Tryd.ntmps45
  go_wp2_with fail
  refine hn.mono ?_
  rintro e w1 ⟨v1, rfl, hrow1, hk1⟩
  clear hn
  have hsh := row_strs hrow1
  clear hrow1
  rcases hsh with ⟨rfl, rfl⟩ | ⟨gn, capn, rfl, hgb, hgn, hcn⟩
  · go_wp2_with fail
    refine wp_loop_rounds 1 ?_
    rw [rounds_succ]
    go_wp2_with fail
    go_ret
    exact ⟨_, rfl, ⟨by simp [flatF], .inl ⟨rfl, rfl⟩⟩, hk1⟩
  · have HCN := Lib.hid hcn
    have HK1 := Lib.hid hk1
    have HD := Lib.hid (H.out.kept hk1 (fun _ _ f => f))
    clear hcn hk1 H
    go_wp2_with fail
    go_loopw [3, 5, 6, 7] (fun v3 v5 v6 v7 wr => ∃ (i : Nat) (acc : FL) (Av : Option Addr) (cv : Nat), i ≤ ns.length ∧ v5 = .int .i64 i ∧ v3 = .slice Av acc.length cv ∧ wr.ownsRow w1.heap.size 129 2 (.slice Av acc.length cv) acc.length (flatF acc) ∧ Hid (acc = (ns.take i).map fun n => (n, (rd n).1)) ∧ Hid (acc.length = i) ∧ Kept (fun _ => False) w1 wr)
      (fun _ v5 _ _ _ => ns.length - (intOf v5).toNat)
    case atStart => exact ⟨0, [], none, 0, Nat.zero_le _, rfl, rfl, ⟨by simp [flatF], .inl ⟨rfl, rfl⟩⟩, by unfold Hid; simp, rfl, Kept.refl _ _⟩
    case round =>
      obtain ⟨i, acc, Av, cv, hin, rfl, rfl, hrow, hacc, hal, hkw⟩ := hrel
      have hrow0 := Lib.hid hrow
      have HKW := Lib.hid hkw
      clear hkw
      by_cases hlt : i < ns.length
      · have hd1 : decide (i < ns.length) = true := by simpa using hlt
        obtain ⟨x, hx⟩ : ∃ x, ns[i]? = some x := ⟨ns[i]'hlt, List.getElem?_eq_getElem _⟩
        have hcx := (HKW.out.cell (p := ⟨gn, i, none⟩) hgn (fun f => f)).trans (HCN.out i x hx)
        have hs := HSZ.out x (List.mem_of_getElem? hx)
        have HX := Lib.hid hx
        have HRX := Lib.hid (HRD.out wr (HD.out.kept HKW.out (fun _ _ f => f)) x hs)
        have HRS := Lib.hid (HRZ.out x)
        obtain ⟨t, ht⟩ : ∃ t, t = (rd x).1 := ⟨_, rfl⟩
        have HT := Lib.hid ht
        rw [← ht] at HRX HRS
        generalize (rd x).2 = e0 at *
        clear hx ht
        go_wp2_with fail
        refine HRX.out.mono ?_
        rintro e w3 ⟨rfl, hk3⟩
        have hcx3 := (hk3.cell (p := ⟨gn, i, none⟩) (Nat.lt_of_lt_of_le hgn HKW.out.size) (fun f => f)).trans hcx
        have hrow3 := row_kept hrow hk3 (fun _ _ f => f)
        have HK3 := Lib.hid (HKW.out.trans hk3)
        have hrow03 := Lib.hid hrow3
        have hle3 := hk3.size
        have hle1 := HKW.out.size
        have hle0 := HK1.out.size
        have HLE := Lib.hid hle3
        have HLE1 := Lib.hid hle1
        have HLE0 := Lib.hid hle0
        clear hcx hrow hk3 hle3 hle1 hle0
        go_wp2_with (at_builtin; refine wpList_append_own_at _ rfl _ _ 77 rfl w1.heap.size 129 i0 _ 2 32 uT_files hi hz0 hz1 hz2 rfl (by decide) _ _ _ rfl (hrow3.alloc _) ⟨w3.heap.size, 0, none⟩ 1 1 (fCells (x, t)) rfl rfl (news_at _ _ _) (fCells_one (x, t)) (by have := hal.out; unfold maxLen; omega) (by have := hal.out; omega) (by have := HLE.out; have := HLE1.out; have := HLE0.out; simp; omega) ?_; intro v' w4 hrow4 hg4 hnil hloc; have HR4 := Lib.hid hrow4; have HL4 := Lib.hid hloc; have HG4 := Lib.hid hg4; have HN4 := Lib.hid hnil; clear hnil hrow4 hloc hg4 hrow3)
        have hr4 := HR4.out
        obtain ⟨gg, gcap, rfl⟩ := row_succ hr4
        clear hr4
        go_roundw
        case rel => exact ⟨i + 1, acc ++ [(x, t)], some ⟨gg, 0, none⟩, gcap, by omega, by go_num, by simp, by rw [flatF_snoc]; simpa using HR4.out, by
            unfold Hid
            rw [hacc.out, HT.out, List.take_add_one, HX.out]
            simp, by
            unfold Hid
            have := hal.out
            simp
            omega, (HK3.out.alloc _).grown HG4.out fun k hk hlt => by
              have := own_base hrow03.out k hk
              omega⟩
        case measure => simp [intOf]; omega
      · have hd1 : decide (i < ns.length) = false := by simpa using hlt
        have he : (ns.map fun n => (n, (rd n).1)) = acc := by rw [hacc.out, List.take_of_length_le (by omega)]
        have HE := Lib.hid he
        clear he
        go_wp2_with fail
        go_ret
        rw [HE.out]
        exact ⟨_, rfl, ownsRow_base_a hrow HK1.out.size, HK1.out.trans HKW.out⟩
end Go.Proofs.YtjobmlnekpaagaaDoor
