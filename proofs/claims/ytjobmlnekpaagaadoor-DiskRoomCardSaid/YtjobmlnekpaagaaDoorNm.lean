/- What slices.Sorted(maps.Keys(m)) answers (the kit's contracts, laid at this program), and a disk's names. -/
import Derived.Test.YtjobmlnekpaagaaDoorIt
import Derived.Test.YtjobmlnekpaagaaDoorMC
namespace Go.Proofs.YtjobmlnekpaagaaDoor
open Go Go.RowKit Go.Maps Go.Sort Go.Shelf
set_option linter.unusedVariables false

/-- slices.Sort's two contracts at this dump, at the fence that asks nothing. -/
theorem sortsLaid (m : Nat) : AnyZ.SortsIn Tryd.prog Tryd.sortedLaid_ren Fence.wide m :=
  ⟨fun blk off cap ss W hH hblk hsz => callsIn_wide.2 (AnyM.slices_Sort_string Tryd.sortLaid blk off cap ss W hH hblk hsz),
   fun p cap W => callsIn_wide.2 (AnyM.slices_Sort_string_none Tryd.sortLaid p cap W)⟩

/-- **maps.Keys[map[string]string,string,string], at whatever map, the nil one too:** a function value over ONE NEW BLOCK, which holds the map. -/
theorem mapsKeys_any (mb : Option Nat) (W : World) : CallsIn Fence.wide 5 Tryd.prog 87 #[.map mb] W fun e w' => e = .returned (.func (.func 103) #[] #[.pointer (some ⟨W.heap.size, 0, none⟩)]) ∧ w' = W.alloc (.cells #[.map mb] 87) :=
  AnyZ.keys_in Tryd.keysLaid Fence.wide 5 trivial rfl mb W

set_option maxHeartbeats 1000000 in
/-- **slices.Sorted[string] AT WHAT maps.Keys[map[string]string,string,string] HANDED BACK FOR A MAP THAT IS NOT nil** ('w': the world AHEAD of maps.Keys' call): A NEW SLICE THAT HOLDS THE MAP's KEYS, SORTED; nil just where it has none; nothing that lay before has turned. -/
theorem sortedKeys_any {H : Type} (b nn : Nat) (D0 : DataW H) (R : Value → Option (DataW H × List MemPlace)) (w : World) (hown : w.ownsMap Tryd.prog 9 R b nn D0) (hmax : Maps.size D0 ≤ maxLen) (hbytes : Maps.size D0 * 16 ≤ 140737488355328) :
    CallsIn Fence.wide 5 Tryd.prog 86 #[.func (.func 103) #[] #[.pointer (some ⟨w.heap.size, 0, none⟩)]] (w.alloc (.cells #[.map (some b)] 87)) fun e w' => ∃ (v : Value) (ss : List (List UInt8)), e = .returned v ∧ ss.Perm (strKeys D0) ∧
      w'.ownsRow (w.alloc (.cells #[.map (some b)] 87)).heap.size 9 1 v ss.length ((ss.mergeSort (fun x y => decide (x ≤ y))).map encStr) ∧ (v = .slice none 0 0 ↔ ss = []) ∧ Below (w.alloc (.cells #[.map (some b)] 87)).heap.size (w.alloc (.cells #[.map (some b)] 87)) w' := by
  have hbl := hown.lt
  have hseq : SeqGives Fence.wide 2 Tryd.prog 103 #[.pointer (some ⟨w.heap.size, 0, none⟩)] encStr (fun ss => ss.Perm (strKeys D0)) (Maps.size D0) (w.alloc (.cells #[.map (some b)] 87)) :=
    AnyZ.keys_gives (ρ := Tryd.keysLaid_ren) { Tryd.keysLaid with } Fence.wide _ trivial rfl (by omega) w.heap.size b nn D0 _ (by simp) (by simp) (by
      obtain ⟨es, clock, hb, Ft, hs, hD⟩ := hown
      exact ⟨es, clock, (Below.heap_alloc _ _ b hbl).trans hb, Ft, hs, hD⟩)
  exact AnyZ.sorted_in Tryd.sortedLaid Fence.wide 5 trivial trivial trivial trivial rfl (by omega) (sortsLaid _) (enters_of Tryd.func102 (by kernel_rfl) rfl) 103 #[.pointer (some ⟨w.heap.size, 0, none⟩)] trivial (enters_of Tryd.func103 (by kernel_rfl) rfl) _ _ hmax hbytes _ hseq

theorem mapsKeys_all (mb : Option Nat) (W : World) : Calls Tryd.prog 87 #[.map mb] W fun e w' => e = .returned (.func (.func 103) #[] #[.pointer (some ⟨W.heap.size, 0, none⟩)]) ∧ w' = W.alloc (.cells #[.map mb] 87) := callsIn_wide.1 (mapsKeys_any mb W)
/-- What 'Names' answers. -/
def NamesPost (w : World) (m : Fm) (e : Ending) (w' : World) : Prop := ∃ (v : Value) (ss : List (List UInt8)), e = .returned v ∧ ss.Perm (strKeys (Fm.toD (H := Unit) m)) ∧ w'.ownsRow w.heap.size 9 1 v ss.length ((ss.mergeSort (fun x y => decide (x ≤ y))).map encStr) ∧ (v = .slice none 0 0 ↔ ss = []) ∧ Kept (fun _ => False) w w'
set_option maxRecDepth 100000 in
set_option maxHeartbeats 1600000 in
theorem names_up {w : World} {b s m : Nat} {v : Value} {N : Nat} {d : Dk} (h : DiskAt w b s m v d) (ok : d.Ok N) (hN : N ≤ 1099511627776) (hd : d.down = false) :
    Calls Tryd.prog 48 #[.pointer (some ⟨b, 0, none⟩)] w (NamesPost w d.now) := by
  have hr := ready_up h hd
  have hlen := ok.len1
  have hmax : Maps.size (Fm.toD (H := Unit) d.now) ≤ maxLen := by rw [Fm.toD_size]; unfold maxLen; omega
  have hbytes : Maps.size (Fm.toD (H := Unit) d.now) * 16 ≤ 140737488355328 := by rw [Fm.toD_size]; omega
  have HSK := Lib.hid (callsIn_wide.1 (sortedKeys_any m _ _ _ w h.now hmax hbytes))
  have c1 := h.cs.c1
  clear h ok hN hlen hmax hbytes
  go_enter Tryd.func48, Tryd.ntmps48
  go_wp2_with fail
  refine hr.mono ?_
  rintro e w1 ⟨rfl, rfl⟩
  go_wp2_with fail
  refine (mapsKeys_all _ _).mono ?_
  rintro e w1 ⟨rfl, rfl⟩
  go_wp2_with fail
  refine HSK.out.mono ?_
  rintro e w2 ⟨v, ss, rfl, hS, hrow, hnil, hb⟩
  have HV : Hid (NamesPost w d.now (.returned v) w2) := ⟨v, ss, rfl, hS, ownsRow_base_a hrow (by simp), hnil, ((Kept.refl (fun _ => False) w).alloc _).trans (Kept.of_below_all hb _)⟩
  clear hS hrow hnil hb
  go_wp2_with fail
  go_ret
  exact HV.out
end Go.Proofs.YtjobmlnekpaagaaDoor
