/- Plain facts on the files of a disk: a list of names and texts, rising by name. -/
import Derived.Maps.OwnSet
import Derived.Maps.StringElems
import Derived.Lib.Strings
namespace Go.Proofs.YtjobmlnekpaagaaDoor
open Go

/-- Files: names and texts, rising by name. -/
abbrev Fm := List (ByteArray × ByteArray)

namespace Fm
def ins (k v : ByteArray) : Fm → Fm
  | [] => [(k, v)]
  | y :: r => if bytesBefore k.data.toList y.1.data.toList then (k, v) :: y :: r else y :: ins k v r
def del (m : Fm) (k : ByteArray) : Fm := m.filter fun p => !(p.1.data.toList == k.data.toList)
def put (m : Fm) (k v : ByteArray) : Fm := ins k v (del m k)
def find (m : Fm) (k : ByteArray) : Option (ByteArray × ByteArray) := List.find? (fun p => p.1.data.toList == k.data.toList) m
def get (m : Fm) (k : ByteArray) : ByteArray := match find m k with | some p => p.2 | none => ByteArray.empty
def has (m : Fm) (k : ByteArray) : Bool := List.any m fun p => p.1.data.toList == k.data.toList
def used : Fm → Int
  | [] => 0
  | y :: r => y.2.size + used r
def ent {H : Type} (p : ByteArray × ByteArray) : Lit × DataW H := (.string p.1.data.toList, .lit (.string p.2.data.toList))
def toD {H : Type} (m : Fm) : DataW H := .map (m.map ent)
def key (k : ByteArray) : Lit := .string k.data.toList
def val {H : Type} (v : ByteArray) : DataW H := .lit (.string v.data.toList)
def Sorted (m : Fm) : Prop := m.Pairwise fun p q => bytesBefore p.1.data.toList q.1.data.toList = true

theorem data_inj {a b : ByteArray} (h : a.data.toList = b.data.toList) : a = b := by
  rw [← Lib.mk_data a, ← Lib.mk_data b, h]
theorem beq_data (a b : ByteArray) : (a.data.toList == b.data.toList) = decide (a = b) := by
  rw [Bool.eq_iff_iff]
  simp only [beq_iff_eq, decide_eq_true_eq]
  exact ⟨data_inj, fun h => by rw [h]⟩

/-! ### the datum -/
theorem toD_ins {H : Type} (k v : ByteArray) : ∀ m : Fm, DataW.insert (ent (H := H) (k, v)) (m.map ent) = (ins k v m).map ent
  | [] => rfl
  | y :: r => by
    simp only [List.map_cons, DataW.insert, ins]
    have e : (ent (H := H) (k, v)).1.before (ent (H := H) y).1 = bytesBefore k.data.toList y.1.data.toList := rfl
    rw [e]
    split
    · simp
    · rw [toD_ins k v r]; simp
theorem toD_filter {H : Type} (k : ByteArray) (m : Fm) : (m.map (ent (H := H))).filter (fun p => !p.1.sameKey (key k)) = (del m k).map ent := by
  unfold del
  rw [List.filter_map]
  congr 1
theorem toD_put {H : Type} (m : Fm) (k v : ByteArray) : (toD (H := H) m).put (key k) (val v) = toD (put m k v) := by
  unfold toD DataW.put put
  simp only
  rw [toD_filter]
  exact congrArg DataW.map (toD_ins k v (del m k))
theorem toD_del {H : Type} (m : Fm) (k : ByteArray) : (toD (H := H) m).del (key k) = toD (del m k) := by
  unfold toD DataW.del
  simp only
  rw [toD_filter]
theorem toD_find {H : Type} (m : Fm) (k : ByteArray) : (m.map (ent (H := H))).find? (fun p => p.1.sameKey (key k)) = (find m k).map ent := by
  unfold find
  rw [List.find?_map]
  rfl
theorem toD_atKey {H : Type} (m : Fm) (k : ByteArray) (z : DataW H) : (toD m).atKey (key k) z = match find m k with | some p => val p.2 | none => z := by
  unfold toD DataW.atKey
  simp only
  rw [toD_find]
  cases find m k <;> rfl
theorem toD_get {H : Type} (m : Fm) (k : ByteArray) : (toD (H := H) m).atKey (key k) (.lit (.string [])) = val (get m k) := by
  rw [toD_atKey]
  unfold get
  cases find m k <;> rfl
theorem toD_has {H : Type} (m : Fm) (k : ByteArray) : Maps.has (toD (H := H) m) (key k) = has m k := by
  unfold toD has
  rw [Maps.has_eq, List.any_map]
  rfl
theorem toD_size {H : Type} (m : Fm) : Maps.size (toD (H := H) m) = m.length := by
  unfold toD
  rw [Maps.size_eq, List.length_map]
theorem toD_nil {H : Type} : (toD (H := H) []) = .map [] := rfl
theorem toD_inj {H : Type} {m m' : Fm} (h : toD (H := H) m = toD m') : m = m' := by
  unfold toD at h
  injection h with h
  induction m generalizing m' with
  | nil => cases m' with
    | nil => rfl
    | cons a r => simp at h
  | cons a r ih => cases m' with
    | nil => simp at h
    | cons b s =>
      simp only [List.map_cons, List.cons.injEq, ent, Prod.mk.injEq, Lit.string.injEq, DataW.lit.injEq] at h
      have e1 := data_inj h.1.1
      have e2 := data_inj h.1.2
      rw [ih h.2]
      exact congrArg (· :: s) (Prod.ext e1 e2)

/-! ### what is got -/
theorem find_some {m : Fm} {k : ByteArray} {p : ByteArray × ByteArray} (h : find m k = some p) : p ∈ m ∧ p.1 = k := by
  unfold find at h
  have h1 := List.find?_some h
  have h2 := List.mem_of_find?_eq_some h
  rw [beq_data, decide_eq_true_eq] at h1
  exact ⟨h2, h1⟩
theorem find_ins_same (k v : ByteArray) : ∀ m : Fm, (∀ p ∈ m, p.1 ≠ k) → find (ins k v m) k = some (k, v)
  | [], _ => by simp [ins, find]
  | y :: r, h => by
    simp only [ins]
    split
    · simp [find]
    · have hy : (y.1.data.toList == k.data.toList) = false := by rw [beq_data, decide_eq_false_iff_not]; exact h y (by simp)
      have := find_ins_same k v r fun p hp => h p (by simp [hp])
      unfold find at this ⊢
      rw [List.find?_cons, hy]
      exact this
theorem find_ins_other {k v k' : ByteArray} (hne : k' ≠ k) : ∀ m : Fm, find (ins k v m) k' = find m k'
  | [] => by
    have : (k.data.toList == k'.data.toList) = false := by rw [beq_data, decide_eq_false_iff_not]; exact fun e => hne e.symm
    unfold ins find
    rw [List.find?_cons, this]
  | y :: r => by
    have hk : (k.data.toList == k'.data.toList) = false := by rw [beq_data, decide_eq_false_iff_not]; exact fun e => hne e.symm
    simp only [ins]
    split
    · unfold find
      rw [List.find?_cons, hk]
    · have ih := find_ins_other (k := k) (v := v) hne r
      unfold find at ih ⊢
      rw [List.find?_cons, List.find?_cons, ih]
theorem mem_del {m : Fm} {k : ByteArray} {p : ByteArray × ByteArray} : p ∈ del m k ↔ p ∈ m ∧ p.1 ≠ k := by
  unfold del
  rw [List.mem_filter, beq_data]
  simp
theorem find_del_same (m : Fm) (k : ByteArray) : find (del m k) k = none := by
  unfold find
  rw [List.find?_eq_none]
  intro p hp
  rw [beq_data, decide_eq_true_eq]
  exact (mem_del.1 hp).2
theorem find_del_other {k k' : ByteArray} (hne : k' ≠ k) (m : Fm) : find (del m k) k' = find m k' := by
  induction m with
  | nil => rfl
  | cons y r ih =>
    unfold del find at *
    by_cases hy : y.1 = k
    · have h1 : (!(y.1.data.toList == k.data.toList)) = false := by rw [beq_data]; simp [hy]
      have h2 : (y.1.data.toList == k'.data.toList) = false := by rw [beq_data, decide_eq_false_iff_not, hy]; exact fun e => hne e.symm
      rw [List.filter_cons, h1, List.find?_cons, h2]
      exact ih
    · have h1 : (!(y.1.data.toList == k.data.toList)) = true := by rw [beq_data]; simp [hy]
      rw [List.filter_cons, h1]
      simp only [if_true]
      rw [List.find?_cons, List.find?_cons, ih]
theorem find_put_same (m : Fm) (k v : ByteArray) : find (put m k v) k = some (k, v) := find_ins_same k v _ fun _ hp => (mem_del.1 hp).2
theorem find_put_other {k k' : ByteArray} (hne : k' ≠ k) (m : Fm) (v : ByteArray) : find (put m k v) k' = find m k' := by
  unfold put
  rw [find_ins_other hne, find_del_other hne]
theorem get_put_same (m : Fm) (k v : ByteArray) : get (put m k v) k = v := by unfold get; rw [find_put_same]
theorem get_put_other {k k' : ByteArray} (hne : k' ≠ k) (m : Fm) (v : ByteArray) : get (put m k v) k' = get m k' := by unfold get; rw [find_put_other hne]
theorem get_del_same (m : Fm) (k : ByteArray) : get (del m k) k = ByteArray.empty := by unfold get; rw [find_del_same]
theorem get_del_other {k k' : ByteArray} (hne : k' ≠ k) (m : Fm) : get (del m k) k' = get m k' := by unfold get; rw [find_del_other hne]
theorem has_find (m : Fm) (k : ByteArray) : has m k = (find m k).isSome := by
  unfold has find
  rw [Bool.eq_iff_iff]
  simp [List.find?_isSome]
theorem has_put_same (m : Fm) (k v : ByteArray) : has (put m k v) k = true := by rw [has_find, find_put_same]; rfl
theorem has_put_other {k k' : ByteArray} (hne : k' ≠ k) (m : Fm) (v : ByteArray) : has (put m k v) k' = has m k' := by rw [has_find, find_put_other hne, ← has_find]
theorem has_del_same (m : Fm) (k : ByteArray) : has (del m k) k = false := by rw [has_find, find_del_same]; rfl
theorem has_del_other {k k' : ByteArray} (hne : k' ≠ k) (m : Fm) : has (del m k) k' = has m k' := by rw [has_find, find_del_other hne, ← has_find]
theorem get_of_not_has {m : Fm} {k : ByteArray} (h : has m k = false) : get m k = ByteArray.empty := by
  rw [has_find] at h
  unfold get
  cases hf : find m k with
  | none => rfl
  | some p => simp [hf] at h

/-! ### lengths, sizes -/
theorem length_ins (k v : ByteArray) : ∀ m : Fm, (ins k v m).length = m.length + 1
  | [] => rfl
  | y :: r => by
    simp only [ins]
    split
    · rfl
    · simp [length_ins k v r]
theorem length_del (m : Fm) (k : ByteArray) : (del m k).length ≤ m.length := List.length_filter_le _ _
theorem length_put (m : Fm) (k v : ByteArray) : (put m k v).length ≤ m.length + 1 := by
  unfold put
  rw [length_ins]
  have := length_del m k
  omega
/-- No text is longer than so much. -/
def Small (m : Fm) (n : Nat) : Prop := ∀ p ∈ m, p.2.size ≤ n
theorem mem_ins {k v : ByteArray} {p : ByteArray × ByteArray} : ∀ {m : Fm}, p ∈ ins k v m → p = (k, v) ∨ p ∈ m
  | [], h => by simp [ins] at h; exact .inl h
  | y :: r, h => by
    simp only [ins] at h
    split at h
    · simpa using h
    · simp only [List.mem_cons] at h ⊢
      rcases h with h | h
      · exact .inr (.inl h)
      · rcases mem_ins h with h | h
        · exact .inl h
        · exact .inr (.inr h)
theorem mem_put {m : Fm} {k v : ByteArray} {p : ByteArray × ByteArray} (h : p ∈ put m k v) : p = (k, v) ∨ p ∈ m := by
  rcases mem_ins h with h | h
  · exact .inl h
  · exact .inr (mem_del.1 h).1
theorem Small.put {m : Fm} {n : Nat} (h : Small m n) {k v : ByteArray} (hv : v.size ≤ n) : Small (put m k v) n := by
  intro p hp
  rcases mem_put hp with rfl | hp
  · exact hv
  · exact h p hp
theorem Small.del {m : Fm} {n : Nat} (h : Small m n) (k : ByteArray) : Small (del m k) n := fun p hp => h p (mem_del.1 hp).1
theorem Small.get {m : Fm} {n : Nat} (h : Small m n) (k : ByteArray) : (get m k).size ≤ n := by
  unfold Fm.get
  cases hf : find m k with
  | none => simp
  | some p => exact h p (find_some hf).1
theorem Small.nil (n : Nat) : Small [] n := fun _ h => by cases h
theorem used_nonneg : ∀ m : Fm, 0 ≤ used m
  | [] => Int.le_refl _
  | y :: r => by
    have := used_nonneg r
    unfold used
    omega
theorem used_le {m : Fm} {n : Nat} (h : Small m n) : used m ≤ m.length * n := by
  induction m with
  | nil => simp [used]
  | cons y r ih =>
    have h1 := ih fun p hp => h p (by simp [hp])
    have h2 := h y (by simp)
    unfold used
    have e : (((y :: r).length : Nat) : Int) * n = (r.length : Int) * n + n := by
      rw [List.length_cons, Int.natCast_add, Int.add_mul]
      simp
    rw [e]
    omega
/-- The sum of the sizes of what has come, while a range goes on: 'left' are those to come. -/
def come (left : Lit → Bool) : Fm → Int
  | [] => 0
  | y :: r => (if left (key y.1) then 0 else (y.2.size : Int)) + come left r
def Apart (m : Fm) : Prop := m.Pairwise fun p q => p.1 ≠ q.1
theorem apart_of_tidy {H : Type} {m : Fm} (h : Maps.Tidy (toD (H := H) m)) : Apart m := by
  obtain ⟨es, he, hp⟩ := h
  unfold toD at he
  injection he with he
  subst he
  rw [List.pairwise_map] at hp
  exact hp.imp fun h e => h (by show key _ = key _; rw [e])
theorem come_range (left : Lit → Bool) : ∀ m : Fm, 0 ≤ come left m ∧ come left m ≤ used m
  | [] => ⟨Int.le_refl _, Int.le_refl _⟩
  | y :: r => by
    have := come_range left r
    unfold come used
    split <;> omega
theorem come_none {left : Lit → Bool} (h : ∀ k, left k = false) : ∀ m : Fm, come left m = used m
  | [] => rfl
  | y :: r => by unfold come used; rw [h, come_none h r]; simp
theorem come_all {left : Lit → Bool} : ∀ {m : Fm}, (∀ p ∈ m, left (key p.1) = true) → come left m = 0
  | [], _ => rfl
  | y :: r, h => by unfold come; rw [h y (by simp), come_all fun p hp => h p (by simp [hp])]; rfl
theorem key_inj {a b : ByteArray} (h : key a = key b) : a = b := by
  unfold key at h
  injection h with h
  exact data_inj h
theorem sameKey_key (a b : ByteArray) : (key a).sameKey (key b) = decide (a = b) := by
  show (a.data.toList == b.data.toList) = _
  exact beq_data a b
theorem come_same {left left' : Lit → Bool} : ∀ {m : Fm}, (∀ p ∈ m, left (key p.1) = left' (key p.1)) → come left m = come left' m
  | [], _ => rfl
  | y :: r, h => by unfold come; rw [h y (by simp), come_same fun p hp => h p (by simp [hp])]
theorem come_step {left : Lit → Bool} {k : ByteArray} (hk : left (key k) = true) : ∀ {m : Fm}, Apart m → has m k = true →
    come (fun z => left z && !z.sameKey (key k)) m = come left m + (get m k).size
  | [], _, h => by simp [has] at h
  | y :: r, ha, h => by
    have ha' := List.pairwise_cons.1 ha
    by_cases hy : y.1 = k
    · have e1 : come (fun z => left z && !z.sameKey (key k)) r = come left r := come_same fun p hp => by
        have : p.1 ≠ k := fun e => ha'.1 p hp (by rw [hy, e])
        simp [sameKey_key, this]
      have e2 : get (y :: r) k = y.2 := by unfold get find; rw [List.find?_cons, beq_data]; simp [hy]
      unfold come
      rw [e1, e2, hy, sameKey_key, hk]
      simp
      omega
    · have e2 : get (y :: r) k = get r k := by unfold get find; rw [List.find?_cons, beq_data]; simp [hy]
      have h' : has r k = true := by
        unfold has at h ⊢
        rw [List.any_cons, beq_data] at h
        simpa [hy] using h
      unfold come
      rw [e2, come_step hk ha'.2 h', sameKey_key]
      simp [hy]
      omega
theorem has_mem {m : Fm} {p : ByteArray × ByteArray} (hp : p ∈ m) : has m p.1 = true := by
  unfold has
  rw [List.any_eq_true]
  exact ⟨p, hp, by simp⟩
end Fm
end Go.Proofs.YtjobmlnekpaagaaDoor
