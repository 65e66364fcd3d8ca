/- Merged texts: files, disks, memory and the first calls of a disk. -/
import Derived.Maps.OwnSet
import Derived.Maps.StringElems
import Derived.Lib.Strings
import Derived.Test.YtjobmlnekpaagaaDoorProg
import Derived.WalkKit
import Derived.WalkLawsBesides
import Derived.Lib.Hide
import Derived.StringKeys
import Derived.StillTailTactics
import Derived.Deep.RegionLaw
/-! ### Plain facts on the files of a disk: a list of names and texts, rising by name. -/
namespace Go.Proofs.YtjobmlnekpaagaaDoor
open Go

/-- Files: names and texts, rising by name. -/
abbrev Fm := List (ByteArray × ByteArray)

namespace Fm
def ins (k v : ByteArray) : Fm → Fm
  | [] => [(k, v)]
  | y :: r => if bytesBefore k.data.toList y.1.data.toList then (k, v) :: y :: r else y :: ins k v r
def del (m : Fm) (k : ByteArray) : Fm := m.filter fun p => !(p.1.data.toList == k.data.toList)
def put (m : Fm) (k v : ByteArray) : Fm := ins k v (del m k)
def find (m : Fm) (k : ByteArray) : Option (ByteArray × ByteArray) := List.find? (fun p => p.1.data.toList == k.data.toList) m
def get (m : Fm) (k : ByteArray) : ByteArray := match find m k with | some p => p.2 | none => ByteArray.empty
def has (m : Fm) (k : ByteArray) : Bool := List.any m fun p => p.1.data.toList == k.data.toList
def used : Fm → Int
  | [] => 0
  | y :: r => y.2.size + used r
def ent {H : Type} (p : ByteArray × ByteArray) : Lit × DataW H := (.string p.1.data.toList, .lit (.string p.2.data.toList))
def toD {H : Type} (m : Fm) : DataW H := .map (m.map ent)
def key (k : ByteArray) : Lit := .string k.data.toList
def val {H : Type} (v : ByteArray) : DataW H := .lit (.string v.data.toList)
def Sorted (m : Fm) : Prop := m.Pairwise fun p q => bytesBefore p.1.data.toList q.1.data.toList = true

theorem data_inj {a b : ByteArray} (h : a.data.toList = b.data.toList) : a = b := by
  rw [← Lib.mk_data a, ← Lib.mk_data b, h]
theorem beq_data (a b : ByteArray) : (a.data.toList == b.data.toList) = decide (a = b) := by
  rw [Bool.eq_iff_iff]
  simp only [beq_iff_eq, decide_eq_true_eq]
  exact ⟨data_inj, fun h => by rw [h]⟩

/-! ### the datum -/
theorem toD_ins {H : Type} (k v : ByteArray) : ∀ m : Fm, DataW.insert (ent (H := H) (k, v)) (m.map ent) = (ins k v m).map ent
  | [] => rfl
  | y :: r => by
    simp only [List.map_cons, DataW.insert, ins]
    have e : (ent (H := H) (k, v)).1.before (ent (H := H) y).1 = bytesBefore k.data.toList y.1.data.toList := rfl
    rw [e]
    split
    · simp
    · rw [toD_ins k v r]; simp
theorem toD_filter {H : Type} (k : ByteArray) (m : Fm) : (m.map (ent (H := H))).filter (fun p => !p.1.sameKey (key k)) = (del m k).map ent := by
  unfold del
  rw [List.filter_map]
  congr 1
theorem toD_put {H : Type} (m : Fm) (k v : ByteArray) : (toD (H := H) m).put (key k) (val v) = toD (put m k v) := by
  unfold toD DataW.put put
  simp only
  rw [toD_filter]
  exact congrArg DataW.map (toD_ins k v (del m k))
theorem toD_del {H : Type} (m : Fm) (k : ByteArray) : (toD (H := H) m).del (key k) = toD (del m k) := by
  unfold toD DataW.del
  simp only
  rw [toD_filter]
theorem toD_find {H : Type} (m : Fm) (k : ByteArray) : (m.map (ent (H := H))).find? (fun p => p.1.sameKey (key k)) = (find m k).map ent := by
  unfold find
  rw [List.find?_map]
  rfl
theorem toD_atKey {H : Type} (m : Fm) (k : ByteArray) (z : DataW H) : (toD m).atKey (key k) z = match find m k with | some p => val p.2 | none => z := by
  unfold toD DataW.atKey
  simp only
  rw [toD_find]
  cases find m k <;> rfl
theorem toD_get {H : Type} (m : Fm) (k : ByteArray) : (toD (H := H) m).atKey (key k) (.lit (.string [])) = val (get m k) := by
  rw [toD_atKey]
  unfold get
  cases find m k <;> rfl
theorem toD_has {H : Type} (m : Fm) (k : ByteArray) : Maps.has (toD (H := H) m) (key k) = has m k := by
  unfold toD has
  rw [Maps.has_eq, List.any_map]
  rfl
theorem toD_size {H : Type} (m : Fm) : Maps.size (toD (H := H) m) = m.length := by
  unfold toD
  rw [Maps.size_eq, List.length_map]
theorem toD_nil {H : Type} : (toD (H := H) []) = .map [] := rfl
theorem toD_inj {H : Type} {m m' : Fm} (h : toD (H := H) m = toD m') : m = m' := by
  unfold toD at h
  injection h with h
  induction m generalizing m' with
  | nil => cases m' with
    | nil => rfl
    | cons a r => simp at h
  | cons a r ih => cases m' with
    | nil => simp at h
    | cons b s =>
      simp only [List.map_cons, List.cons.injEq, ent, Prod.mk.injEq, Lit.string.injEq, DataW.lit.injEq] at h
      have e1 := data_inj h.1.1
      have e2 := data_inj h.1.2
      rw [ih h.2]
      exact congrArg (· :: s) (Prod.ext e1 e2)

/-! ### what is got -/
theorem find_some {m : Fm} {k : ByteArray} {p : ByteArray × ByteArray} (h : find m k = some p) : p ∈ m ∧ p.1 = k := by
  unfold find at h
  have h1 := List.find?_some h
  have h2 := List.mem_of_find?_eq_some h
  rw [beq_data, decide_eq_true_eq] at h1
  exact ⟨h2, h1⟩
theorem find_ins_same (k v : ByteArray) : ∀ m : Fm, (∀ p ∈ m, p.1 ≠ k) → find (ins k v m) k = some (k, v)
  | [], _ => by simp [ins, find]
  | y :: r, h => by
    simp only [ins]
    split
    · simp [find]
    · have hy : (y.1.data.toList == k.data.toList) = false := by rw [beq_data, decide_eq_false_iff_not]; exact h y (by simp)
      have := find_ins_same k v r fun p hp => h p (by simp [hp])
      unfold find at this ⊢
      rw [List.find?_cons, hy]
      exact this
theorem find_ins_other {k v k' : ByteArray} (hne : k' ≠ k) : ∀ m : Fm, find (ins k v m) k' = find m k'
  | [] => by
    have : (k.data.toList == k'.data.toList) = false := by rw [beq_data, decide_eq_false_iff_not]; exact fun e => hne e.symm
    unfold ins find
    rw [List.find?_cons, this]
  | y :: r => by
    have hk : (k.data.toList == k'.data.toList) = false := by rw [beq_data, decide_eq_false_iff_not]; exact fun e => hne e.symm
    simp only [ins]
    split
    · unfold find
      rw [List.find?_cons, hk]
    · have ih := find_ins_other (k := k) (v := v) hne r
      unfold find at ih ⊢
      rw [List.find?_cons, List.find?_cons, ih]
theorem mem_del {m : Fm} {k : ByteArray} {p : ByteArray × ByteArray} : p ∈ del m k ↔ p ∈ m ∧ p.1 ≠ k := by
  unfold del
  rw [List.mem_filter, beq_data]
  simp
theorem find_del_same (m : Fm) (k : ByteArray) : find (del m k) k = none := by
  unfold find
  rw [List.find?_eq_none]
  intro p hp
  rw [beq_data, decide_eq_true_eq]
  exact (mem_del.1 hp).2
theorem find_del_other {k k' : ByteArray} (hne : k' ≠ k) (m : Fm) : find (del m k) k' = find m k' := by
  induction m with
  | nil => rfl
  | cons y r ih =>
    unfold del find at *
    by_cases hy : y.1 = k
    · have h1 : (!(y.1.data.toList == k.data.toList)) = false := by rw [beq_data]; simp [hy]
      have h2 : (y.1.data.toList == k'.data.toList) = false := by rw [beq_data, decide_eq_false_iff_not, hy]; exact fun e => hne e.symm
      rw [List.filter_cons, h1, List.find?_cons, h2]
      exact ih
    · have h1 : (!(y.1.data.toList == k.data.toList)) = true := by rw [beq_data]; simp [hy]
      rw [List.filter_cons, h1]
      simp only [if_true]
      rw [List.find?_cons, List.find?_cons, ih]
theorem find_put_same (m : Fm) (k v : ByteArray) : find (put m k v) k = some (k, v) := find_ins_same k v _ fun _ hp => (mem_del.1 hp).2
theorem find_put_other {k k' : ByteArray} (hne : k' ≠ k) (m : Fm) (v : ByteArray) : find (put m k v) k' = find m k' := by
  unfold put
  rw [find_ins_other hne, find_del_other hne]
theorem get_put_same (m : Fm) (k v : ByteArray) : get (put m k v) k = v := by unfold get; rw [find_put_same]
theorem get_put_other {k k' : ByteArray} (hne : k' ≠ k) (m : Fm) (v : ByteArray) : get (put m k v) k' = get m k' := by unfold get; rw [find_put_other hne]
theorem get_del_same (m : Fm) (k : ByteArray) : get (del m k) k = ByteArray.empty := by unfold get; rw [find_del_same]
theorem get_del_other {k k' : ByteArray} (hne : k' ≠ k) (m : Fm) : get (del m k) k' = get m k' := by unfold get; rw [find_del_other hne]
theorem has_find (m : Fm) (k : ByteArray) : has m k = (find m k).isSome := by
  unfold has find
  rw [Bool.eq_iff_iff]
  simp [List.find?_isSome]
theorem has_put_same (m : Fm) (k v : ByteArray) : has (put m k v) k = true := by rw [has_find, find_put_same]; rfl
theorem has_put_other {k k' : ByteArray} (hne : k' ≠ k) (m : Fm) (v : ByteArray) : has (put m k v) k' = has m k' := by rw [has_find, find_put_other hne, ← has_find]
theorem has_del_same (m : Fm) (k : ByteArray) : has (del m k) k = false := by rw [has_find, find_del_same]; rfl
theorem has_del_other {k k' : ByteArray} (hne : k' ≠ k) (m : Fm) : has (del m k) k' = has m k' := by rw [has_find, find_del_other hne, ← has_find]
theorem get_of_not_has {m : Fm} {k : ByteArray} (h : has m k = false) : get m k = ByteArray.empty := by
  rw [has_find] at h
  unfold get
  cases hf : find m k with
  | none => rfl
  | some p => simp [hf] at h

/-! ### lengths, sizes -/
theorem length_ins (k v : ByteArray) : ∀ m : Fm, (ins k v m).length = m.length + 1
  | [] => rfl
  | y :: r => by
    simp only [ins]
    split
    · rfl
    · simp [length_ins k v r]
theorem length_del (m : Fm) (k : ByteArray) : (del m k).length ≤ m.length := List.length_filter_le _ _
theorem length_put (m : Fm) (k v : ByteArray) : (put m k v).length ≤ m.length + 1 := by
  unfold put
  rw [length_ins]
  have := length_del m k
  omega
/-- No text is longer than so much. -/
def Small (m : Fm) (n : Nat) : Prop := ∀ p ∈ m, p.2.size ≤ n
theorem mem_ins {k v : ByteArray} {p : ByteArray × ByteArray} : ∀ {m : Fm}, p ∈ ins k v m → p = (k, v) ∨ p ∈ m
  | [], h => by simp [ins] at h; exact .inl h
  | y :: r, h => by
    simp only [ins] at h
    split at h
    · simpa using h
    · simp only [List.mem_cons] at h ⊢
      rcases h with h | h
      · exact .inr (.inl h)
      · rcases mem_ins h with h | h
        · exact .inl h
        · exact .inr (.inr h)
theorem mem_put {m : Fm} {k v : ByteArray} {p : ByteArray × ByteArray} (h : p ∈ put m k v) : p = (k, v) ∨ p ∈ m := by
  rcases mem_ins h with h | h
  · exact .inl h
  · exact .inr (mem_del.1 h).1
theorem Small.put {m : Fm} {n : Nat} (h : Small m n) {k v : ByteArray} (hv : v.size ≤ n) : Small (put m k v) n := by
  intro p hp
  rcases mem_put hp with rfl | hp
  · exact hv
  · exact h p hp
theorem Small.del {m : Fm} {n : Nat} (h : Small m n) (k : ByteArray) : Small (del m k) n := fun p hp => h p (mem_del.1 hp).1
theorem Small.get {m : Fm} {n : Nat} (h : Small m n) (k : ByteArray) : (get m k).size ≤ n := by
  unfold Fm.get
  cases hf : find m k with
  | none => simp
  | some p => exact h p (find_some hf).1
theorem Small.nil (n : Nat) : Small [] n := fun _ h => by cases h
theorem used_nonneg : ∀ m : Fm, 0 ≤ used m
  | [] => Int.le_refl _
  | y :: r => by
    have := used_nonneg r
    unfold used
    omega
theorem used_le {m : Fm} {n : Nat} (h : Small m n) : used m ≤ m.length * n := by
  induction m with
  | nil => simp [used]
  | cons y r ih =>
    have h1 := ih fun p hp => h p (by simp [hp])
    have h2 := h y (by simp)
    unfold used
    have e : (((y :: r).length : Nat) : Int) * n = (r.length : Int) * n + n := by
      rw [List.length_cons, Int.natCast_add, Int.add_mul]
      simp
    rw [e]
    omega
/-- The sum of the sizes of what has come, while a range goes on: 'left' are those to come. -/
def come (left : Lit → Bool) : Fm → Int
  | [] => 0
  | y :: r => (if left (key y.1) then 0 else (y.2.size : Int)) + come left r
def Apart (m : Fm) : Prop := m.Pairwise fun p q => p.1 ≠ q.1
theorem apart_of_tidy {H : Type} {m : Fm} (h : Maps.Tidy (toD (H := H) m)) : Apart m := by
  obtain ⟨es, he, hp⟩ := h
  unfold toD at he
  injection he with he
  subst he
  rw [List.pairwise_map] at hp
  exact hp.imp fun h e => h (by show key _ = key _; rw [e])
theorem come_range (left : Lit → Bool) : ∀ m : Fm, 0 ≤ come left m ∧ come left m ≤ used m
  | [] => ⟨Int.le_refl _, Int.le_refl _⟩
  | y :: r => by
    have := come_range left r
    unfold come used
    split <;> omega
theorem come_none {left : Lit → Bool} (h : ∀ k, left k = false) : ∀ m : Fm, come left m = used m
  | [] => rfl
  | y :: r => by unfold come used; rw [h, come_none h r]; simp
theorem come_all {left : Lit → Bool} : ∀ {m : Fm}, (∀ p ∈ m, left (key p.1) = true) → come left m = 0
  | [], _ => rfl
  | y :: r, h => by unfold come; rw [h y (by simp), come_all fun p hp => h p (by simp [hp])]; rfl
theorem key_inj {a b : ByteArray} (h : key a = key b) : a = b := by
  unfold key at h
  injection h with h
  exact data_inj h
theorem sameKey_key (a b : ByteArray) : (key a).sameKey (key b) = decide (a = b) := by
  show (a.data.toList == b.data.toList) = _
  exact beq_data a b
theorem come_same {left left' : Lit → Bool} : ∀ {m : Fm}, (∀ p ∈ m, left (key p.1) = left' (key p.1)) → come left m = come left' m
  | [], _ => rfl
  | y :: r, h => by unfold come; rw [h y (by simp), come_same fun p hp => h p (by simp [hp])]
theorem come_step {left : Lit → Bool} {k : ByteArray} (hk : left (key k) = true) : ∀ {m : Fm}, Apart m → has m k = true →
    come (fun z => left z && !z.sameKey (key k)) m = come left m + (get m k).size
  | [], _, h => by simp [has] at h
  | y :: r, ha, h => by
    have ha' := List.pairwise_cons.1 ha
    by_cases hy : y.1 = k
    · have e1 : come (fun z => left z && !z.sameKey (key k)) r = come left r := come_same fun p hp => by
        have : p.1 ≠ k := fun e => ha'.1 p hp (by rw [hy, e])
        simp [sameKey_key, this]
      have e2 : get (y :: r) k = y.2 := by unfold get find; rw [List.find?_cons, beq_data]; simp [hy]
      unfold come
      rw [e1, e2, hy, sameKey_key, hk]
      simp
      omega
    · have e2 : get (y :: r) k = get r k := by unfold get find; rw [List.find?_cons, beq_data]; simp [hy]
      have h' : has r k = true := by
        unfold has at h ⊢
        rw [List.any_cons, beq_data] at h
        simpa [hy] using h
      unfold come
      rw [e2, come_step hk ha'.2 h', sameKey_key]
      simp [hy]
      omega
theorem has_mem {m : Fm} {p : ByteArray × ByteArray} (hp : p ∈ m) : has m p.1 = true := by
  unfold has
  rw [List.any_eq_true]
  exact ⟨p, hp, by simp⟩
end Fm
end Go.Proofs.YtjobmlnekpaagaaDoor

/-! ### A disk as plain data: what its calls do, and what stays so. -/
namespace Go.Proofs.YtjobmlnekpaagaaDoor
open Go

/-- A change. -/
inductive Ch where
  | put (n s : ByteArray) (at_ : Int)
  | trim (n : ByteArray) (k : Int)
  | move (a b : ByteArray)
  | drop (a : ByteArray)

namespace Ch
def cost : Ch → Int
  | put _ s _ => 1 + s.size
  | _ => 1
/-- The text behind a put. -/
def laid (old s : ByteArray) (at_ : Int) : ByteArray :=
  old.extract 0 at_.toNat ++ s ++ (if at_ + s.size < old.size then old.extract (at_ + s.size).toNat old.size else ByteArray.empty)
def done (m : Fm) : Ch → Fm
  | put n s at_ => m.put n (laid (m.get n) s at_)
  | trim n k => m.put n ((m.get n).extract 0 k.toNat)
  | move a b => (m.del a).put b (m.get a)
  | drop a => m.del a
/-- It can be done. -/
def fits (m : Fm) : Ch → Prop
  | put n s at_ => n.size ≤ 64 ∧ 0 ≤ at_ ∧ at_ ≤ (m.get n).size ∧ s.size ≤ 4194304 - at_
  | trim n k => n.size ≤ 64 ∧ 0 ≤ k ∧ k ≤ (m.get n).size
  | move a b => a.size ≤ 64 ∧ b.size ≤ 64
  | drop a => a.size ≤ 64
/-- The names that it touches. -/
def hits (c : Ch) (x : ByteArray) : Prop :=
  match c with
  | put n _ _ => x = n
  | trim n _ => x = n
  | move a b => x = a ∨ x = b
  | drop a => x = a

theorem size_extract (s : ByteArray) (a b : Nat) : (s.extract a b).size = min b s.size - a := by simp [ByteArray.size_extract]
theorem size_laid {old s : ByteArray} {at_ : Int} (h0 : 0 ≤ at_) (h1 : at_ ≤ old.size) : ((laid old s at_).size : Int) = if at_ + s.size < old.size then (old.size : Int) else at_ + s.size := by
  unfold laid
  split
  · simp only [ByteArray.size_append, size_extract]
    omega
  · simp only [ByteArray.size_append, size_extract, ByteArray.size_empty]
    omega
theorem done_small {m : Fm} {c : Ch} (h : m.Small 4194304) (hf : c.fits m) : (c.done m).Small 4194304 := by
  cases c with
  | put n s at_ =>
    obtain ⟨_, h0, h1, h2⟩ := hf
    refine h.put ?_
    have hg := h.get n
    have := size_laid (old := m.get n) (s := s) h0 h1
    split at this <;> omega
  | trim n k =>
    refine h.put ?_
    have hg := h.get n
    rw [size_extract]
    omega
  | move a b => exact (h.del a).put (h.get a)
  | drop a => exact h.del a
theorem done_length (m : Fm) (c : Ch) : (c.done m).length ≤ m.length + 1 := by
  cases c with
  | put n s at_ => exact Fm.length_put _ _ _
  | trim n k => exact Fm.length_put _ _ _
  | move a b => exact Nat.le_trans (Fm.length_put _ _ _) (Nat.succ_le_succ (Fm.length_del _ _))
  | drop a => exact Nat.le_trans (Fm.length_del _ _) (Nat.le_succ _)
theorem done_find {m : Fm} {c : Ch} {x : ByteArray} (h : ¬ c.hits x) : (c.done m).find x = m.find x := by
  cases c with
  | put n s at_ => exact Fm.find_put_other h _ _
  | trim n k => exact Fm.find_put_other h _ _
  | move a b =>
    have h1 : x ≠ a := fun e => h (Or.inl e)
    have h2 : x ≠ b := fun e => h (Or.inr e)
    show (Fm.put _ _ _).find x = _
    rw [Fm.find_put_other h2, Fm.find_del_other h1]
  | drop a => exact Fm.find_del_other h _
end Ch

/-- All of a row, from some files on. -/
def doneAll (m : Fm) (row : List Ch) : Fm := row.foldl Ch.done m
/-- A row that can be done from some files on. -/
def fitsAll : Fm → List Ch → Prop
  | _, [] => True
  | m, c :: r => c.fits m ∧ fitsAll (c.done m) r
/-- What is sure behind a loss of power. -/
def failed : Fm → List Ch → Int → Fm
  | m, [], _ => m
  | m, c :: r, k =>
    if c.cost ≤ k then failed (c.done m) r (k - c.cost)
    else match c with
      | .put n s at_ => if 0 < k then (Ch.put n (s.extract 0 (k.toNat - 1)) at_).done m else m
      | _ => m

theorem doneAll_snoc (m : Fm) (row : List Ch) (c : Ch) : doneAll m (row ++ [c]) = c.done (doneAll m row) := by
  unfold doneAll
  rw [List.foldl_append]
  rfl
theorem failed_le {m : Fm} {c : Ch} {r : List Ch} {k : Int} (h : c.cost ≤ k) : failed m (c :: r) k = failed (c.done m) r (k - c.cost) := by
  conv => lhs; unfold failed
  rw [if_pos h]
theorem failed_torn {m : Fm} {n s : ByteArray} {at_ : Int} {r : List Ch} {k : Int} (h : ¬ (Ch.put n s at_).cost ≤ k) (h0 : 0 < k) : failed m (.put n s at_ :: r) k = (Ch.put n (s.extract 0 (k.toNat - 1)) at_).done m := by
  unfold failed
  rw [if_neg h]
  simp [h0]
theorem failed_none {m : Fm} {c : Ch} {r : List Ch} {k : Int} (h : ¬ c.cost ≤ k) (h0 : ¬ 0 < k) : failed m (c :: r) k = m := by
  unfold failed
  rw [if_neg h]
  cases c <;> simp [h0]
theorem fitsAll_snoc {c : Ch} : ∀ {m : Fm} {row : List Ch}, fitsAll m row → c.fits (doneAll m row) → fitsAll m (row ++ [c])
  | _, [], _, h => ⟨h, trivial⟩
  | _, _ :: _, h, hc => ⟨h.1, fitsAll_snoc h.2 hc⟩
theorem fits_torn {m : Fm} {n s : ByteArray} {at_ k : Int} (h : (Ch.put n s at_).fits m) (_h1 : ¬ (Ch.put n s at_).cost ≤ k) (_h2 : 0 < k) : (Ch.put n (s.extract 0 (k.toNat - 1)) at_).fits m := by
  obtain ⟨a, b, c, d⟩ := h
  refine ⟨a, b, c, ?_⟩
  rw [Ch.size_extract]
  omega
theorem failed_small : ∀ {m : Fm} {row : List Ch} {k : Int}, m.Small 4194304 → fitsAll m row → (failed m row k).Small 4194304
  | _, [], _, h, _ => h
  | m, c :: r, k, h, hf => by
    unfold failed
    split
    · exact failed_small (Ch.done_small h hf.1) hf.2
    · rename_i hc
      split
      · split
        · rename_i hk
          exact Ch.done_small h (fits_torn hf.1 hc hk)
        · exact h
      · exact h
theorem failed_length : ∀ (m : Fm) (row : List Ch) (k : Int), (failed m row k).length ≤ m.length + row.length
  | _, [], _ => Nat.le_refl _
  | m, c :: r, k => by
    unfold failed
    simp only [List.length_cons]
    split
    · have h1 := failed_length (c.done m) r (k - c.cost)
      have h2 := Ch.done_length m c
      omega
    · split
      · split
        · rename_i n s at_ _ _
          have h2 := Ch.done_length m (Ch.put n (s.extract 0 (k.toNat - 1)) at_)
          omega
        · omega
      · omega

/-- A disk. -/
structure Dk where
  sure : Fm
  now : Fm
  row : List Ch
  room : Int
  calls : Int
  after : Int
  keep : Int
  down : Bool

namespace Dk
/-- What is so of each disk; N: how many changes there may have been. -/
structure Ok (d : Dk) (N : Nat) : Prop where
  small : d.sure.Small 4194304
  nowSmall : d.now.Small 4194304
  fits : fitsAll d.sure d.row
  now : d.now = doneAll d.sure d.row
  len1 : d.now.length ≤ N
  len2 : d.sure.length + d.row.length ≤ N
  after0 : 0 ≤ d.after
  after1 : d.after ≤ 9223372036854775807
  room1 : -1 ≤ d.room
  room2 : d.room ≤ 9223372036854775807
  calls0 : -9223372036854775808 ≤ d.calls
  calls1 : d.calls ≤ 9223372036854775807
  keep0 : -9223372036854775808 ≤ d.keep
  keep1 : d.keep ≤ 9223372036854775807

def new : Dk := ⟨[], [], [], -1, 0, 0, 0, false⟩
def ready (d : Dk) : Int := if d.down then 8 else 0
/-- A name. -/
def okByte (c : UInt8) : Bool := 97 ≤ c && c ≤ 122 || 48 ≤ c && c ≤ 57 || c == 46 || c == 45
def name (s : ByteArray) : Bool := !s.data.toList.isEmpty && decide (s.size ≤ 64) && s.data.toList.all okByte
def wrapped (n : Int) : Int := (n + 9223372036854775808) % 18446744073709551616 - 9223372036854775808
def counted (d : Dk) : Dk := { d with calls := wrapped (d.calls + 1), after := if d.after = 0 then 0 else d.after - 1 }
def trips (d : Dk) : Bool := d.after == 1
def fail (d : Dk) (k : Int) : Dk :=
  if d.down then d else { d with sure := failed d.sure d.row k, now := failed d.sure d.row k, row := [], down := true, after := 0 }
def laid (d : Dk) (c : Ch) : Dk := { d.counted with row := d.row ++ [c], now := c.done d.now }
def lay (d : Dk) (c : Ch) : Dk × Int := if d.trips then ((d.laid c).fail d.keep, 8) else (d.laid c, 0)
/-- The bytes that a put brings. -/
def more (old s : ByteArray) (at_ : Int) : Int := s.size - (old.size - at_)
def full (d : Dk) (m : Int) : Bool := decide (0 ≤ d.room) && decide (0 < m) && decide (d.room - m < d.now.used)
def putBad (d : Dk) (file : ByteArray) (at_ : Int) (s : ByteArray) : Bool :=
  !name file || decide (at_ < 0) || decide ((d.now.get file).size < at_) || decide (4194304 - at_ < s.size)
def put (d : Dk) (file : ByteArray) (at_ : Int) (s : ByteArray) : Dk × Int :=
  if d.down then (d, 8) else if d.putBad file at_ s then (d, 1) else if d.full (more (d.now.get file) s at_) then (d, 7) else d.lay (.put file s at_)
def there (d : Dk) (file : ByteArray) : Int := if d.down then 8 else if !name file then 1 else if !d.now.has file then 4 else 0
def trim (d : Dk) (file : ByteArray) (n : Int) : Dk × Int :=
  if d.there file ≠ 0 then (d, d.there file) else if n < 0 ∨ (d.now.get file).size < n then (d, 1) else d.lay (.trim file n)
def move (d : Dk) (a b : ByteArray) : Dk × Int :=
  if !d.down && !name b then (d, 1) else if d.there a ≠ 0 then (d, d.there a) else d.lay (.move a b)
def drop (d : Dk) (a : ByteArray) : Dk × Int := if d.there a ≠ 0 then (d, d.there a) else d.lay (.drop a)
def sync (d : Dk) : Dk × Int :=
  if d.down then (d, 8) else if d.trips then (d.counted.fail d.keep, 8) else ({ d.counted with sure := d.now, row := [] }, 0)
def read (d : Dk) (file : ByteArray) : ByteArray × Int := if d.there file ≠ 0 then (ByteArray.empty, d.there file) else (d.now.get file, 0)
def used (d : Dk) : Int := if d.down then 0 else d.now.used
def waits (d : Dk) : Int := if d.down then 0 else d.row.length
def setRoom (d : Dk) (n : Int) : Dk := { d with room := if n < -1 then -1 else n }
def trip (d : Dk) (n k : Int) : Dk := { d with after := if n < 1 then 1 else n, keep := k }
def wake (d : Dk) : Dk := { d with down := false }

/-! ### what stays so -/
theorem ok_new : Dk.new.Ok 0 := ⟨Fm.Small.nil _, Fm.Small.nil _, trivial, rfl, Nat.le_refl _, Nat.le_refl _, by decide, by decide, by decide, by decide, by decide, by decide, by decide, by decide⟩
theorem Ok.mono {d : Dk} {N N' : Nat} (h : d.Ok N) (hn : N ≤ N') : d.Ok N' := { h with len1 := Nat.le_trans h.len1 hn, len2 := Nat.le_trans h.len2 hn }
theorem wrapped_range (n : Int) : -9223372036854775808 ≤ wrapped n ∧ wrapped n ≤ 9223372036854775807 := by unfold wrapped; omega
theorem Ok.counted {d : Dk} {N : Nat} (h : d.Ok N) : d.counted.Ok N :=
  { h with
    after0 := by have := h.after0; show 0 ≤ (if d.after = 0 then 0 else d.after - 1); split <;> omega
    after1 := by have := h.after1; show (if d.after = 0 then 0 else d.after - 1) ≤ _; split <;> omega
    calls0 := (wrapped_range _).1
    calls1 := (wrapped_range _).2 }
theorem Ok.fail {d : Dk} {N : Nat} (h : d.Ok N) (k : Int) : (d.fail k).Ok N := by
  unfold Dk.fail
  split
  · exact h
  · have hl := failed_length d.sure d.row k
    have hs := failed_small (k := k) h.small h.fits
    exact { h with small := hs, nowSmall := hs, fits := trivial, now := rfl, len1 := Nat.le_trans hl h.len2, len2 := Nat.le_trans hl h.len2, after0 := Int.le_refl _, after1 := by show (0 : Int) ≤ _; decide }
theorem Ok.laid {d : Dk} {N : Nat} (h : d.Ok N) {c : Ch} (hc : c.fits d.now) : (d.laid c).Ok (N + 1) := by
  have h' := h.counted
  have hl := Ch.done_length d.now c
  have h1 := h.len1
  have h2 := h.len2
  exact { h' with
    nowSmall := Ch.done_small h.nowSmall hc
    fits := fitsAll_snoc h.fits (h.now ▸ hc)
    now := by show c.done d.now = doneAll d.sure (d.row ++ [c]); rw [doneAll_snoc, ← h.now]
    len1 := by show (c.done d.now).length ≤ N + 1; omega
    len2 := by show d.sure.length + (d.row ++ [c]).length ≤ N + 1; simp; omega }
theorem Ok.lay {d : Dk} {N : Nat} (h : d.Ok N) {c : Ch} (hc : c.fits d.now) : (d.lay c).1.Ok (N + 1) := by
  unfold Dk.lay
  split
  · exact (h.laid hc).fail _
  · exact h.laid hc
theorem name_size {s : ByteArray} (h : name s = true) : s.size ≤ 64 := by
  unfold name at h
  simp only [Bool.and_eq_true, decide_eq_true_eq] at h
  exact h.1.2
theorem put_fits {d : Dk} {file s : ByteArray} {at_ : Int} (h : d.putBad file at_ s = false) : (Ch.put file s at_).fits d.now := by
  unfold putBad at h
  simp only [Bool.or_eq_false_iff, decide_eq_false_iff_not, Bool.not_eq_false'] at h
  obtain ⟨⟨⟨h0, h1⟩, h2⟩, h3⟩ := h
  exact ⟨name_size h0, by omega, by omega, by omega⟩
theorem there_name {d : Dk} {a : ByteArray} (h : ¬ d.there a ≠ 0) : d.down = false ∧ name a = true ∧ d.now.has a = true := by
  unfold there at h
  split at h
  · simp at h
  · split at h
    · simp at h
    · split at h
      · simp at h
      · simp_all
theorem Ok.put {d : Dk} {N : Nat} (h : d.Ok N) (file : ByteArray) (at_ : Int) (s : ByteArray) : (d.put file at_ s).1.Ok (N + 1) := by
  unfold Dk.put
  split
  · exact h.mono (Nat.le_succ _)
  · split
    · exact h.mono (Nat.le_succ _)
    · rename_i hb
      split
      · exact h.mono (Nat.le_succ _)
      · exact h.lay (put_fits (by simpa using hb))
theorem Ok.trim {d : Dk} {N : Nat} (h : d.Ok N) (file : ByteArray) (n : Int) : (d.trim file n).1.Ok (N + 1) := by
  unfold Dk.trim
  split
  · exact h.mono (Nat.le_succ _)
  · split
    · exact h.mono (Nat.le_succ _)
    · rename_i ht hb
      exact h.lay (c := .trim file n) ⟨name_size (there_name ht).2.1, by omega, by omega⟩
theorem Ok.move {d : Dk} {N : Nat} (h : d.Ok N) (a b : ByteArray) : (d.move a b).1.Ok (N + 1) := by
  unfold Dk.move
  split
  · exact h.mono (Nat.le_succ _)
  · split
    · exact h.mono (Nat.le_succ _)
    · rename_i hb ht
      have hh := there_name ht
      refine h.lay (c := .move a b) ⟨name_size hh.2.1, name_size ?_⟩
      simpa [hh.1] using hb
theorem Ok.drop {d : Dk} {N : Nat} (h : d.Ok N) (a : ByteArray) : (d.drop a).1.Ok (N + 1) := by
  unfold Dk.drop
  split
  · exact h.mono (Nat.le_succ _)
  · rename_i ht
    exact h.lay (c := .drop a) (name_size (there_name ht).2.1)
theorem Ok.sync {d : Dk} {N : Nat} (h : d.Ok N) : d.sync.1.Ok N := by
  unfold Dk.sync
  split
  · exact h
  · split
    · exact h.counted.fail _
    · have h' := h.counted
      exact { h' with small := h.nowSmall, fits := trivial, now := rfl, len2 := by show d.now.length + 0 ≤ N; have := h.len1; omega }
theorem Ok.setRoom {d : Dk} {N : Nat} (h : d.Ok N) {n : Int} (hn : n ≤ 9223372036854775807) : (d.setRoom n).Ok N :=
  { h with
    room1 := by show -1 ≤ (if n < -1 then -1 else n); split <;> omega
    room2 := by show (if n < -1 then -1 else n) ≤ _; split <;> omega }
theorem Ok.trip {d : Dk} {N : Nat} (h : d.Ok N) {n k : Int} (hn : n ≤ 9223372036854775807) (hk : -9223372036854775808 ≤ k ∧ k ≤ 9223372036854775807) : (d.trip n k).Ok N :=
  { h with
    after0 := by show 0 ≤ (if n < 1 then 1 else n); split <;> omega
    after1 := by show (if n < 1 then 1 else n) ≤ _; split <;> omega
    keep0 := hk.1, keep1 := hk.2 }
theorem Ok.wake {d : Dk} {N : Nat} (h : d.Ok N) : d.wake.Ok N := { h with }
end Dk
end Go.Proofs.YtjobmlnekpaagaaDoor

/-! ### Memory: which blocks may have turned; a disk in memory. -/
namespace Go.Proofs.YtjobmlnekpaagaaDoor
open Go Go.RowKit Go.Maps

/-- Of what was there nothing has turned but the blocks of F. -/
structure Kept (F : Nat → Prop) (w w' : World) : Prop where
  os : w'.os = w.os
  tape : w'.tape = w.tape
  output : w'.output = w.output
  size : w.heap.size ≤ w'.heap.size
  block : ∀ k, k < w.heap.size → ¬ F k → w'.heap[k]? = w.heap[k]?

namespace Kept
variable {F G : Nat → Prop} {w w' w'' : World}
theorem refl (F : Nat → Prop) (w : World) : Kept F w w := ⟨rfl, rfl, rfl, Nat.le_refl _, fun _ _ _ => rfl⟩
theorem trans (h : Kept F w w') (h' : Kept F w' w'') : Kept F w w'' :=
  ⟨h'.os.trans h.os, h'.tape.trans h.tape, h'.output.trans h.output, Nat.le_trans h.size h'.size, fun k hk hF => (h'.block k (Nat.lt_of_lt_of_le hk h.size) hF).trans (h.block k hk hF)⟩
theorem mono (h : Kept F w w') (hFG : ∀ k, k < w.heap.size → F k → G k) : Kept G w w' := ⟨h.os, h.tape, h.output, h.size, fun k hk hG => h.block k hk fun hf => hG (hFG k hk hf)⟩
/-- A second step that may turn what the first may, and what is new. -/
theorem step (h : Kept F w w') (h' : Kept G w' w'') (hG : ∀ k, k < w.heap.size → G k → F k) : Kept F w w'' :=
  ⟨h'.os.trans h.os, h'.tape.trans h.tape, h'.output.trans h.output, Nat.le_trans h.size h'.size, fun k hk hF => (h'.block k (Nat.lt_of_lt_of_le hk h.size) fun hg => hF (hG k hk hg)).trans (h.block k hk hF)⟩
theorem drew (h : Kept F w w') : Kept F w w'.drew := ⟨h.os, h.tape, h.output, h.size, h.block⟩
theorem drewN (h : Kept F w w') (n : Nat) : Kept F w (w'.drewN n) := ⟨h.os, h.tape, h.output, h.size, h.block⟩
theorem alloc (h : Kept F w w') (o : Obj) : Kept F w (w'.alloc o) :=
  ⟨h.os, h.tape, h.output, by have := h.size; simp; omega, fun k hk hF => by rw [Below.heap_alloc _ _ _ (Nat.lt_of_lt_of_le hk h.size)]; exact h.block k hk hF⟩
theorem setCell (h : Kept F w w') {p : Addr} (hp : p.block < w.heap.size → F p.block) (u : Value) : Kept F w (w'.setCell p u) :=
  ⟨h.os, h.tape, h.output, by have := h.size; simp [World.setCell]; omega, fun k hk hF => by
    rw [Below.heap_setCell _ _ _ _ (fun e => hF (by subst e; exact hp hk))]; exact h.block k hk hF⟩
theorem grown {row : Option Nat} (h : Kept F w w') (hg : w'.grownBy w'' row) (hr : ∀ k, row = some k → k < w.heap.size → F k) : Kept F w w'' :=
  ⟨hg.os.trans h.os, hg.tape.trans h.tape, hg.output.trans h.output, Nat.le_trans h.size hg.size, fun k hk hF =>
    (hg.block k (Nat.lt_of_lt_of_le hk h.size) fun e => hF (hr k e.symm hk)).trans (h.block k hk hF)⟩
theorem below (h : Kept F w w') {B : Nat} (hB : ∀ k, k < B → k < w.heap.size ∧ ¬ F k) : Below B w w' := ⟨h.os, h.tape, h.output, h.size, fun k hk => h.block k (hB k hk).1 (hB k hk).2⟩
theorem of_below {B : Nat} (h : Below B w w') : Kept (fun k => B ≤ k) w w' := ⟨h.os, h.tape, h.output, h.size, fun k _ hF => h.block k (by omega)⟩
theorem of_below_all (h : Below w.heap.size w w') (F : Nat → Prop) : Kept F w w' := ⟨h.os, h.tape, h.output, h.size, fun k hk _ => h.block k hk⟩
theorem grownBy_none (h : Kept (fun _ => False) w w') : w.grownBy w' none := ⟨h.os, h.tape, h.output, h.size, fun k hk _ => h.block k hk (fun f => f)⟩
end Kept

/-! ### changes as values -/
def Ch.enc : Ch → Value
  | .put n s at_ => .iface 93 (.agg #[.string n, .string s, .int .i64 at_])
  | .trim n k => .iface 141 (.agg #[.string n, .int .i64 k])
  | .move a b => .iface 143 (.agg #[.string a, .string b])
  | .drop a => .iface 145 (.agg #[.string a])

theorem uT_map : Tryd.prog.underlying 87 = some (.map 9 9) := by kernel_rfl
theorem uT_str : Tryd.prog.underlying 9 = some .string := by kernel_rfl
theorem klaw : Keyed Tryd.prog 9 := string_keyed uT_str

/-- The reading of a text in a map. -/
noncomputable abbrev sR : Value → Option (DataW Unit × List MemPlace) := plainElem Tryd.prog 9
/-- A map of names and texts lies at a block. -/
def MapAt (w : World) (b : Nat) (m : Fm) : Prop := w.ownsMap Tryd.prog 9 sR b m.length (Fm.toD m)
theorem MapAt.tight {w : World} {b n : Nat} {m : Fm} (h : w.ownsMap Tryd.prog 9 sR b n (Fm.toD m)) : MapAt w b m := by
  obtain ⟨es, clock, hb, F, hs, hD⟩ := h
  refine ⟨es, clock, hb, F, ?_, hD⟩
  unfold Fm.toD at hD
  injection hD with hD
  have h1 := congrArg List.length hD
  rw [length_sorted] at h1
  simp at h1
  omega

/-- A disk lies at b; its map of what is sure at s, of what is now at m, its row in v. -/
structure DiskAt (w : World) (b s m : Nat) (v : Value) (d : Dk) : Prop where
  cells : w.heap[b]? = some (.cells #[.map (some s), .map (some m), v, .int .i64 d.room, .int .i64 d.calls, .int .i64 d.after, .int .i64 d.keep, .bool d.down] 90 (0, 0))
  sure : MapAt w s d.sure
  now : MapAt w m d.now
  row : w.ownsRow 0 99 1 v d.row.length (d.row.map Ch.enc)
  ne : s ≠ m
/-- Its blocks. -/
def Feet (b s m : Nat) (v : Value) (k : Nat) : Prop := k = b ∨ k = s ∨ k = m ∨ v.ownBlock = some k
/-- A disk lies at b, in blocks of F. -/
def Disk (w : World) (F : Nat → Prop) (b : Nat) (d : Dk) : Prop := ∃ s m v, DiskAt w b s m v d ∧ (∀ k, Feet b s m v k → F k)

theorem cell_of_block {w : World} {b : Nat} {cs : Array Value} {t : TypeId} {fz : Nat × Nat} (h : w.heap[b]? = some (.cells cs t fz)) (i : Nat) : w.cell? ⟨b, i, none⟩ = cs[i]? := by
  unfold World.cell?
  rw [h]
  rfl
theorem frozen_of_block {w : World} {b : Nat} {cs : Array Value} {t : TypeId} (h : w.heap[b]? = some (.cells cs t (0, 0))) (i : Nat) : w.frozen? ⟨b, i, none⟩ = false := by
  unfold World.frozen?
  rw [h]
  simp
theorem MapAt.kept {w w' : World} {b : Nat} {m : Fm} {F : Nat → Prop} (h : MapAt w b m) (hk : Kept F w w') (hF : ¬ F b) : MapAt w' b m := by
  have hlt := World.ownsMap.lt h
  obtain ⟨es, clock, hb, r⟩ := h
  exact ⟨es, clock, (hk.block b hlt hF).trans hb, r⟩
theorem MapAt.alloc {w : World} {b : Nat} {m : Fm} (h : MapAt w b m) (o : Obj) : MapAt (w.alloc o) b m := World.ownsMap.alloc h o
theorem MapAt.drew {w : World} {b : Nat} {m : Fm} (h : MapAt w b m) : MapAt w.drew b m := h
theorem row_kept {w w' : World} {base : Nat} {e : TypeId} {size n : Nat} {v : Value} {xs : List Value} {F : Nat → Prop} (h : w.ownsRow base e size v n xs) (hk : Kept F w w') (hF : ∀ k, v.ownBlock = some k → ¬ F k) : w'.ownsRow base e size v n xs := by
  obtain ⟨h1, h2⟩ := h
  refine ⟨h1, ?_⟩
  rcases h2 with h2 | ⟨g, cap, cur, hv, hg, hh, r⟩
  · exact Or.inl h2
  · have hlt : g < w.heap.size := (Array.getElem?_eq_some_iff.1 hh).1
    refine Or.inr ⟨g, cap, cur, hv, hg, ?_, r⟩
    rw [hk.block g hlt (hF g (by rw [hv]; rfl))]
    exact hh
theorem DiskAt.lt {w : World} {b s m : Nat} {v : Value} {d : Dk} (h : DiskAt w b s m v d) : b < w.heap.size := (Array.getElem?_eq_some_iff.1 h.cells).1
theorem DiskAt.kept {w w' : World} {b s m : Nat} {v : Value} {d : Dk} {F : Nat → Prop} (h : DiskAt w b s m v d) (hk : Kept F w w') (hF : ∀ k, Feet b s m v k → ¬ F k) : DiskAt w' b s m v d :=
  ⟨(hk.block b (Array.getElem?_eq_some_iff.1 h.cells).1 (hF b (.inl rfl))).trans h.cells, h.sure.kept hk (hF s (.inr (.inl rfl))), h.now.kept hk (hF m (.inr (.inr (.inl rfl)))), row_kept h.row hk fun k hk' => hF k (.inr (.inr (.inr hk'))), h.ne⟩
theorem Disk.kept {w w' : World} {F G : Nat → Prop} {b : Nat} {d : Dk} (h : Disk w F b d) (hk : Kept G w w') (hFG : ∀ k, F k → ¬ G k) : Disk w' F b d := by
  obtain ⟨s, m, v, h, hf⟩ := h
  exact ⟨s, m, v, h.kept hk fun k hk' => hFG k (hf k hk'), hf⟩
theorem setCell_block {w : World} {b : Nat} {cs : Array Value} {t : TypeId} {fz : Nat × Nat} (h : w.heap[b]? = some (.cells cs t fz)) (i : Nat) (u : Value) : (w.setCell ⟨b, i, none⟩ u).heap[b]? = some (.cells (cs.setIfInBounds i u) t fz) := by
  simp only [World.setCell, Array.getElem?_modify, if_true, h]
  rfl
/-- A store into the disk's own block. -/
theorem DiskAt.set {w : World} {b s m : Nat} {v : Value} {d d' : Dk} (h : DiskAt w b s m v d) (i : Nat) (u : Value)
    (hc : (#[.map (some s), .map (some m), v, .int .i64 d.room, .int .i64 d.calls, .int .i64 d.after, .int .i64 d.keep, .bool d.down] : Array Value).setIfInBounds i u = #[.map (some s), .map (some m), v, .int .i64 d'.room, .int .i64 d'.calls, .int .i64 d'.after, .int .i64 d'.keep, .bool d'.down])
    (hs : d'.sure = d.sure) (hn : d'.now = d.now) (hr : d'.row = d.row) : DiskAt (w.setCell ⟨b, i, none⟩ u) b s m v d' := by
  have hk : Kept (fun k => k = b) w (w.setCell ⟨b, i, none⟩ u) := (Kept.refl (fun k => k = b) w).setCell (p := ⟨b, i, none⟩) (fun _ => rfl) u
  have hb := h.cells
  refine ⟨by rw [setCell_block hb, hc], ?_, ?_, ?_, h.ne⟩
  · rw [hs]
    refine h.sure.kept hk fun e => ?_
    subst e
    obtain ⟨es, clock, hm, _⟩ := h.sure
    rw [hb] at hm
    cases hm
  · rw [hn]
    refine h.now.kept hk fun e => ?_
    subst e
    obtain ⟨es, clock, hm, _⟩ := h.now
    rw [hb] at hm
    cases hm
  · rw [hr]
    refine row_kept h.row hk fun k hk' e => ?_
    subst e
    rcases h.row.2 with ⟨rfl, _⟩ | ⟨g, cap, cur, rfl, _, hh, _⟩
    · simp [Value.ownBlock] at hk'
    · have : g = k := by simpa [Value.ownBlock] using hk'
      subst this
      rw [hb] at hh
      injection hh with hh
      injection hh with _ ht
      cases ht
theorem Kept.one {w : World} {F : Nat → Prop} {b : Nat} (hF : F b) (i : Nat) (u : Value) : Kept F w (w.setCell ⟨b, i, none⟩ u) := (Kept.refl F w).setCell (p := ⟨b, i, none⟩) (fun _ => hF) u
theorem Kept.own (w : World) (b i : Nat) (u : Value) : Kept (fun k => k = b) w (w.setCell ⟨b, i, none⟩ u) := Kept.one (F := fun k => k = b) rfl i u

theorem Kept.cell {F : Nat → Prop} {w w' : World} (h : Kept F w w') {p : Addr} (hp : p.block < w.heap.size) (hF : ¬ F p.block) : w'.cell? p = w.cell? p := World.cell?_of_block (w := w) (h.block p.block hp hF)
theorem Kept.frozen {F : Nat → Prop} {w w' : World} (h : Kept F w w') {p : Addr} (hp : p.block < w.heap.size) (hF : ¬ F p.block) : w'.frozen? p = w.frozen? p := World.frozen?_of_block (w := w) (h.block p.block hp hF)
theorem block_new (w : World) (o : Obj) : (w.alloc o).heap[w.heap.size]? = some o := by
  show (w.heap.push o)[w.heap.size]? = _
  simp
theorem block_alloc {w : World} {b : Nat} {x : Obj} (h : w.heap[b]? = some x) (o : Obj) : (w.alloc o).heap[b]? = some x := by
  rw [Below.heap_alloc w o b (Array.getElem?_eq_some_iff.1 h).1]
  exact h
theorem cell_alloc {w : World} {a : Addr} {v : Value} (h : w.cell? a = some v) (o : Obj) : (w.alloc o).cell? a = some v := by
  rw [World.cell?_of_block (w := w) (Below.heap_alloc w o a.block (World.block_lt_of_cell? w a h))]
  exact h
theorem MapAt.lt {w : World} {b : Nat} {m : Fm} (h : MapAt w b m) : b < w.heap.size := World.ownsMap.lt h

theorem DiskAt.drewN {w : World} {b s m : Nat} {v : Value} {d : Dk} (h : DiskAt w b s m v d) (n : Nat) : DiskAt (w.drewN n) b s m v d := h.kept ((Kept.refl (fun _ => False) w).drewN n) (fun _ _ f => f)
/-- From a disk in memory a call has led to another one, in its own blocks and new ones. -/
def Step (w : World) (b s m : Nat) (v : Value) (w' : World) (d' : Dk) : Prop :=
  (∃ s' m' v', DiskAt w' b s' m' v' d' ∧ ∀ k, Feet b s' m' v' k → Feet b s m v k ∨ w.heap.size ≤ k) ∧ Kept (Feet b s m v) w w'
theorem Step.same {w w' : World} {b s m : Nat} {v : Value} {d : Dk} (h : DiskAt w b s m v d) (hk : Kept (fun _ => False) w w') : Step w b s m v w' d :=
  ⟨⟨s, m, v, h.kept hk (fun _ _ f => f), fun _ hk => .inl hk⟩, hk.mono fun _ _ f => f.elim⟩
theorem Step.of {w w' : World} {b s m : Nat} {v : Value} {d' : Dk} (h : DiskAt w' b s m v d') {F : Nat → Prop} (hk : Kept F w w') (hF : ∀ k, F k → Feet b s m v k) : Step w b s m v w' d' :=
  ⟨⟨s, m, v, h, fun _ hk => .inl hk⟩, hk.mono fun k _ f => hF k f⟩
theorem Step.before {w w1 w2 : World} {b s m : Nat} {v : Value} {d' : Dk} {F : Nat → Prop} (hk : Kept F w w1) (hF : ∀ k, F k → Feet b s m v k) (h : Step w1 b s m v w2 d') : Step w b s m v w2 d' := by
  obtain ⟨⟨s', m', v', h', hf⟩, hk'⟩ := h
  exact ⟨⟨s', m', v', h', fun k hk1 => (hf k hk1).imp id (fun h => Nat.le_trans hk.size h)⟩, (hk.mono fun k _ f => hF k f).trans hk'⟩
theorem Step.behind {w w1 w2 : World} {b s m : Nat} {v : Value} {d' : Dk} (h : Step w b s m v w1 d') (hk : Kept (fun _ => False) w1 w2) : Step w b s m v w2 d' := by
  obtain ⟨⟨s', m', v', h', hf⟩, hk'⟩ := h
  exact ⟨⟨s', m', v', h'.kept hk (fun _ _ f => f), hf⟩, hk'.step hk fun _ _ f => f.elim⟩
/-! ### a map of texts, at the operation -/
theorem zeroStr (w : World) : (zeroValue 9).run Tryd.prog w = .ok (.string ⟨#[]⟩) w := by kernel_rfl
theorem sR_val {s : ByteArray} (hs : s.size ≤ maxLen) : sR (.string s) = some (Fm.val s, []) := plainElem_string uT_str hs
theorem key_of {k : ByteArray} (hk : k.size ≤ maxLen) : keyOf Tryd.prog 9 (.string k) = some (Fm.key k) := Go.WideMaps.keyOf_string_mk uT_str hk
theorem get_of_read {m : Fm} {k : ByteArray} {x : Value} {ps : List MemPlace} (hv : sR x = some ((Fm.toD m).atKey (Fm.key k) (.lit (.string [])), ps)) : x = .string (m.get k) := by
  rw [Fm.toD_get] at hv
  obtain ⟨s, rfl, hs, _⟩ := plainElem_string_inv uT_str hv
  simp only [Fm.val, Prod.mk.injEq, DataW.lit.injEq, Lit.string.injEq] at hs
  rw [Fm.data_inj hs.1]
/-- 'm[k]', as an equation for the walk. -/
theorem look_run {w : World} {b : Nat} {m : Fm} (hown : MapAt w b m) {k : ByteArray} (hk : k.size ≤ maxLen) : (Instr.lookup 87 (.map (some b)) (.string k) false).run Tryd.prog w = .ok (.string (m.get k)) w := by
  obtain ⟨v, ps, hrun, hv⟩ := World.ownsMap.lookup hown klaw uT_map (zeroStr w) (zd := .lit (.string [])) (sR_val (by decide)) (key_of hk)
  obtain rfl := get_of_read hv
  exact hrun
theorem look_ok_run {w : World} {b : Nat} {m : Fm} (hown : MapAt w b m) {k : ByteArray} (hk : k.size ≤ maxLen) : (Instr.lookup 87 (.map (some b)) (.string k) true).run Tryd.prog w = .ok (.tuple #[.string (m.get k), .bool (m.has k)]) w := by
  obtain ⟨v, ps, hrun, hv⟩ := World.ownsMap.look_ok hown klaw uT_map (zeroStr w) (zd := .lit (.string [])) (sR_val (by decide)) (key_of hk)
  obtain rfl := get_of_read hv
  rw [Fm.toD_has] at hrun
  exact hrun
section
variable (w : World) {ops : Array Oper} {rest : List Oper} {o : Oper} {a : Act} {Q : Exit → Act → World → Prop}
/-- 'm[k]' -/
theorem look_str (hg : o.guard = none) (mo x : Operand) (hop : o.op = Op.lookup 87 mo x false) (b : Nat) (m : Fm)
    (hm : a.eval mo = .map (some b)) (hown : MapAt w b m) (k : ByteArray) (hx : a.eval x = .string k) (hk : k.size ≤ maxLen)
    (hK : wpList Tryd.prog ops Q rest (a.put o.dst (.string (m.get k))) w) : wpList Tryd.prog ops Q (o :: rest) a w := by
  refine wpList_plain hg fun K' hK' => ?_
  obtain ⟨v, ps, hrun, hv⟩ := World.ownsMap.lookup hown klaw uT_map (zeroStr w) (zd := .lit (.string [])) (sR_val (by decide)) (key_of hk)
  obtain rfl := get_of_read hv
  unfold Oper.wp
  simp [execOp, hop, hm, hx, hrun, Result.andThen]
  exact hK' _ _ hK
/-- 'v, ok := m[k]' -/
theorem look_ok (hg : o.guard = none) (mo x : Operand) (hop : o.op = Op.lookup 87 mo x true) (b : Nat) (m : Fm)
    (hm : a.eval mo = .map (some b)) (hown : MapAt w b m) (k : ByteArray) (hx : a.eval x = .string k) (hk : k.size ≤ maxLen)
    (hK : wpList Tryd.prog ops Q rest (a.put o.dst (.tuple #[.string (m.get k), .bool (m.has k)])) w) : wpList Tryd.prog ops Q (o :: rest) a w :=
  wpList_lookup_own_ok w hg mo x 87 hop 9 9 klaw uT_map sR (zeroStr w) (.lit (.string [])) [] (sR_val (by decide)) b m.length (Fm.toD m) hm hown _ (Fm.key k) hx (key_of hk) (fun v ps hv => by
    obtain rfl := get_of_read hv
    rw [Fm.toD_has]
    exact hK)
/-- 'm[k] = v' -/
theorem store_str (hg : o.guard = none) (mo x v : Operand) (hop : o.op = Op.mapUpdate 87 mo x v) (b : Nat) (m : Fm)
    (hm : a.eval mo = .map (some b)) (hown : MapAt w b m) (hn : m.length < maxLen) (k s : ByteArray) (hx : a.eval x = .string k) (hv : a.eval v = .string s) (hk : k.size ≤ maxLen) (hs : s.size ≤ maxLen)
    (hK : ∀ w', MapAt w' b (m.put k s) → Kept (fun j => j = b) w w' → wpList Tryd.prog ops Q rest (a.put o.dst undef) w') : wpList Tryd.prog ops Q (o :: rest) a w :=
  wpList_mapUpdate_own w hg mo x v 87 hop 9 9 klaw uT_map sR b m.length (Fm.toD m) hm hown hn _ _ (Fm.key k) hx hv (key_of hk) (Fm.val s) [] (sR_val hs) (fun w' h1 h2 =>
    hK w' (MapAt.tight (by rw [← Fm.toD_put]; exact h1)) ((Kept.refl _ w).grown h2 fun j hj _ => by injection hj with hj; exact hj.symm))
/-- 'delete(m, k)' -/
theorem del_str (hg : o.guard = none) (mo x : Operand) (hop : o.op = Op.call { callee := Callee.builtin Builtin.delete, args := #[mo, x], argTypes := #[87, 9] }) (b : Nat) (m : Fm)
    (hm : a.eval mo = .map (some b)) (hown : MapAt w b m) (k : ByteArray) (hx : a.eval x = .string k) (hk : k.size ≤ maxLen)
    (hK : ∀ w', MapAt w' b (m.del k) → Kept (fun j => j = b) w w' → wpList Tryd.prog ops Q rest (a.put o.dst (.tuple #[])) w') : wpList Tryd.prog ops Q (o :: rest) a w :=
  wpList_delete_own w hg mo x 87 9 hop 9 klaw uT_map sR b m.length (Fm.toD m) hm hown _ (Fm.key k) hx (key_of hk) (fun w' h1 h2 =>
    hK w' (MapAt.tight (by rw [← Fm.toD_del]; exact h1)) ((Kept.refl _ w).grown h2.grown fun j hj _ => by injection hj with hj; exact hj.symm))
end
end Go.Proofs.YtjobmlnekpaagaaDoor

/-! ### The small calls of a disk, walked. -/
namespace Go.Proofs.YtjobmlnekpaagaaDoor
open Go Go.RowKit Go.Maps

/-- A disk's cells, as the walk wants them. -/
structure Cells (w : World) (b : Nat) (s m : Nat) (v : Value) (d : Dk) : Prop where
  c0 : w.cell? ⟨b, 0, none⟩ = some (.map (some s))
  c1 : w.cell? ⟨b, 1, none⟩ = some (.map (some m))
  c2 : w.cell? ⟨b, 2, none⟩ = some v
  c3 : w.cell? ⟨b, 3, none⟩ = some (.int .i64 d.room)
  c4 : w.cell? ⟨b, 4, none⟩ = some (.int .i64 d.calls)
  c5 : w.cell? ⟨b, 5, none⟩ = some (.int .i64 d.after)
  c6 : w.cell? ⟨b, 6, none⟩ = some (.int .i64 d.keep)
  c7 : w.cell? ⟨b, 7, none⟩ = some (.bool d.down)
theorem cells_of {w : World} {b s m : Nat} {v : Value} {d : Dk} (h : w.heap[b]? = some (.cells #[.map (some s), .map (some m), v, .int .i64 d.room, .int .i64 d.calls, .int .i64 d.after, .int .i64 d.keep, .bool d.down] 90 (0, 0))) : Cells w b s m v d := by
  constructor <;> (rw [cell_of_block h]; rfl)
theorem DiskAt.cs {w : World} {b s m : Nat} {v : Value} {d : Dk} (h : DiskAt w b s m v d) : Cells w b s m v d := by
  constructor <;> (rw [cell_of_block h.cells]; rfl)
theorem DiskAt.fz {w : World} {b s m : Nat} {v : Value} {d : Dk} (h : DiskAt w b s m v d) (i : Nat) : w.frozen? ⟨b, i, none⟩ = false := frozen_of_block h.cells i

set_option maxHeartbeats 400000 in
theorem ready_nil (w : World) : Calls Tryd.prog 50 #[.pointer none] w fun e w' => e = .returned (.int .i64 1) ∧ w = w' := by
  go_enter Tryd.func50, Tryd.ntmps50
  go_wp2
  go_ret
  exact ⟨rfl, rfl⟩
set_option maxHeartbeats 400000 in
theorem ready_up {w : World} {b s m : Nat} {v : Value} {d : Dk} (h : DiskAt w b s m v d) (hd : d.down = false) :
    Calls Tryd.prog 50 #[.pointer (some ⟨b, 0, none⟩)] w fun e w' => e = .returned (.int .i64 0) ∧ w = w' := by
  have c7 := h.cs.c7
  rw [hd] at c7
  clear h hd
  go_enter Tryd.func50, Tryd.ntmps50
  go_wp2
  go_ret
  exact ⟨rfl, rfl⟩
set_option maxHeartbeats 400000 in
theorem ready_down {w : World} {b s m : Nat} {v : Value} {d : Dk} (h : DiskAt w b s m v d) (hd : d.down = true) :
    Calls Tryd.prog 50 #[.pointer (some ⟨b, 0, none⟩)] w fun e w' => e = .returned (.int .i64 8) ∧ w = w' := by
  have c7 := h.cs.c7
  rw [hd] at c7
  clear h hd
  go_enter Tryd.func50, Tryd.ntmps50
  go_wp2
  go_ret
  exact ⟨rfl, rfl⟩

theorem ret_bool {a b : Bool} (h : a = b) : Ending.returned (.bool a) = .returned (.bool b) := by rw [h]
theorem ret_int {k : IntKind} {a b : Int} (h : a = b) : Ending.returned (.int k a) = .returned (.int k b) := by rw [h]
theorem wrapped_wrap (n : Int) : wrap64 n = Dk.wrapped n := by unfold wrap64 Dk.wrapped; omega

set_option maxHeartbeats 400000 in
theorem count_any {w : World} {b s m : Nat} {v : Value} {N : Nat} {d : Dk} (h : DiskAt w b s m v d) (ok : d.Ok N) :
    Calls Tryd.prog 53 #[.pointer (some ⟨b, 0, none⟩)] w fun e w' => e = .returned (.bool d.trips) ∧ DiskAt w' b s m v d.counted ∧ Kept (fun k => k = b) w w' := by
  have c4 := h.cs.c4
  have c5 := h.cs.c5
  have f4 := h.fz 4
  have f5 := h.fz 5
  have a0 := ok.after0
  have a1 := ok.after1
  have H := Lib.hid h
  clear h ok
  by_cases h0 : d.after = 0
  · have h0' : (d.after == 0) = true := by simpa using h0
    have H0 := Lib.hid h0
    clear h0
    go_enter Tryd.func53, Tryd.ntmps53
    go_wp2
    go_ret
    refine ⟨by rw [Dk.trips, H0.out]; rfl, ?_, Kept.own _ _ _ _⟩
    exact H.out.set 4 _ (by simp [Dk.counted, H0.out, wrapped_wrap]) rfl rfl rfl
  · have h0' : (d.after == 0) = false := by simpa using h0
    have H0 := Lib.hid h0
    clear h0
    go_enter Tryd.func53, Tryd.ntmps53
    go_wp2
    go_ret
    refine ⟨?_, ?_, (Kept.own _ _ _ _).trans (Kept.own _ _ _ _)⟩
    · refine ret_bool ?_
      rw [Dk.trips, Bool.eq_iff_iff]
      simp only [beq_iff_eq]
      omega
    · refine (H.out.set (d' := { d with calls := Dk.wrapped (d.calls + 1) }) 4 _ (by simp [wrapped_wrap]) rfl rfl rfl).set 5 _ ?_ rfl rfl rfl
      simp [Dk.counted, H0.out]

set_option maxHeartbeats 400000 in
theorem room_any {w : World} {b s m : Nat} {v : Value} {d : Dk} (h : DiskAt w b s m v d) (n : Int) :
    Calls Tryd.prog 42 #[.pointer (some ⟨b, 0, none⟩), .int .i64 n] w fun e w' => e = .returned (.tuple #[]) ∧ DiskAt w' b s m v (d.setRoom n) ∧ Kept (fun k => k = b) w w' := by
  have c3 := h.cs.c3
  have f3 := h.fz 3
  have H := Lib.hid h
  clear h
  go_enter Tryd.func42, Tryd.ntmps42
  go_wp2
  all_goals
    go_end0
    refine ⟨rfl, H.out.set (d' := d.setRoom n) 3 _ ?_ rfl rfl rfl, Kept.own _ _ _ _⟩
    simp [Dk.setRoom]
    try omega
set_option maxHeartbeats 400000 in
theorem wake_any {w : World} {b s m : Nat} {v : Value} {d : Dk} (h : DiskAt w b s m v d) :
    Calls Tryd.prog 20 #[.pointer (some ⟨b, 0, none⟩)] w fun e w' => e = .returned (.tuple #[]) ∧ DiskAt w' b s m v d.wake ∧ Kept (fun k => k = b) w w' := by
  have c7 := h.cs.c7
  have f7 := h.fz 7
  have H := Lib.hid h
  clear h
  go_enter Tryd.func20, Tryd.ntmps20
  go_wp2
  go_end0
  refine ⟨rfl, H.out.set (d' := d.wake) 7 _ ?_ rfl rfl rfl, Kept.own _ _ _ _⟩
  simp [Dk.wake]
set_option maxHeartbeats 400000 in
theorem trip_any {w : World} {b s m : Nat} {v : Value} {d : Dk} (h : DiskAt w b s m v d) (n k : Int) :
    Calls Tryd.prog 36 #[.pointer (some ⟨b, 0, none⟩), .int .i64 n, .int .i64 k] w fun e w' => e = .returned (.tuple #[]) ∧ DiskAt w' b s m v (d.trip n k) ∧ Kept (fun k => k = b) w w' := by
  have c5 := h.cs.c5
  have c6 := h.cs.c6
  have f5 := h.fz 5
  have f6 := h.fz 6
  have H := Lib.hid h
  clear h
  go_enter Tryd.func36, Tryd.ntmps36
  go_wp2
  all_goals
    go_end0
    refine ⟨rfl, ?_, (Kept.own _ _ _ _).trans (Kept.own _ _ _ _)⟩
    refine (H.out.set (d' := { d with after := if n < 1 then 1 else n }) 5 _ (by simp; try omega) rfl rfl rfl).set 6 _ ?_ rfl rfl rfl
    simp [Dk.trip]
end Go.Proofs.YtjobmlnekpaagaaDoor

/-! ### What a change does, walked. -/
namespace Go.Proofs.YtjobmlnekpaagaaDoor
open Go Go.RowKit Go.Maps

/-- A region that draws: all but the last operations read; the rest behind them. -/
theorem still_tail {P : Program} {id : Nat} {Q : Exit → Act → World → Prop} {a : Act} {w : World} {l : List Oper} (n : Nat) (hm : P.follows .mixedOrders = true) (hB : Region.lexTailB .any l.toArray n = true)
    (h : wpStill P l.toArray w.drew (fun a' => wpList P l.toArray Q (l.drop n) a' w.drew) (l.take n) a) : (Code.region id l.toArray true).wp P Q a w := wp_region_still_tail n hm hB h
theorem as_put_put (v : Value) (w : World) : (Instr.typeAssert (.iface 93 v) 99 93 true).run Tryd.prog w = .ok (.tuple #[v, .bool true]) w := by kernel_rfl
theorem as_trim_put (v : Value) (w : World) : (Instr.typeAssert (.iface 141 v) 99 93 true).run Tryd.prog w = .ok (.tuple #[.agg #[.string ⟨#[]⟩, .string ⟨#[]⟩, .int .i64 0], .bool false]) w := by kernel_rfl
theorem as_trim_trim (v : Value) (w : World) : (Instr.typeAssert (.iface 141 v) 99 141 true).run Tryd.prog w = .ok (.tuple #[v, .bool true]) w := by kernel_rfl
theorem as_move_put (v : Value) (w : World) : (Instr.typeAssert (.iface 143 v) 99 93 true).run Tryd.prog w = .ok (.tuple #[.agg #[.string ⟨#[]⟩, .string ⟨#[]⟩, .int .i64 0], .bool false]) w := by kernel_rfl
theorem as_move_trim (v : Value) (w : World) : (Instr.typeAssert (.iface 143 v) 99 141 true).run Tryd.prog w = .ok (.tuple #[.agg #[.string ⟨#[]⟩, .int .i64 0], .bool false]) w := by kernel_rfl
theorem as_move_move (v : Value) (w : World) : (Instr.typeAssert (.iface 143 v) 99 143 true).run Tryd.prog w = .ok (.tuple #[v, .bool true]) w := by kernel_rfl
theorem as_drop_put (v : Value) (w : World) : (Instr.typeAssert (.iface 145 v) 99 93 true).run Tryd.prog w = .ok (.tuple #[.agg #[.string ⟨#[]⟩, .string ⟨#[]⟩, .int .i64 0], .bool false]) w := by kernel_rfl
theorem as_drop_trim (v : Value) (w : World) : (Instr.typeAssert (.iface 145 v) 99 141 true).run Tryd.prog w = .ok (.tuple #[.agg #[.string ⟨#[]⟩, .int .i64 0], .bool false]) w := by kernel_rfl
theorem as_drop_move (v : Value) (w : World) : (Instr.typeAssert (.iface 145 v) 99 143 true).run Tryd.prog w = .ok (.tuple #[.agg #[.string ⟨#[]⟩, .string ⟨#[]⟩], .bool false]) w := by kernel_rfl
theorem as_drop_drop (v : Value) (w : World) : (Instr.typeAssert (.iface 145 v) 99 145 true).run Tryd.prog w = .ok (.tuple #[v, .bool true]) w := by kernel_rfl
set_option maxRecDepth 100000 in
set_option maxHeartbeats 800000 in
theorem done_put {w : World} {mb : Nat} {m : Fm} (hm : MapAt w mb m) (hn : m.length < maxLen) (hs : m.Small 4194304) {f s : ByteArray} {at_ : Int} (hf : (Ch.put f s at_).fits m) :
    Calls Tryd.prog 58 #[.map (some mb), (Ch.put f s at_).enc] w fun e w' => e = .returned (.tuple #[]) ∧ MapAt w' mb ((Ch.put f s at_).done m) ∧ Kept (fun k => k = mb) w w' := by
  obtain ⟨h0, h1, h2, h3⟩ := hf
  have hg := hs.get f
  have hss : s.size ≤ 4194304 := by omega
  unfold Ch.enc
  have ta := as_put_put
  go_enter Tryd.func58, Tryd.ntmps58
  go_wp2_with (at_lookup; refine look_str _ rfl _ _ rfl mb m rfl (hm.alloc _) f rfl (by unfold maxLen; omega) ?_)
  all_goals
    refine still_tail 12 (by kernel_rfl) (by kernel_rfl) ?_
    simp only [List.take_succ_cons, List.take_zero, List.drop_succ_cons, List.drop_zero]
    iterate 9 still_step
    (refine wpStill_step (fun K hK => ?_); go_simp; rw [if_neg (by omega)]; refine ⟨rfl, hK _ ?_⟩; clear hK K)
    still_step
    (refine wpStill_step (fun K hK => ?_); go_simp; rw [if_neg (by omega)]; refine ⟨rfl, hK _ ?_⟩; clear hK K)
    refine wpStill_nil ?_
    have hl : (Ch.laid (m.get f) s at_).size ≤ 4194304 := by
      have := Ch.size_laid (s := s) h1 h2
      split at this <;> omega
    refine store_str _ rfl _ _ _ rfl mb m rfl (hm.alloc _).drew hn f (Ch.laid (m.get f) s at_) rfl ?hv (by unfold maxLen; omega) (by unfold maxLen; omega) ?_
    case hv =>
      refine congrArg Value.string ?_
      unfold Ch.laid
      first | (rw [if_pos (by omega)]) | (rw [if_neg (by omega)]; rfl)
    intro w1 hm1 hk1
    go_wp2
    go_end0
    refine ⟨rfl, hm1, ?_⟩
    exact (((Kept.refl _ w).alloc _).drew).step hk1 (fun _ _ h => h)

set_option maxRecDepth 100000 in
set_option maxHeartbeats 800000 in
theorem done_trim {w : World} {mb : Nat} {m : Fm} (hm : MapAt w mb m) (hn : m.length < maxLen) (hs : m.Small 4194304) {f : ByteArray} {k : Int} (hf : (Ch.trim f k).fits m) :
    Calls Tryd.prog 58 #[.map (some mb), (Ch.trim f k).enc] w fun e w' => e = .returned (.tuple #[]) ∧ MapAt w' mb ((Ch.trim f k).done m) ∧ Kept (fun j => j = mb) w w' := by
  obtain ⟨h0, h1, h2⟩ := hf
  have hg := hs.get f
  have hlk := look_run (k := f) (hm.alloc (.cells #[.string f, .int .i64 k] 141)).drew (by unfold maxLen; omega)
  unfold Ch.enc
  have ta1 := as_trim_put
  have ta2 := as_trim_trim
  go_enter Tryd.func58, Tryd.ntmps58
  go_wp2
  refine still_tail 10 (by kernel_rfl) (by kernel_rfl) ?_
  simp only [List.take_succ_cons, List.take_zero, List.drop_succ_cons, List.drop_zero]
  repeat still_step
  refine wpStill_nil ?_
  have hl : ((m.get f).extract 0 k.toNat).size ≤ 4194304 := by rw [Ch.size_extract]; omega
  refine store_str _ rfl _ _ _ rfl mb m rfl (hm.alloc _).drew hn f ((m.get f).extract 0 k.toNat) rfl rfl (by unfold maxLen; omega) (by unfold maxLen; omega) ?_
  intro w1 hm1 hk1
  go_wp2
  go_end0
  refine ⟨rfl, hm1, ?_⟩
  exact (((Kept.refl _ w).alloc _).drew).step hk1 (fun _ _ h => h)
set_option maxRecDepth 100000 in
set_option maxHeartbeats 800000 in
theorem done_move {w : World} {mb : Nat} {m : Fm} (hm : MapAt w mb m) (hn : m.length < maxLen) (hs : m.Small 4194304) {f g : ByteArray} (hf : (Ch.move f g).fits m) :
    Calls Tryd.prog 58 #[.map (some mb), (Ch.move f g).enc] w fun e w' => e = .returned (.tuple #[]) ∧ MapAt w' mb ((Ch.move f g).done m) ∧ Kept (fun j => j = mb) w w' := by
  obtain ⟨h0, h1⟩ := hf
  have hg := hs.get f
  unfold Ch.enc
  have ta1 := as_move_put
  have ta2 := as_move_trim
  have ta3 := as_move_move
  have hlt := hm.lt
  have hn' : (m.del f).length < maxLen := Nat.lt_of_le_of_lt (Fm.length_del m f) hn
  go_enter Tryd.func58, Tryd.ntmps58
  go_wp2_with (first | (at_lookup; refine look_str _ rfl _ _ rfl mb m rfl (hm.alloc _) f rfl (by unfold maxLen; omega) ?_) | (at_delete; refine del_str _ rfl _ _ rfl mb m rfl (hm.alloc _) f rfl (by unfold maxLen; omega) ?_; intro w1 hm1 hk1; have c1 : w1.cell? ⟨w.heap.size, 1, none⟩ = some (.string g) := (hk1.cell (p := ⟨w.heap.size, 1, none⟩) (by simp) (by simp; omega)).trans (cell_of_block (block_new w _) 1)) | (at_mapUpdate; refine store_str _ rfl _ _ _ rfl mb (m.del f) rfl hm1 hn' g (m.get f) rfl rfl (by unfold maxLen; omega) (by unfold maxLen; omega) ?_; intro w2 hm2 hk2))
  go_end0
  refine ⟨rfl, hm2, ?_⟩
  exact (((Kept.refl _ w).alloc _).step hk1 (fun _ _ h => h)).step hk2 (fun _ _ h => h)
set_option maxRecDepth 100000 in
set_option maxHeartbeats 800000 in
theorem done_drop {w : World} {mb : Nat} {m : Fm} (hm : MapAt w mb m) {f : ByteArray} (hf : (Ch.drop f).fits m) :
    Calls Tryd.prog 58 #[.map (some mb), (Ch.drop f).enc] w fun e w' => e = .returned (.tuple #[]) ∧ MapAt w' mb ((Ch.drop f).done m) ∧ Kept (fun j => j = mb) w w' := by
  have hf' : f.size ≤ 64 := hf
  clear hf
  unfold Ch.enc
  have ta1 := as_drop_put
  have ta2 := as_drop_trim
  have ta3 := as_drop_move
  have ta4 := as_drop_drop
  go_enter Tryd.func58, Tryd.ntmps58
  go_wp2_with (at_delete; refine del_str _ rfl _ _ rfl mb m rfl (hm.alloc _) f rfl (by unfold maxLen; omega) ?_; intro w1 hm1 hk1)
  go_end0
  refine ⟨rfl, hm1, ?_⟩
  exact ((Kept.refl _ w).alloc _).step hk1 (fun _ _ h => h)
theorem done_any {w : World} {mb : Nat} {m : Fm} (hm : MapAt w mb m) (hn : m.length < maxLen) (hs : m.Small 4194304) {c : Ch} (hf : c.fits m) :
    Calls Tryd.prog 58 #[.map (some mb), c.enc] w fun e w' => e = .returned (.tuple #[]) ∧ MapAt w' mb (c.done m) ∧ Kept (fun k => k = mb) w w' := by
  cases c with
  | put f s at_ => exact done_put hm hn hs hf
  | trim f k => exact done_trim hm hn hs hf
  | move f g => exact done_move hm hn hs hf
  | drop f => exact done_drop hm hf
end Go.Proofs.YtjobmlnekpaagaaDoor
