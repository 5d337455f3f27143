/-
  The plain model of a store: files as a list sorted by number, the greatest number used. No program, no memory.
-/
import Derived.Maps.OwnSet
import Derived.Maps.StringElems
import Derived.KernelRfl
namespace Go.Proofs.Ytggkhgpdnjkfcaa
open Go.Maps Go.WideShapes

abbrev FL := List (Int × ByteArray)

def lget : FL → Int → Option ByteArray
  | [], _ => none
  | (a, v) :: r, k => if a = k then some v else lget r k
def lins (x : Int × ByteArray) : FL → FL
  | [] => [x]
  | y :: r => if x.1 < y.1 then x :: y :: r else y :: lins x r
def ldel (l : FL) (k : Int) : FL := l.filter (fun p => !decide (p.1 = k))
def lput (l : FL) (k : Int) (v : ByteArray) : FL := lins (k, v) (ldel l k)

def litk (k : Int) : Lit := .int .i64 k
def dat {H : Type} (v : ByteArray) : DataW H := .lit (.string v.data.toList)
def dent {H : Type} (p : Int × ByteArray) : Lit × DataW H := (litk p.1, dat p.2)
def dm {H : Type} (l : FL) : DataW H := .map (l.map dent)

theorem litk_same (a b : Int) : (litk a).sameKey (litk b) = decide (a = b) := by simp [litk, Lit.sameKey]
theorem litk_before (a b : Int) : (litk a).before (litk b) = decide (a < b) := by simp [litk, Lit.before]

theorem dent_flt {H : Type} (l : FL) (k : Int) : (l.map (dent (H := H))).filter (fun p => !p.1.sameKey (litk k)) = (ldel l k).map dent := by
  unfold ldel
  rw [List.filter_map]
  congr 1
  refine List.filter_congr fun p _ => ?_
  show (!(dent (H := H) p).1.sameKey (litk k)) = _
  rw [show (dent (H := H) p).1.sameKey (litk k) = decide (p.1 = k) from litk_same _ _]
theorem dm_del {H : Type} (l : FL) (k : Int) : (dm (H := H) l).del (litk k) = dm (ldel l k) := by
  show DataW.map ((l.map (dent (H := H))).filter (fun p => !p.1.sameKey (litk k))) = _
  rw [dent_flt]; rfl
theorem dent_ins {H : Type} (x : Int × ByteArray) : ∀ l : FL, DataW.insert (dent (H := H) x) (l.map dent) = (lins x l).map dent
  | [] => rfl
  | y :: r => by
    unfold lins
    simp only [List.map_cons, DataW.insert]
    have e : (dent (H := H) x).1.before (dent (H := H) y).1 = decide (x.1 < y.1) := litk_before _ _
    rw [e]
    by_cases h : x.1 < y.1
    · simp [h]
    · simp [h, dent_ins x r]
theorem dm_put {H : Type} (l : FL) (k : Int) (v : ByteArray) : (dm (H := H) l).put (litk k) (dat v) = dm (lput l k v) := by
  unfold dm lput DataW.put
  have h := dent_ins (H := H) (k, v) (ldel l k)
  simp only
  rw [dent_flt, ← h]
  rfl
theorem dm_has {H : Type} (l : FL) (k : Int) : Maps.has (dm (H := H) l) (litk k) = (lget l k).isSome := by
  unfold dm
  rw [Maps.has_eq]
  induction l with
  | nil => rfl
  | cons y r ih =>
    obtain ⟨a, v⟩ := y
    simp only [List.map_cons, List.any_cons, ih, lget]
    have e : (dent (H := H) (a, v)).1.sameKey (litk k) = decide (a = k) := litk_same _ _
    rw [e]
    by_cases h : a = k <;> simp [h]
theorem dm_at {H : Type} (l : FL) (k : Int) (z : DataW H) : (dm (H := H) l).atKey (litk k) z = (match lget l k with | some v => dat v | none => z) := by
  show (match (l.map (dent (H := H))).find? (fun p => p.1.sameKey (litk k)) with | some p => p.2 | none => z) = _
  induction l with
  | nil => rfl
  | cons y r ih =>
    obtain ⟨a, v⟩ := y
    simp only [List.map_cons, List.find?_cons, lget]
    have e : (dent (H := H) (a, v)).1.sameKey (litk k) = decide (a = k) := litk_same _ _
    rw [e]
    by_cases h : a = k
    · simp [h, dent]
    · simp only [h, decide_false, if_false]; exact ih
theorem dm_size {H : Type} (l : FL) : Maps.size (dm (H := H) l) = l.length := by simp [dm, Maps.size]

/-! ### laws of the list -/
theorem lget_ins (x : Int × ByteArray) (k : Int) : ∀ l : FL, lget (lins x l) k = if x.1 = k ∧ lget l k = none then some x.2 else if x.1 = k then lget (lins x l) k else lget l k
  | [] => by obtain ⟨a, v⟩ := x; by_cases h : a = k <;> simp [lins, lget, h]
  | y :: r => by
    obtain ⟨a, v⟩ := x
    obtain ⟨b, u⟩ := y
    have ih := lget_ins (a, v) k r
    unfold lins
    by_cases hb : a < b
    · simp only [hb, if_true]
      by_cases h : a = k
      · have : ¬ b = k := by omega
        simp [lget, h]
      · simp [lget, h]
    · simp only [hb, if_false]
      by_cases h : a = k
      · by_cases h2 : b = k
        · simp [lget, h2]
        · simp only [lget, h2, if_false]; simp only [h, true_and, if_true] at ih ⊢; exact ih
      · simp only [h, false_and, if_false] at ih ⊢
        simp only [lget]; rw [ih]
theorem lget_del (l : FL) (k j : Int) : lget (ldel l k) j = if j = k then none else lget l j := by
  unfold ldel
  induction l with
  | nil => simp [lget]
  | cons y r ih =>
    obtain ⟨a, v⟩ := y
    by_cases h : a = k
    · simp only [h, decide_true, Bool.not_true, List.filter_cons, Bool.false_eq_true, if_false, ih, lget]
      by_cases h2 : j = k
      · simp [h2]
      · have : ¬ k = j := fun e => h2 e.symm
        simp [h2, this]
    · simp only [h, decide_false, Bool.not_false, List.filter_cons, if_true, lget, ih]
      by_cases h2 : a = j
      · subst h2; simp [h]
      · simp [h2]
theorem lget_put (l : FL) (k : Int) (v : ByteArray) (j : Int) : lget (lput l k v) j = if j = k then some v else lget l j := by
  unfold lput
  rw [lget_ins]
  have e := lget_del l k j
  by_cases h : j = k
  · simp [h] at e ⊢; rw [e]; simp
  · have h' : ¬ k = j := fun e => h e.symm
    simp [h] at e ⊢; simp [h', e]

/-- Numbers rising. -/
def Rise (l : FL) : Prop := l.Pairwise (fun p q => p.1 < q.1)
theorem Rise.del {l : FL} (h : Rise l) (k : Int) : Rise (ldel l k) := h.filter _
theorem mem_lins {x y : Int × ByteArray} : ∀ {l : FL}, y ∈ lins x l ↔ y = x ∨ y ∈ l
  | [] => by simp [lins]
  | z :: r => by
    unfold lins
    split
    · simp
    · simp only [List.mem_cons, mem_lins (l := r)]
      constructor
      · rintro (h | h | h) <;> simp [h]
      · rintro (h | h | h) <;> simp [h]
theorem Rise.ins {x : Int × ByteArray} : ∀ {l : FL}, Rise l → (∀ p ∈ l, p.1 ≠ x.1) → Rise (lins x l)
  | [], _, _ => by simp [lins, Rise]
  | y :: r, h, hne => by
    obtain ⟨h1, h2⟩ := List.pairwise_cons.1 h
    unfold lins
    split
    · rename_i hb
      refine List.pairwise_cons.2 ⟨fun q hq => ?_, h⟩
      rcases List.mem_cons.1 hq with rfl | hq
      · exact hb
      · exact Int.lt_trans hb (h1 q hq)
    · rename_i hb
      refine List.pairwise_cons.2 ⟨fun q hq => ?_, Rise.ins h2 (fun p hp => hne p (by simp [hp]))⟩
      rcases mem_lins.1 hq with rfl | hq
      · have := hne y (by simp); omega
      · exact h1 q hq
theorem Rise.put {l : FL} (h : Rise l) (k : Int) (v : ByteArray) : Rise (lput l k v) :=
  Rise.ins (h.del k) (fun p hp => by have := (List.mem_filter.1 hp).2; simpa using this)
theorem mem_ldel {l : FL} {k : Int} {p : Int × ByteArray} : p ∈ ldel l k ↔ p ∈ l ∧ p.1 ≠ k := by simp [ldel, List.mem_filter]
theorem mem_lput {l : FL} {k : Int} {v : ByteArray} {p : Int × ByteArray} : p ∈ lput l k v ↔ p = (k, v) ∨ (p ∈ l ∧ p.1 ≠ k) := by
  unfold lput; rw [mem_lins, mem_ldel]
theorem lget_mem {l : FL} {k : Int} {v : ByteArray} (h : lget l k = some v) : (k, v) ∈ l := by
  induction l with
  | nil => cases h
  | cons y r ih =>
    obtain ⟨a, u⟩ := y
    unfold lget at h
    split at h
    · rename_i e; cases h; subst e; simp
    · simp [ih h]
theorem lget_of_mem {l : FL} (hr : Rise l) {k : Int} {v : ByteArray} (h : (k, v) ∈ l) : lget l k = some v := by
  induction l with
  | nil => cases h
  | cons y r ih =>
    obtain ⟨a, u⟩ := y
    obtain ⟨h1, h2⟩ := List.pairwise_cons.1 hr
    rcases List.mem_cons.1 h with e | h
    · cases e; simp [lget]
    · have : a < k := h1 _ h
      have hne : ¬ a = k := by omega
      simp [lget, hne, ih h2 h]
theorem lput_length (l : FL) (k : Int) (v : ByteArray) : (lput l k v).length ≤ l.length + 1 := by
  have h : ∀ l : FL, (lins (k, v) l).length = l.length + 1 := by
    intro l
    induction l with
    | nil => rfl
    | cons y r ih => unfold lins; split <;> simp [ih]
  unfold lput
  rw [h]
  have := List.length_filter_le (fun p : Int × ByteArray => !decide (p.1 = k)) l
  unfold ldel; omega
theorem ldel_length (l : FL) (k : Int) : (ldel l k).length ≤ l.length := List.length_filter_le _ _

/-- The plain store. -/
structure St where
  files : FL
  most : Int
def St.empty : St := ⟨[], 0⟩
structure St.Ok (s : St) : Prop where
  rise : Rise s.files
  m0 : 0 ≤ s.most
  m1 : s.most ≤ 4000
  keys : ∀ p ∈ s.files, 1 ≤ p.1 ∧ p.1 ≤ s.most
  sizes : ∀ p ∈ s.files, p.2.size ≤ 8388608
theorem St.Ok.emp : St.Ok St.empty := ⟨List.Pairwise.nil, by simp [St.empty], by simp [St.empty], by simp [St.empty], by simp [St.empty]⟩

/-- Put: the number that it gives, the error, the store behind it. -/
def St.full (s : St) (b : ByteArray) : Bool := decide (8388608 < b.size) || decide (4000 ≤ s.most)
def St.put (s : St) (b : ByteArray) : St := if s.full b then s else ⟨lput s.files (s.most + 1) b, s.most + 1⟩
def St.putN (s : St) (b : ByteArray) : Int := if s.full b then 0 else s.most + 1
def St.putE (s : St) (b : ByteArray) : Int := if s.full b then 2 else 0
def St.getB (s : St) (k : Int) : ByteArray := (lget s.files k).getD ⟨#[]⟩
def St.getE (s : St) (k : Int) : Int := if (lget s.files k).isSome then 0 else 6
def St.drop (s : St) (k : Int) : St := ⟨ldel s.files k, s.most⟩
def St.copyE (s t : St) (k : Int) : Int := match lget t.files k with | none => 6 | some _ => if (lget s.files k).isSome then 5 else 0
def St.copy (s t : St) (k : Int) : St := match lget t.files k with
  | none => s
  | some v => if (lget s.files k).isSome then s else ⟨lput s.files k v, max s.most k⟩
def dmgArg (b : ByteArray) (at_ by_ : Int) : Bool := decide (at_ < 0) || decide ((b.size : Int) ≤ at_) || decide (by_ < 1) || decide (255 < by_)
def dmgB (b : ByteArray) (at_ by_ : Int) : ByteArray := ⟨b.data.setIfInBounds at_.toNat (UInt8.ofNat ((b.data.getD at_.toNat 0).toNat + by_.toNat))⟩
def St.dmgE (s : St) (k at_ by_ : Int) : Int := match lget s.files k with | none => 6 | some b => if dmgArg b at_ by_ then 3 else 0
def St.dmg (s : St) (k at_ by_ : Int) : St := match lget s.files k with
  | none => s
  | some b => if dmgArg b at_ by_ then s else ⟨lput s.files k (dmgB b at_ by_), s.most⟩
def St.nums (s : St) : List Int := s.files.map (·.1)
def sumB : FL → Int
  | [] => 0
  | p :: r => (p.2.size : Int) + sumB r
def St.used (s : St) : Int := sumB s.files

theorem St.Ok.put {s : St} (h : s.Ok) (b : ByteArray) : (s.put b).Ok := by
  unfold St.put
  by_cases hf : s.full b
  · simp only [hf, if_true]; exact h
  · simp only [hf]
    have hf' : s.full b = false := by simpa using hf
    simp only [St.full, Bool.or_eq_false_iff, decide_eq_false_iff_not] at hf'
    refine ⟨h.rise.put _ _, by have := h.m0; show 0 ≤ s.most + 1; omega, by show s.most + 1 ≤ 4000; omega, ?_, ?_⟩
    · intro p hp
      rcases mem_lput.1 hp with rfl | ⟨hp, _⟩
      · have := h.m0; show 1 ≤ s.most + 1 ∧ s.most + 1 ≤ s.most + 1; omega
      · have := h.keys p hp; show 1 ≤ p.1 ∧ p.1 ≤ s.most + 1; omega
    · intro p hp
      rcases mem_lput.1 hp with rfl | ⟨hp, _⟩
      · show b.size ≤ 8388608; omega
      · exact h.sizes p hp
theorem St.Ok.drop {s : St} (h : s.Ok) (k : Int) : (s.drop k).Ok :=
  ⟨h.rise.del k, h.m0, h.m1, fun p hp => h.keys p (mem_ldel.1 hp).1, fun p hp => h.sizes p (mem_ldel.1 hp).1⟩
theorem St.Ok.copy {s t : St} (h : s.Ok) (ht : t.Ok) (k : Int) : (s.copy t k).Ok := by
  unfold St.copy
  cases hg : lget t.files k with
  | none => exact h
  | some v =>
    simp only
    have hm := lget_mem hg
    have hk := ht.keys _ hm
    have hs := ht.sizes _ hm
    have hm1 := ht.m1
    simp only at hk hs
    split
    · exact h
    · refine ⟨h.rise.put _ _, by have := h.m0; show 0 ≤ max s.most k; omega, by have := h.m1; show max s.most k ≤ 4000; omega, ?_, ?_⟩
      · intro p hp
        rcases mem_lput.1 hp with rfl | ⟨hp, _⟩
        · show 1 ≤ k ∧ k ≤ max s.most k; omega
        · have := h.keys p hp; show 1 ≤ p.1 ∧ p.1 ≤ max s.most k; omega
      · intro p hp
        rcases mem_lput.1 hp with rfl | ⟨hp, _⟩
        · exact hs
        · exact h.sizes p hp
theorem dmgB_size (b : ByteArray) (x y : Int) : (dmgB b x y).size = b.size := by
  show (b.data.setIfInBounds x.toNat _).size = b.data.size
  rw [Array.size_setIfInBounds]
theorem St.Ok.dmg {s : St} (h : s.Ok) (k x y : Int) : (s.dmg k x y).Ok := by
  unfold St.dmg
  cases hg : lget s.files k with
  | none => exact h
  | some v =>
    simp only
    have hm := lget_mem hg
    split
    · exact h
    · refine ⟨h.rise.put _ _, h.m0, h.m1, ?_, ?_⟩
      · intro p hp
        rcases mem_lput.1 hp with rfl | ⟨hp, _⟩
        · have := h.keys _ hm; exact this
        · exact h.keys p hp
      · intro p hp
        rcases mem_lput.1 hp with rfl | ⟨hp, _⟩
        · show (dmgB v x y).size ≤ 8388608; rw [dmgB_size]; exact h.sizes _ hm
        · exact h.sizes p hp
theorem rise_len : ∀ (l : FL) (lo hi : Int), Rise l → (∀ p ∈ l, lo ≤ p.1 ∧ p.1 ≤ hi) → (l.length : Int) ≤ max 0 (hi - lo + 1)
  | [], _, _, _, _ => by simp; omega
  | y :: r, lo, hi, h, hk => by
    obtain ⟨h1, h2⟩ := List.pairwise_cons.1 h
    have hy := hk y (by simp)
    have := rise_len r (y.1 + 1) hi h2 (fun p hp => ⟨by have := h1 p hp; omega, (hk p (by simp [hp])).2⟩)
    simp only [List.length_cons]
    push_cast
    omega
theorem St.Ok.len {s : St} (h : s.Ok) : s.files.length ≤ 4000 := by
  have := rise_len s.files 1 s.most h.rise h.keys
  have := h.m1
  have := h.m0
  omega

end Go.Proofs.Ytggkhgpdnjkfcaa
