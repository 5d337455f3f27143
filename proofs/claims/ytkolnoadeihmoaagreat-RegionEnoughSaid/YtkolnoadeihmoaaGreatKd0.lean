/-
  Plain: regions with logs, and what holds of them. No memory, no program in it.
  Plain: what holds of regions, whatever is called.
  Plain: regions whose places stand in another order; calls one after the other.
-/
import Derived.Test.YtkolnoadeihmoaaGreatProg
namespace Go.Proofs.YtkolnoadeihmoaaGreat.Reg
structure Pl (α : Type) where
  up : Bool
  log : List (α × Int)
structure Rg (α : Type) where
  places : List (ByteArray × Pl α)
  primary : ByteArray
  epoch : Int
  need : Int
  acked : Int
  records : Int
variable {α : Type}
def pre : List (α × Int) → List (α × Int) → Nat
  | a :: x, b :: y => if a.2 = b.2 then pre x y + 1 else 0
  | _, _ => 0
def lookIn : List (ByteArray × Pl α) → ByteArray → Option (Pl α)
  | [], _ => none
  | p :: r, n => if p.1 = n then some p.2 else lookIn r n
def Rg.look (R : Rg α) (n : ByteArray) : Option (Pl α) := lookIn R.places n
def Rg.first (R : Rg α) : List (α × Int) := match R.look R.primary with
  | some p => p.log
  | none => []
def sortI (l : List Int) : List Int := l.mergeSort fun x y => decide (x ≤ y)
def Rg.agreed (R : Rg α) : List Int := R.places.map fun p => (pre R.first p.2.log : Int)
def Rg.ack (R : Rg α) : Rg α := { R with acked := max R.acked ((sortI R.agreed).getD (R.places.length - R.need).toNat 0) }
def putIn (n : ByteArray) (q : Pl α) : List (ByteArray × Pl α) → List (ByteArray × Pl α)
  | [] => []
  | p :: r => if p.1 = n then (p.1, q) :: r else p :: putIn n q r
def Rg.put (R : Rg α) (n : ByteArray) (q : Pl α) : Rg α := { R with places := putIn n q R.places }
section
variable (word : ByteArray → Bool)
def Rg.find (R : Rg α) (n : ByteArray) : Option (Pl α) × Int := if word n = false then (none, 1) else match R.look n with
  | none => (none, 4)
  | some p => (some p, 0)
def Rg.recordAt (R : Rg α) (p : Pl α) (n : ByteArray) (epoch : Int) (x : α) : (Int × Int) × Rg α :=
  if p.up = false then ((0, 15), R)
  else if n ≠ R.primary ∨ epoch ≠ R.epoch then ((0, 7), R)
  else if p.log.length = 4000 then ((0, 2), R)
  else (((p.log.length : Int) + 1, 0), ({ (R.put n { p with log := p.log ++ [(x, R.records + 1)] }) with records := R.records + 1 }).ack)
def Rg.record (R : Rg α) (valid : Bool) (n : ByteArray) (epoch : Int) (x : α) : (Int × Int) × Rg α :=
  if valid = false then ((0, 1), R) else match R.find word n with
  | (none, e) => ((0, e), R)
  | (some p, _) => R.recordAt p n epoch x
def Rg.shipAt (R : Rg α) (p f : Pl α) (n : ByteArray) (most : Int) : (Int × Int) × Rg α :=
  if p.up = false ∨ f.up = false then ((0, 15), R)
  else if n = R.primary then ((0, 7), R)
  else if most < 0 then ((0, 3), R)
  else ((min most ((f.log.length : Int) - pre f.log p.log), 0), (R.put n { p with log := f.log.take ((pre f.log p.log : Int) + min most ((f.log.length : Int) - pre f.log p.log)).toNat }).ack)
def Rg.ship (R : Rg α) (n : ByteArray) (most : Int) : (Int × Int) × Rg α := match R.find word n with
  | (none, e) => ((0, e), R)
  | (some p, _) => match R.look R.primary with
    | none => ((0, 0), R)
    | some f => R.shipAt p f n most
def Rg.set (R : Rg α) (n : ByteArray) (up : Bool) : Int × Rg α := match R.find word n with
  | (none, e) => (e, R)
  | (some p, _) => (0, R.put n { p with up := up })
def Rg.failAt (R : Rg α) (p : Pl α) (n : ByteArray) : (Int × Int) × Rg α :=
  if p.up = false then ((0, 15), R)
  else if n = R.primary then ((0, 3), R)
  else if (pre R.first p.log : Int) < R.acked then ((0, 10), R)
  else (((R.first.length : Int) - pre R.first p.log, 0), { R with primary := n, epoch := R.epoch + 1 })
def Rg.fail (R : Rg α) (n : ByteArray) : (Int × Int) × Rg α := match R.find word n with
  | (none, e) => ((0, e), R)
  | (some p, _) => R.failAt p n
end
theorem pre_le (a b : List (α × Int)) : pre a b ≤ a.length ∧ pre a b ≤ b.length := by
  induction a generalizing b with
  | nil => cases b <;> simp [pre]
  | cons x a ih =>
    cases b with
    | nil => simp [pre]
    | cons y b =>
      simp only [pre]
      have := ih b
      split <;> simp <;> omega
theorem pre_same {a b : List (α × Int)} {i : Nat} (h : i < pre a b) : ∃ x y, a[i]? = some x ∧ b[i]? = some y ∧ x.2 = y.2 := by
  induction a generalizing b i with
  | nil => cases b <;> simp [pre] at h
  | cons x a ih =>
    cases b with
    | nil => simp [pre] at h
    | cons y b =>
      simp only [pre] at h
      split at h
      · rename_i e
        cases i with
        | zero => exact ⟨x, y, rfl, rfl, e⟩
        | succ i => simpa using ih (b := b) (i := i) (by omega)
      · omega
theorem pre_ge {a b : List (α × Int)} {k : Nat} (ha : k ≤ a.length) (hb : k ≤ b.length) (h : ∀ i x y, i < k → a[i]? = some x → b[i]? = some y → x.2 = y.2) : k ≤ pre a b := by
  induction a generalizing b k with
  | nil => simp at ha; omega
  | cons x a ih =>
    cases b with
    | nil => simp at hb; omega
    | cons y b =>
      cases k with
      | zero => omega
      | succ k =>
        simp only [pre]
        rw [if_pos (h 0 x y (by omega) rfl rfl)]
        have := ih (b := b) (k := k) (by simpa using ha) (by simpa using hb) (fun i u v hi hu hv => h (i + 1) u v (by omega) (by simpa using hu) (by simpa using hv))
        omega
theorem pre_self (a : List (α × Int)) : pre a a = a.length := by
  have h1 := (pre_le a a).1
  have h2 := pre_ge (a := a) (b := a) (k := a.length) (Nat.le_refl _) (Nat.le_refl _) (fun i x y _ hx hy => by rw [hx] at hy; cases hy; rfl)
  omega
def Match (a b : List (α × Int)) : Prop := ∀ (i j : Nat) (x y : α × Int), a[i]? = some x → b[j]? = some y → x.2 = y.2 → i = j ∧ a.take (i + 1) = b.take (j + 1)
theorem Match.symm {a b : List (α × Int)} (h : Match a b) : Match b a := fun i j x y hx hy e => ⟨(h j i y x hy hx e.symm).1.symm, (h j i y x hy hx e.symm).2.symm⟩
theorem Match.pre {a b : List (α × Int)} (h : Match a b) : a.take (Reg.pre a b) = b.take (Reg.pre a b) := by
  by_cases h0 : Reg.pre a b = 0
  · rw [h0]; simp
  · obtain ⟨x, y, hx, hy, e⟩ := pre_same (a := a) (b := b) (i := Reg.pre a b - 1) (by omega)
    have := (h _ _ x y hx hy e).2
    rw [show Reg.pre a b - 1 + 1 = Reg.pre a b by omega] at this
    exact this
theorem take_get {a : List (α × Int)} {k i : Nat} {x : α × Int} (h : (a.take k)[i]? = some x) : i < k ∧ a[i]? = some x := by
  rw [List.getElem?_take] at h
  split at h
  · exact ⟨by assumption, h⟩
  · cases h
theorem Match.take {a b : List (α × Int)} (h : Match a b) (k : Nat) : Match (a.take k) b := fun i j x y hx hy e => by
  obtain ⟨hi, hx'⟩ := take_get hx
  obtain ⟨h1, h2⟩ := h i j x y hx' hy e
  refine ⟨h1, ?_⟩
  rw [List.take_take, Nat.min_eq_left (by omega)]
  exact h2
theorem Match.push {a b : List (α × Int)} (h : Match a b) {x : α × Int} (hn : ∀ (j : Nat) (y : α × Int), b[j]? = some y → y.2 ≠ x.2) : Match (a ++ [x]) b := fun i j u y hu hy e => by
  by_cases hi : i < a.length
  · rw [List.getElem?_append_left hi] at hu
    obtain ⟨h1, h2⟩ := h i j u y hu hy e
    exact ⟨h1, by rw [List.take_append_of_le_length (by omega)]; exact h2⟩
  · have hl := (List.getElem?_eq_some_iff.1 hu).1
    simp at hl
    have : i = a.length := by omega
    subst this
    simp at hu
    subst hu
    exact absurd e.symm (hn j y hy)
theorem Match.pushSelf {a : List (α × Int)} (h : Match a a) {x : α × Int} (hn : ∀ (j : Nat) (y : α × Int), a[j]? = some y → y.2 ≠ x.2) : Match (a ++ [x]) (a ++ [x]) := fun i j u y hu hy e => by
  have key : ∀ (i : Nat) (u : α × Int), (a ++ [x])[i]? = some u → (i < a.length ∧ a[i]? = some u) ∨ (i = a.length ∧ u = x) := by
    intro i u hu
    by_cases hi : i < a.length
    · rw [List.getElem?_append_left hi] at hu; exact .inl ⟨hi, hu⟩
    · have hl := (List.getElem?_eq_some_iff.1 hu).1
      simp at hl
      have : i = a.length := by omega
      subst this
      simp at hu
      exact .inr ⟨rfl, hu.symm⟩
  rcases key i u hu with ⟨h1, h2⟩ | ⟨h1, rfl⟩ <;> rcases key j y hy with ⟨g1, g2⟩ | ⟨g1, rfl⟩
  · obtain ⟨e1, e2⟩ := h i j u y h2 g2 e
    exact ⟨e1, by rw [e1]⟩
  · exact absurd e (hn i u h2)
  · exact absurd e.symm (hn j y g2)
  · exact ⟨h1.trans g1.symm, by rw [h1, g1]⟩
theorem look_mem {l : List (ByteArray × Pl α)} {n : ByteArray} {p : Pl α} (h : lookIn l n = some p) : (n, p) ∈ l := by
  induction l with
  | nil => cases h
  | cons a r ih =>
    simp only [lookIn] at h
    split at h
    · rename_i e
      cases h
      rw [← e]; simp
    · exact List.mem_cons_of_mem _ (ih h)
theorem look_none {l : List (ByteArray × Pl α)} {n : ByteArray} (h : lookIn l n = none) : ∀ p ∈ l, p.1 ≠ n := by
  induction l with
  | nil => simp
  | cons a r ih =>
    simp only [lookIn] at h
    split at h
    · cases h
    · rename_i e
      intro p hp
      rcases List.mem_cons.1 hp with rfl | hp
      · exact e
      · exact ih h p hp
theorem put_names (n : ByteArray) (q : Pl α) (l : List (ByteArray × Pl α)) : (putIn n q l).map (·.1) = l.map (·.1) := by
  induction l with
  | nil => rfl
  | cons a r ih =>
    simp only [putIn]
    split
    · simp
    · simp [ih]
theorem put_len (n : ByteArray) (q : Pl α) (l : List (ByteArray × Pl α)) : (putIn n q l).length = l.length := by
  have := congrArg List.length (put_names n q l)
  simpa using this
theorem put_look (n : ByteArray) (q : Pl α) {l : List (ByteArray × Pl α)} {p : Pl α} (h : lookIn l n = some p) (m : ByteArray) : lookIn (putIn n q l) m = if m = n then some q else lookIn l m := by
  induction l with
  | nil => cases h
  | cons a r ih =>
    simp only [lookIn] at h
    simp only [putIn]
    split at h
    · rename_i e
      rw [if_pos e]
      simp only [lookIn]
      by_cases hm : m = n
      · subst hm; rw [if_pos e, if_pos rfl]
      · have : a.1 ≠ m := fun e2 => hm (e2.symm.trans e)
        rw [if_neg this, if_neg hm, if_neg this]
    · rename_i e
      rw [if_neg e]
      simp only [lookIn]
      by_cases ha : a.1 = m
      · rw [if_pos ha, if_neg (fun e2 => e (ha.trans e2)), if_pos ha]
      · rw [if_neg ha, if_neg ha]
        exact ih h
theorem put_mem {n : ByteArray} {q : Pl α} {l : List (ByteArray × Pl α)} (hn : (l.map (·.1)).Nodup) {x : ByteArray × Pl α} (h : x ∈ putIn n q l) : (x.1 = n ∧ x.2 = q) ∨ (x.1 ≠ n ∧ x ∈ l) := by
  induction l with
  | nil => cases h
  | cons a r ih =>
    simp only [List.map_cons, List.nodup_cons] at hn
    simp only [putIn] at h
    split at h
    · rename_i e
      rcases List.mem_cons.1 h with rfl | h
      · exact .inl ⟨e, rfl⟩
      · refine .inr ⟨fun e2 => hn.1 ?_, List.mem_cons_of_mem _ h⟩
        rw [e, ← e2]
        exact List.mem_map.2 ⟨x, h, rfl⟩
    · rename_i e
      rcases List.mem_cons.1 h with rfl | h
      · exact .inr ⟨e, by simp⟩
      · rcases ih hn.2 h with h1 | ⟨h1, h2⟩
        · exact .inl h1
        · exact .inr ⟨h1, List.mem_cons_of_mem _ h2⟩
theorem mem_look {l : List (ByteArray × Pl α)} (hn : (l.map (·.1)).Nodup) {x : ByteArray × Pl α} (h : x ∈ l) : lookIn l x.1 = some x.2 := by
  induction l with
  | nil => cases h
  | cons a r ih =>
    simp only [List.map_cons, List.nodup_cons] at hn
    simp only [lookIn]
    rcases List.mem_cons.1 h with rfl | h
    · rw [if_pos rfl]
    · rw [if_neg (fun e => hn.1 (by rw [e]; exact List.mem_map.2 ⟨x, h, rfl⟩))]
      exact ih hn.2 h
end Go.Proofs.YtkolnoadeihmoaaGreat.Reg
namespace Go.Proofs.YtkolnoadeihmoaaGreat.Reg
variable {α : Type}
theorem sort_perm (l : List Int) : (sortI l).Perm l := List.mergeSort_perm _ _
theorem sort_sorted (l : List Int) : (sortI l).Pairwise (· ≤ ·) := by
  have := List.pairwise_mergeSort (le := fun (x y : Int) => decide (x ≤ y)) (fun a b c h1 h2 => by simp at *; omega) (fun a b => by simp; omega) l
  exact this.imp (by simp)
theorem sort_len (l : List Int) : (sortI l).length = l.length := (sort_perm l).length_eq
theorem sort_count (l : List Int) (f : Int → Bool) : ((sortI l).filter f).length = (l.filter f).length := ((sort_perm l).filter f).length_eq
theorem pair_get {l : List Int} (h : l.Pairwise (· ≤ ·)) {i j : Nat} {x y : Int} (hij : i ≤ j) (hx : l[i]? = some x) (hy : l[j]? = some y) : x ≤ y := by
  by_cases e : i = j
  · subst e; rw [hx] at hy; cases hy; exact Int.le_refl _
  · obtain ⟨hi, rfl⟩ := List.getElem?_eq_some_iff.1 hx
    obtain ⟨hj, rfl⟩ := List.getElem?_eq_some_iff.1 hy
    exact List.pairwise_iff_getElem.1 h i j hi hj (by omega)
theorem nth_is {l : List Int} {need : Nat} (h1 : 1 ≤ need) (h2 : need ≤ l.length) : ∃ v, (sortI l).getD (l.length - need) 0 = v ∧ v ∈ l ∧ need ≤ (l.filter fun x => decide (v ≤ x)).length ∧ ∀ k, need ≤ (l.filter fun x => decide (k ≤ x)).length → k ≤ v := by
  have hl := sort_len l
  obtain ⟨v, hv⟩ : ∃ v, (sortI l)[l.length - need]? = some v := ⟨_, List.getElem?_eq_getElem (by omega)⟩
  have hs := sort_sorted l
  refine ⟨v, by simp [List.getD_eq_getElem?_getD, hv], (sort_perm l).mem_iff.1 (List.mem_iff_getElem?.2 ⟨_, hv⟩), ?_, fun k hk => ?_⟩
  · rw [← sort_count, ← List.take_append_drop (l.length - need) (sortI l), List.filter_append, List.length_append]
    have : ((sortI l).drop (l.length - need)).filter (fun x => decide (v ≤ x)) = (sortI l).drop (l.length - need) := by
      rw [List.filter_eq_self]
      intro x hx
      obtain ⟨j, hj⟩ := List.mem_iff_getElem?.1 hx
      rw [List.getElem?_drop] at hj
      simpa using pair_get hs (by omega) hv hj
    rw [this, List.length_drop]
    omega
  · rw [← sort_count, ← List.take_append_drop (l.length - need + 1) (sortI l), List.filter_append, List.length_append] at hk
    apply Classical.byContradiction
    intro hlt
    have : ((sortI l).take (l.length - need + 1)).filter (fun x => decide (k ≤ x)) = [] := by
      rw [List.filter_eq_nil_iff]
      intro x hx
      obtain ⟨j, hj⟩ := List.mem_iff_getElem?.1 hx
      rw [List.getElem?_take] at hj
      split at hj
      · have := pair_get hs (by omega) hj hv
        simp; omega
      · cases hj
    rw [this] at hk
    have h3 := List.length_filter_le (fun x => decide (k ≤ x)) ((sortI l).drop (l.length - need + 1))
    rw [List.length_drop] at h3
    simp only [List.length_nil] at hk
    omega
def Rg.count (R : Rg α) (k : Int) : Nat := (R.places.filter fun p => decide (k ≤ (pre R.first p.2.log : Int))).length
theorem count_agreed (R : Rg α) (k : Int) : (R.agreed.filter fun x => decide (k ≤ x)).length = R.count k := by
  unfold Rg.agreed Rg.count
  rw [List.filter_map, List.length_map]
  rfl
structure Inv (R : Rg α) : Prop where
  names : (R.places.map (·.1)).Nodup
  prim : ∃ p, R.look R.primary = some p
  need : 1 ≤ R.need ∧ R.need ≤ R.places.length
  acked : 0 ≤ R.acked
  enough : R.need ≤ R.count R.acked
  mat : ∀ x ∈ R.places, ∀ y ∈ R.places, Match x.2.log y.2.log
  recs : ∀ x ∈ R.places, ∀ (i : Nat) (r : α × Int), x.2.log[i]? = some r → r.2 ≤ R.records
  long : ∀ x ∈ R.places, x.2.log.length ≤ 4000
section
variable {R : Rg α}
theorem first_of {p : Pl α} (h : R.look R.primary = some p) : R.first = p.log := by unfold Rg.first; rw [h]
theorem Inv.first_mem (h : Inv R) : ∃ p, (R.primary, p) ∈ R.places ∧ R.first = p.log := by
  obtain ⟨p, hp⟩ := h.prim
  exact ⟨p, look_mem hp, first_of hp⟩
theorem Inv.acked_le (h : Inv R) : R.acked ≤ R.first.length := by
  have h1 := h.enough
  have h2 := h.need.1
  unfold Rg.count at h1
  cases hf : R.places.filter (fun p => decide (R.acked ≤ (pre R.first p.2.log : Int))) with
  | nil => rw [hf] at h1; simp at h1; omega
  | cons x r =>
    have hx : x ∈ R.places.filter (fun p => decide (R.acked ≤ (pre R.first p.2.log : Int))) := by rw [hf]; simp
    have := (List.mem_filter.1 hx).2
    simp at this
    have := (pre_le R.first x.2.log).1
    omega
theorem nth_ack {R : Rg α} (hn : 1 ≤ R.need ∧ R.need ≤ R.places.length) : ∃ v, (sortI R.agreed).getD ((R.places.length : Int) - R.need).toNat 0 = v ∧ 0 ≤ v ∧ v ≤ R.first.length ∧ R.need ≤ R.count v ∧ ∀ k, R.need ≤ R.count k → k ≤ v := by
  have hl : R.agreed.length = R.places.length := by simp [Rg.agreed]
  obtain ⟨v, h1, h2, h3, h4⟩ := nth_is (l := R.agreed) (need := R.need.toNat) (by omega) (by omega)
  have e : ((R.places.length : Int) - R.need).toNat = R.agreed.length - R.need.toNat := by omega
  obtain ⟨p, hp, ev⟩ := List.mem_map.1 h2
  have := (pre_le R.first p.2.log).1
  refine ⟨v, by rw [e]; exact h1, by omega, by omega, ?_, fun k hk => h4 k ?_⟩
  · rw [count_agreed] at h3; omega
  · rw [count_agreed]; omega
theorem Inv.ack (h : Inv R) : Inv R.ack ∧ R.acked ≤ R.ack.acked := by
  obtain ⟨v, h1, h2, -, h3, -⟩ := nth_ack h.need
  have e : R.ack.acked = max R.acked v := by unfold Rg.ack; dsimp only; rw [h1]
  refine ⟨⟨h.names, h.prim, h.need, by rw [e]; have := h.acked; omega, ?_, h.mat, h.recs, h.long⟩, by rw [e]; omega⟩
  show R.need ≤ R.count R.ack.acked
  rw [e]
  rcases Int.le_total R.acked v with hv | hv
  · rw [Int.max_eq_right hv]; exact h3
  · rw [Int.max_eq_left hv]; exact h.enough
theorem count_put {n : ByteArray} {q : Pl α} {f f' : ByteArray × Pl α → Bool} : ∀ {l : List (ByteArray × Pl α)}, (l.map (·.1)).Nodup → (∀ x ∈ l, x.1 ≠ n → f x = true → f' x = true) → (∀ x ∈ l, x.1 = n → f x = true → f' (x.1, q) = true) → (l.filter f).length ≤ ((putIn n q l).filter f').length
  | [], _, _, _ => Nat.le_refl _
  | a :: r, hn, h1, h2 => by
    simp only [List.map_cons, List.nodup_cons] at hn
    have mono : ∀ {l : List (ByteArray × Pl α)}, (∀ x ∈ l, f x = true → f' x = true) → (l.filter f).length ≤ (l.filter f').length := by
      intro l hl
      induction l with
      | nil => exact Nat.le_refl _
      | cons b s ih =>
        have ih' := ih (fun x hx => hl x (by simp [hx]))
        simp only [List.filter_cons]
        cases hb : f b with
        | false => simp only [Bool.false_eq_true, if_false]; split <;> simp <;> omega
        | true => rw [hl b (by simp) hb]; simp; omega
    simp only [putIn]
    split
    · rename_i e
      have hm := mono (l := r) (fun x hx => h1 x (by simp [hx]) (fun e2 => hn.1 (by rw [e, ← e2]; exact List.mem_map.2 ⟨x, hx, rfl⟩)))
      simp only [List.filter_cons]
      cases hb : f a with
      | false => simp only [Bool.false_eq_true, if_false]; split <;> simp <;> omega
      | true => rw [h2 a (by simp) e hb]; simp; omega
    · rename_i e
      have ih := count_put (n := n) (q := q) (f := f) (f' := f') (l := r) hn.2 (fun x hx => h1 x (by simp [hx])) (fun x hx => h2 x (by simp [hx]))
      simp only [List.filter_cons]
      cases hb : f a with
      | false => simp only [Bool.false_eq_true, if_false]; split <;> simp <;> omega
      | true => rw [h1 a (by simp) e hb]; simp; omega
structure Keeps (R R' : Rg α) : Prop where
  inv : Inv R'
  acked : R.acked ≤ R'.acked
  log : R'.first.take R.acked.toNat = R.first.take R.acked.toNat
theorem Keeps.refl (h : Inv R) : Keeps R R := ⟨h, Int.le_refl _, rfl⟩
theorem put_first {n : ByteArray} {q p : Pl α} (h : R.look n = some p) : (R.put n q).first = if R.primary = n then q.log else R.first := by
  unfold Rg.first Rg.look Rg.put
  dsimp only
  rw [put_look n q (show lookIn R.places n = some p from h)]
  by_cases e : R.primary = n
  · rw [if_pos e, if_pos e]
  · rw [if_neg e, if_neg e]
theorem Inv.place (_ : Inv R) {n : ByteArray} {p : Pl α} (hp : R.look n = some p) : (n, p) ∈ R.places := look_mem hp
theorem Inv.record (h : Inv R) {n : ByteArray} {p : Pl α} (hp : R.look n = some p) (epoch : Int) (x : α) : Keeps R (R.recordAt p n epoch x).2 := by
  unfold Rg.recordAt
  split
  · exact Keeps.refl h
  split
  · exact Keeps.refl h
  split
  · exact Keeps.refl h
  rename_i hup hne hlen
  have hnp : n = R.primary := Classical.byContradiction fun e => hne (.inl e)
  subst hnp
  have hf := first_of hp
  obtain ⟨q, hq⟩ : ∃ q : Pl α, q = { p with log := p.log ++ [(x, R.records + 1)] } := ⟨_, rfl⟩
  obtain ⟨R1, hR1⟩ : ∃ R1 : Rg α, R1 = { (R.put R.primary q) with records := R.records + 1 } := ⟨_, rfl⟩
  have hpm := h.place hp
  have h1f : R1.first = R.first ++ [(x, R.records + 1)] := by
    rw [hR1]
    show (R.put R.primary q).first = _
    rw [put_first hp, if_pos rfl, hf, hq]
  have hl4 := h.long _ hpm
  have hfresh : ∀ y ∈ R.places, ∀ (j : Nat) (r : α × Int), y.2.log[j]? = some r → r.2 ≠ R.records + 1 := fun y hy j r hr e => by
    have := h.recs y hy j r hr
    omega
  have hmem : ∀ y ∈ R1.places, (y.1 = R.primary ∧ y.2 = q) ∨ (y.1 ≠ R.primary ∧ y ∈ R.places) := fun y hy => by
    rw [hR1] at hy
    exact put_mem h.names hy
  have hinv : Inv R1 := by
    refine ⟨?_, ?_, ?_, ?_, ?_, ?_, ?_, ?_⟩
    · rw [hR1]; show ((putIn _ _ _).map _).Nodup
      rw [put_names]; exact h.names
    · rw [hR1]
      exact ⟨q, by show lookIn (putIn R.primary q R.places) R.primary = _; rw [put_look _ _ (show lookIn R.places R.primary = some p from hp), if_pos rfl]⟩
    · rw [hR1]
      show 1 ≤ R.need ∧ R.need ≤ ((putIn R.primary q R.places).length : Int)
      rw [put_len]; exact h.need
    · rw [hR1]; exact h.acked
    · have he := h.enough
      have := count_put (n := R.primary) (q := q) (f := fun p => decide (R.acked ≤ (pre R.first p.2.log : Int))) (f' := fun p => decide (R.acked ≤ (pre R1.first p.2.log : Int))) h.names (fun y hy hyn hg => by
        simp only [decide_eq_true_eq] at hg ⊢
        have hle := pre_le R.first y.2.log
        have : pre R.first y.2.log ≤ pre R1.first y.2.log := by
          rw [h1f]
          refine pre_ge (by simp; omega) hle.2 (fun i u v hi hu hv => ?_)
          rw [List.getElem?_append_left (by omega)] at hu
          obtain ⟨u', v', hu', hv', e⟩ := pre_same hi
          rw [hu] at hu'; rw [hv] at hv'
          cases hu'; cases hv'
          exact e
        omega) (fun y hy hyn hg => by
        simp only [decide_eq_true_eq] at hg ⊢
        have e : R1.first = q.log := by rw [h1f, hf, hq]
        rw [e, pre_self, ← e, h1f]
        have := (pre_le R.first y.2.log).1
        simp; omega)
      have e2 : R1.count R1.acked = ((putIn R.primary q R.places).filter fun p => decide (R.acked ≤ (pre R1.first p.2.log : Int))).length := by
        rw [hR1]; rfl
      have e3 : R1.need = R.need := by rw [hR1]; rfl
      rw [e2, e3]
      unfold Rg.count at he
      omega
    · have self : Match q.log q.log := by
        rw [hq]
        exact (h.mat _ hpm _ hpm).pushSelf (fun j y hy => hfresh _ hpm j y hy)
      have other : ∀ z ∈ R.places, Match q.log z.2.log := fun z hz => by
        rw [hq]
        exact (h.mat _ hpm _ hz).push (fun j y hy => hfresh _ hz j y hy)
      intro y hy z hz
      rcases hmem y hy with ⟨-, e⟩ | ⟨-, hy⟩ <;> rcases hmem z hz with ⟨-, e'⟩ | ⟨-, hz⟩
      · rw [e, e']; exact self
      · rw [e]; exact other z hz
      · rw [e']; exact (other y hy).symm
      · exact h.mat y hy z hz
    · intro y hy i r hr
      have e3 : R1.records = R.records + 1 := by rw [hR1]
      rw [e3]
      rcases hmem y hy with ⟨-, e⟩ | ⟨-, hy⟩
      · rw [e, hq] at hr
        have hr' : (p.log ++ [(x, R.records + 1)])[i]? = some r := hr
        by_cases hi : i < p.log.length
        · rw [List.getElem?_append_left hi] at hr'
          have := h.recs _ hpm i r hr'
          omega
        · have hl := (List.getElem?_eq_some_iff.1 hr').1
          simp at hl
          have : i = p.log.length := by omega
          subst this
          simp at hr'
          rw [← hr']; exact Int.le_refl _
      · have := h.recs y hy i r hr
        omega
    · intro y hy
      rcases hmem y hy with ⟨-, e⟩ | ⟨-, hy⟩
      · rw [e, hq]
        have : p.log.length ≤ 4000 := hl4
        show (p.log ++ [(x, R.records + 1)]).length ≤ 4000
        simp; omega
      · exact h.long y hy
  obtain ⟨g1, g2⟩ := hinv.ack
  have e : (R1.ack).first = R.first ++ [(x, R.records + 1)] := h1f
  have ea : R1.acked = R.acked := by rw [hR1]; rfl
  have hres : ({ (R.put R.primary { p with log := p.log ++ [(x, R.records + 1)] }) with records := R.records + 1 } : Rg α) = R1 := by rw [hR1, hq]
  rw [hres]
  refine ⟨g1, by rw [← ea]; exact g2, ?_⟩
  show R1.ack.first.take _ = _
  rw [e]
  have := h.acked_le
  have := h.acked
  rw [List.take_append_of_le_length (by omega)]
theorem Inv.ship (h : Inv R) {n : ByteArray} {p f : Pl α} (hp : R.look n = some p) (hf0 : R.look R.primary = some f) (most : Int) : Keeps R (R.shipAt p f n most).2 := by
  unfold Rg.shipAt
  split
  · exact Keeps.refl h
  split
  · exact Keeps.refl h
  split
  · exact Keeps.refl h
  rename_i hup hne hmost
  have hf := first_of hf0
  have hle := pre_le f.log p.log
  obtain ⟨m, hm⟩ : ∃ m : Nat, m = ((pre f.log p.log : Int) + min most ((f.log.length : Int) - pre f.log p.log)).toNat := ⟨_, rfl⟩
  have hm1 : pre f.log p.log ≤ m := by omega
  have hm2 : m ≤ f.log.length := by omega
  obtain ⟨q, hq⟩ : ∃ q : Pl α, q = { p with log := f.log.take m } := ⟨_, rfl⟩
  obtain ⟨R1, hR1⟩ : ∃ R1 : Rg α, R1 = R.put n q := ⟨_, rfl⟩
  have hpm := h.place hp
  have hfm := h.place hf0
  have h1f : R1.first = R.first := by
    rw [hR1, put_first hp, if_neg (fun e => hne e.symm)]
  have hmem : ∀ y ∈ R1.places, (y.1 = n ∧ y.2 = q) ∨ (y.1 ≠ n ∧ y ∈ R.places) := fun y hy => by
    rw [hR1] at hy
    exact put_mem h.names hy
  have hinv : Inv R1 := by
    refine ⟨?_, ?_, ?_, ?_, ?_, ?_, ?_, ?_⟩
    · rw [hR1]; show ((putIn _ _ _).map _).Nodup
      rw [put_names]; exact h.names
    · rw [hR1]
      exact ⟨f, by show lookIn (putIn _ _ _) R.primary = _; rw [put_look _ _ (show lookIn R.places n = some p from hp), if_neg (fun e => hne e.symm)]; exact hf0⟩
    · rw [hR1]
      show 1 ≤ R.need ∧ R.need ≤ ((putIn n q R.places).length : Int)
      rw [put_len]; exact h.need
    · rw [hR1]; exact h.acked
    · have he := h.enough
      have := count_put (n := n) (q := q) (f := fun p => decide (R.acked ≤ (pre R.first p.2.log : Int))) (f' := fun p => decide (R.acked ≤ (pre R.first p.2.log : Int))) h.names (fun y hy hyn hg => hg) (fun y hy hyn hg => by
        simp only [decide_eq_true_eq] at hg ⊢
        have hyp : y.2 = p := by
          have := mem_look h.names hy
          rw [hyn] at this
          have h2 : lookIn R.places n = some p := hp
          rw [h2] at this
          exact (Option.some.inj this).symm
        rw [hyp, hf] at hg
        rw [hq, hf]
        show R.acked ≤ (pre f.log (f.log.take m) : Int)
        have := pre_ge (a := f.log) (b := f.log.take m) (k := m) hm2 (by simp; omega) (fun i u v hi hu hv => by
          have := (take_get hv).2
          rw [hu] at this; cases this; rfl)
        omega)
      have e2 : R1.count R1.acked = ((putIn n q R.places).filter fun p => decide (R.acked ≤ (pre R.first p.2.log : Int))).length := by
        unfold Rg.count
        rw [h1f, hR1]; rfl
      have e3 : R1.need = R.need := by rw [hR1]; rfl
      rw [e2, e3]
      unfold Rg.count at he
      omega
    · have self : Match q.log q.log := by
        rw [hq]
        exact ((h.mat _ hfm _ hfm).take m).symm.take m
      have other : ∀ z ∈ R.places, Match q.log z.2.log := fun z hz => by
        rw [hq]
        exact (h.mat _ hfm _ hz).take m
      intro y hy z hz
      rcases hmem y hy with ⟨-, e⟩ | ⟨-, hy⟩ <;> rcases hmem z hz with ⟨-, e'⟩ | ⟨-, hz⟩
      · rw [e, e']; exact self
      · rw [e]; exact other z hz
      · rw [e']; exact (other y hy).symm
      · exact h.mat y hy z hz
    · intro y hy i r hr
      have e3 : R1.records = R.records := by rw [hR1]; rfl
      rw [e3]
      rcases hmem y hy with ⟨-, e⟩ | ⟨-, hy⟩
      · rw [e, hq] at hr
        exact h.recs _ hfm i r (take_get hr).2
      · exact h.recs y hy i r hr
    · intro y hy
      rcases hmem y hy with ⟨-, e⟩ | ⟨-, hy⟩
      · rw [e, hq]
        have : f.log.length ≤ 4000 := h.long _ hfm
        show (f.log.take m).length ≤ 4000
        simp; omega
      · exact h.long y hy
  obtain ⟨g1, g2⟩ := hinv.ack
  have ea : R1.acked = R.acked := by rw [hR1]; rfl
  have hres : R.put n { p with log := f.log.take ((pre f.log p.log : Int) + min most ((f.log.length : Int) - pre f.log p.log)).toNat } = R1 := by rw [hR1, hq, hm]
  rw [hres]
  refine ⟨g1, by rw [← ea]; exact g2, ?_⟩
  show R1.first.take _ = _
  rw [h1f]
theorem Inv.setUp (h : Inv R) {n : ByteArray} {p : Pl α} (hp : R.look n = some p) (up : Bool) : Keeps R (R.put n { p with up := up }) := by
  obtain ⟨q, hq⟩ : ∃ q : Pl α, q = { p with up := up } := ⟨_, rfl⟩
  rw [← hq]
  have hql : q.log = p.log := by rw [hq]
  have hpm := h.place hp
  have h1f : (R.put n q).first = R.first := by
    rw [put_first hp]
    split
    · rename_i e
      rw [hql, ← first_of (p := p) (by rw [e]; exact hp)]
    · rfl
  have hmem : ∀ y ∈ (R.put n q).places, (y.1 = n ∧ y.2 = q) ∨ (y.1 ≠ n ∧ y ∈ R.places) := fun y hy => put_mem h.names hy
  have key : ∀ y ∈ (R.put n q).places, ∃ z ∈ R.places, y.2.log = z.2.log := fun y hy => by
    rcases hmem y hy with ⟨-, e⟩ | ⟨-, hy⟩
    · exact ⟨_, hpm, by rw [e, hql]⟩
    · exact ⟨y, hy, rfl⟩
  refine ⟨⟨?_, ?_, ?_, h.acked, ?_, ?_, ?_, ?_⟩, Int.le_refl _, by rw [h1f]⟩
  · show ((putIn _ _ _).map _).Nodup
    rw [put_names]; exact h.names
  · obtain ⟨f, hf⟩ := h.prim
    show ∃ p, lookIn (putIn _ _ _) R.primary = some p
    rw [put_look _ _ (show lookIn R.places n = some p from hp)]
    split
    · exact ⟨q, rfl⟩
    · exact ⟨f, hf⟩
  · show 1 ≤ R.need ∧ R.need ≤ ((putIn n q R.places).length : Int)
    rw [put_len]; exact h.need
  · have he := h.enough
    have := count_put (n := n) (q := q) (f := fun p => decide (R.acked ≤ (pre R.first p.2.log : Int))) (f' := fun p => decide (R.acked ≤ (pre R.first p.2.log : Int))) h.names (fun y hy hyn hg => hg) (fun y hy hyn hg => by
      have hyp : y.2 = p := by
        have := mem_look h.names hy
        rw [hyn] at this
        have h2 : lookIn R.places n = some p := hp
        rw [h2] at this
        exact (Option.some.inj this).symm
      rw [hyp] at hg
      show decide (R.acked ≤ (pre R.first q.log : Int)) = true
      rw [hql]; exact hg)
    unfold Rg.count at he ⊢
    rw [h1f]
    show R.need ≤ (((putIn n q R.places).filter fun p => decide (R.acked ≤ (pre R.first p.2.log : Int))).length : Int)
    omega
  · intro y hy z hz
    obtain ⟨y', hy', e⟩ := key y hy
    obtain ⟨z', hz', e'⟩ := key z hz
    rw [e, e']; exact h.mat y' hy' z' hz'
  · intro y hy i r hr
    obtain ⟨y', hy', e⟩ := key y hy
    rw [e] at hr
    exact h.recs y' hy' i r hr
  · intro y hy
    obtain ⟨y', hy', e⟩ := key y hy
    rw [e]; exact h.long y' hy'
theorem Inv.fail (h : Inv R) {n : ByteArray} {p : Pl α} (hp : R.look n = some p) : Keeps R (R.failAt p n).2 := by
  unfold Rg.failAt
  split
  · exact Keeps.refl h
  split
  · exact Keeps.refl h
  split
  · exact Keeps.refl h
  rename_i hup hne hac
  have hpm := h.place hp
  have hac' : R.acked ≤ (pre R.first p.log : Int) := by omega
  obtain ⟨f, hfm, hf⟩ := h.first_mem
  have h1f : ({ R with primary := n, epoch := R.epoch + 1 } : Rg α).first = p.log := first_of (R := { R with primary := n, epoch := R.epoch + 1 }) hp
  have hle := pre_le R.first p.log
  refine ⟨⟨h.names, ⟨p, hp⟩, h.need, h.acked, ?_, h.mat, h.recs, h.long⟩, Int.le_refl _, ?_⟩
  · have he := h.enough
    unfold Rg.count at he ⊢
    rw [h1f]
    have mono : ∀ {l : List (ByteArray × Pl α)}, (l.filter fun x => decide (R.acked ≤ (pre R.first x.2.log : Int))).length ≤ (l.filter fun x => decide (R.acked ≤ (pre p.log x.2.log : Int))).length := by
      intro l
      induction l with
      | nil => exact Nat.le_refl _
      | cons b s ih =>
        simp only [List.filter_cons]
        by_cases hb : R.acked ≤ (pre R.first b.2.log : Int)
        · have h2 := pre_le R.first b.2.log
          have h3 := h.acked
          have := pre_ge (a := p.log) (b := b.2.log) (k := R.acked.toNat) (by omega) (by omega) (fun i u v hi hu hv => by
            obtain ⟨u1, v1, a1, a2, a3⟩ := pre_same (a := R.first) (b := p.log) (i := i) (by omega)
            obtain ⟨u2, v2, b1, b2, b3⟩ := pre_same (a := R.first) (b := b.2.log) (i := i) (by omega)
            rw [a1] at b1; rw [hu] at a2; rw [hv] at b2
            cases b1; cases a2; cases b2
            exact a3.symm.trans b3)
          have hb2 : R.acked ≤ (pre p.log b.2.log : Int) := by omega
          simp only [hb, hb2, decide_true, if_true, List.length_cons]
          omega
        · simp only [hb, decide_false, Bool.false_eq_true, if_false]
          split <;> first | (simp only [List.length_cons]; omega) | omega
    show R.need ≤ ((R.places.filter fun x => decide (R.acked ≤ (pre p.log x.2.log : Int))).length : Int)
    have := mono (l := R.places)
    omega
  · rw [h1f]
    have hm := (h.mat _ hfm _ hpm).pre
    rw [hf] at hac'
    have h3 := h.acked
    have e : ∀ l : List (α × Int), l.take R.acked.toNat = (l.take (pre f.log p.log)).take R.acked.toNat := fun l => by rw [List.take_take, Nat.min_eq_left (by omega)]
    rw [hf, e p.log, e f.log, hm]
theorem enough_up (h : Inv R) (hd : ((R.places.filter fun x => !x.2.up).length : Int) < R.need) : ∃ x ∈ R.places, x.2.up = true ∧ (x.1 = R.primary ∨ (R.failAt x.2 x.1).1.2 = 0) := by
  have he := h.enough
  unfold Rg.count at he
  have mono : ∀ {l : List (ByteArray × Pl α)}, (∀ x ∈ l, R.acked ≤ (pre R.first x.2.log : Int) → x.2.up = false) → (l.filter fun x => decide (R.acked ≤ (pre R.first x.2.log : Int))).length ≤ (l.filter fun x => !x.2.up).length := by
    intro l hl
    induction l with
    | nil => exact Nat.le_refl _
    | cons b s ih =>
      have ih' := ih (fun x hx => hl x (by simp [hx]))
      simp only [List.filter_cons]
      by_cases hb : R.acked ≤ (pre R.first b.2.log : Int)
      · simp only [hb, decide_true, if_true, hl b (by simp) hb, Bool.not_false, List.length_cons]
        omega
      · simp only [hb, decide_false, Bool.false_eq_true, if_false]
        split <;> simp <;> omega
  obtain ⟨x, hx, hg, hu⟩ : ∃ x ∈ R.places, R.acked ≤ (pre R.first x.2.log : Int) ∧ x.2.up = true := by
    apply Classical.byContradiction
    intro hno
    have := mono (l := R.places) (fun x hx hg => by
      cases hu : x.2.up with
      | false => rfl
      | true => exact absurd ⟨x, hx, hg, hu⟩ hno)
    omega
  refine ⟨x, hx, hu, ?_⟩
  by_cases hp : x.1 = R.primary
  · exact .inl hp
  · refine .inr ?_
    unfold Rg.failAt
    rw [if_neg (by simp [hu]), if_neg hp, if_neg (by omega)]
end
end Go.Proofs.YtkolnoadeihmoaaGreat.Reg
namespace Go.Proofs.YtkolnoadeihmoaaGreat.Reg
variable {α : Type}
structure Perm (R R' : Rg α) : Prop where
  places : R.places.Perm R'.places
  primary : R.primary = R'.primary
  epoch : R.epoch = R'.epoch
  need : R.need = R'.need
  acked : R.acked = R'.acked
  records : R.records = R'.records
theorem Perm.refl (R : Rg α) : Perm R R := ⟨List.Perm.refl _, rfl, rfl, rfl, rfl, rfl⟩
theorem names_perm {l l' : List (ByteArray × Pl α)} (h : l.Perm l') (hn : (l.map (·.1)).Nodup) : (l'.map (·.1)).Nodup := (h.map (·.1)).nodup_iff.1 hn
theorem look_perm {l l' : List (ByteArray × Pl α)} (h : l.Perm l') (hn : (l.map (·.1)).Nodup) (n : ByteArray) : lookIn l n = lookIn l' n := by
  have hn' := names_perm h hn
  cases hl : lookIn l n with
  | some p =>
    have := mem_look hn' (h.mem_iff.1 (look_mem hl))
    exact this.symm
  | none =>
    cases hl' : lookIn l' n with
    | none => rfl
    | some p =>
      have := mem_look hn (h.mem_iff.2 (look_mem hl'))
      rw [hl] at this
      cases this
theorem Perm.look {R R' : Rg α} (h : Perm R R') (hn : (R.places.map (·.1)).Nodup) (n : ByteArray) : R.look n = R'.look n := look_perm h.places hn n
theorem Perm.first {R R' : Rg α} (h : Perm R R') (hn : (R.places.map (·.1)).Nodup) : R.first = R'.first := by
  unfold Rg.first
  rw [h.look hn, h.primary]
theorem Perm.fail {R R' : Rg α} (h : Perm R R') (hn : (R.places.map (·.1)).Nodup) (word : ByteArray → Bool) (n : ByteArray) : (R.fail word n).1 = (R'.fail word n).1 := by
  unfold Rg.fail Rg.find
  rw [h.look hn]
  split
  · rename_i e he
    split at he
    · cases he; rfl
    · split at he
      · cases he; rfl
      · cases he
  · rename_i p _ he
    split at he
    · cases he
    · split at he
      · cases he
      · rename_i q _
        cases he
        unfold Rg.failAt
        rw [h.primary, h.first hn, h.acked]
        repeat' split
        all_goals rfl
structure Call (α : Type) where
  op : ByteArray
  name : ByteArray
  n : Int
  up : Bool
  log : α
def kRecord : ByteArray := ⟨#[114, 101, 99, 111, 114, 100]⟩
def kShip : ByteArray := ⟨#[115, 104, 105, 112]⟩
def kSet : ByteArray := ⟨#[115, 101, 116]⟩
section
variable (word : ByteArray → Bool) (valid : α → Bool)
def doBy (R : Rg α) (x : Call α) : (Int × Int) × Rg α :=
  if x.op = kRecord then R.record word (valid x.log) x.name x.n x.log
  else if x.op = kShip then R.ship word x.name x.n
  else if x.op = kSet then ((0, (R.set word x.name x.up).1), (R.set word x.name x.up).2)
  else R.fail word x.name
end
section
variable {R : Rg α} {word : ByteArray → Bool} {valid : α → Bool}
theorem find_some {n : ByteArray} {p : Pl α} {e : Int} (h : R.find word n = (some p, e)) : e = 0 ∧ word n = true ∧ R.look n = some p := by
  unfold Rg.find at h
  split at h
  · cases h
  · rename_i hw
    split at h
    · cases h
    · rename_i q hq
      cases h
      exact ⟨rfl, by simpa using hw, hq⟩
theorem find_err {n : ByteArray} {e : Int} (h : R.find word n = (none, e)) : e ≠ 0 := by
  unfold Rg.find at h
  split at h
  · cases h; decide
  · split at h
    · cases h; decide
    · cases h
theorem do_keeps (h : Inv R) (x : Call α) : Keeps R (doBy word valid R x).2 := by
  unfold doBy
  split
  · unfold Rg.record
    split
    · exact Keeps.refl h
    · split
      · exact Keeps.refl h
      · rename_i p _ he
        exact h.record (find_some he).2.2 _ _
  split
  · unfold Rg.ship
    split
    · exact Keeps.refl h
    · rename_i p _ he
      split
      · exact Keeps.refl h
      · rename_i f hf
        exact h.ship (find_some he).2.2 hf _
  split
  · unfold Rg.set
    split
    · exact Keeps.refl h
    · rename_i p _ he
      exact h.setUp (find_some he).2.2 _
  · unfold Rg.fail
    split
    · exact Keeps.refl h
    · rename_i p _ he
      exact h.fail (find_some he).2.2
def runBy (word : ByteArray → Bool) (valid : α → Bool) (R : Rg α) : List (Call α) → Rg α
  | [] => R
  | x :: r => runBy word valid (doBy word valid R x).2 r
theorem run_snoc (l : List (Call α)) (x : Call α) (R : Rg α) : runBy word valid R (l ++ [x]) = (doBy word valid (runBy word valid R l) x).2 := by
  induction l generalizing R with
  | nil => rfl
  | cons y r ih => simp only [List.cons_append, runBy]; exact ih _
theorem run_take {l : List (Call α)} {R : Rg α} {k : Nat} {x : Call α} (h : l[k]? = some x) : runBy word valid R (l.take (k + 1)) = (doBy word valid (runBy word valid R (l.take k)) x).2 := by
  obtain ⟨hk, he⟩ := List.getElem?_eq_some_iff.1 h
  rw [List.take_succ_eq_append_getElem hk, he, run_snoc]
end
def newPlaces (word : ByteArray → Bool) : List (ByteArray × Pl α) → List ByteArray → Option (List (ByteArray × Pl α))
  | acc, [] => some acc
  | acc, s :: r => if word s = false ∨ (lookIn acc s).isSome = true then none else newPlaces word (acc ++ [(s, ⟨true, []⟩)]) r
def newBy (word : ByteArray → Bool) (names : List ByteArray) (need : Int) : Option (Rg α) × Int :=
  match newPlaces (α := α) word [] names with
  | none => (none, 1)
  | some ps => if names.length = 0 ∨ 5 < names.length then (none, 1) else if need < 1 ∨ (names.length : Int) < need then (none, 3) else (some ⟨ps, names.headD ⟨#[]⟩, 1, need, 0, 0⟩, 0)
theorem new_places {word : ByteArray → Bool} : ∀ {names : List ByteArray} {acc ps : List (ByteArray × Pl α)}, newPlaces word acc names = some ps → (acc.map (·.1)).Nodup → (∀ x ∈ acc, x.2 = ⟨true, []⟩) →
    (ps.map (·.1)).Nodup ∧ ps.map (·.1) = acc.map (·.1) ++ names ∧ ∀ x ∈ ps, x.2 = ⟨true, []⟩
  | [], acc, ps, h, hn, ha => by
    unfold newPlaces at h
    cases h
    exact ⟨hn, by simp, ha⟩
  | s :: r, acc, ps, h, hn, ha => by
    unfold newPlaces at h
    split at h
    · cases h
    · rename_i hs
      have hnone : lookIn acc s = none := by
        cases hl : lookIn acc s with
        | none => rfl
        | some p => exact absurd (.inr (by rw [hl]; rfl)) hs
      have hfree := look_none hnone
      obtain ⟨g1, g2, g3⟩ := new_places h (by
        rw [List.map_append, List.nodup_append]
        refine ⟨hn, by simp, fun x hx y hy => ?_⟩
        simp at hy
        subst hy
        obtain ⟨p, hp, rfl⟩ := List.mem_map.1 hx
        exact hfree p hp) (fun x hx => by
        rcases List.mem_append.1 hx with h1 | h1
        · exact ha x h1
        · rw [List.mem_singleton.1 h1])
      exact ⟨g1, by rw [g2]; simp, g3⟩
theorem new_inv {word : ByteArray → Bool} {names : List ByteArray} {need : Int} {R : Rg α} (h : newBy word names need = (some R, 0)) : Inv R := by
  unfold newBy at h
  split at h
  · cases h
  · rename_i ps hps
    split at h
    · cases h
    · rename_i h5
      split at h
      · cases h
      · rename_i hneed
        cases h
        obtain ⟨g1, g2, g3⟩ := new_places hps (by simp) (by simp)
        have hlen : ps.length = names.length := by have := congrArg List.length g2; simpa using this
        have hlog : ∀ x ∈ ps, x.2.log = [] := fun x hx => by rw [g3 x hx]
        obtain ⟨s, r, rfl⟩ : ∃ s r, names = s :: r := by
          cases names with
          | nil => simp at h5
          | cons s r => exact ⟨s, r, rfl⟩
        have hlook : ∃ p, lookIn ps s = some p := by
          cases hl : lookIn ps s with
          | some p => exact ⟨p, rfl⟩
          | none =>
            exfalso
            have hm : s ∈ ps.map (·.1) := by rw [g2]; simp
            obtain ⟨p, hp, e⟩ := List.mem_map.1 hm
            exact look_none hl p hp e
        refine ⟨g1, hlook, ⟨by show (1 : Int) ≤ need; omega, by show need ≤ (ps.length : Int); rw [hlen]; omega⟩, Int.le_refl _, ?_, ?_, ?_, ?_⟩
        · unfold Rg.count
          have : ps.filter (fun p => decide ((0 : Int) ≤ (pre (Rg.first ⟨ps, (s :: r).headD ⟨#[]⟩, 1, need, 0, 0⟩) p.2.log : Int))) = ps := by
            rw [List.filter_eq_self]
            intro x _
            simp
          show need ≤ ((ps.filter (fun p => decide ((0 : Int) ≤ (pre (Rg.first ⟨ps, (s :: r).headD ⟨#[]⟩, 1, need, 0, 0⟩) p.2.log : Int)))).length : Int)
          rw [this, hlen]
          omega
        · intro x hx y hy i j u v hu
          rw [hlog x hx] at hu
          simp at hu
        · intro x hx i u hu
          rw [hlog x hx] at hu
          simp at hu
        · intro x hx
          rw [hlog x hx]
          simp
end Go.Proofs.YtkolnoadeihmoaaGreat.Reg
