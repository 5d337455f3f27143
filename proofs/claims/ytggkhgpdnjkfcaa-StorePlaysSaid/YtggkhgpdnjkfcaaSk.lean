/-
  Plain laws on stores: a file keeps its bytes; numbers grow.
-/
import Derived.Test.YtggkhgpdnjkfcaaSi
namespace Go.Proofs.Ytggkhgpdnjkfcaa
open Go.RowKit

def Bad (n : Int) (y : Ac) : Prop := y.file = n ∧ (y.op = sDrop ∨ y.op = sDamage) ∧ y.second = false
/-- File n is there with these bytes, and its number was used. -/
structure Has (s : St) (n : Int) (b : ByteArray) : Prop where
  get : lget s.files n = some b
  le : n ≤ s.most
theorem Has.put {s : St} {n : Int} {b : ByteArray} (h : Has s n b) (x : ByteArray) : Has (s.put x) n b := by
  unfold St.put
  split
  · exact h
  · refine ⟨?_, by have := h.le; show n ≤ s.most + 1; omega⟩
    show lget (lput s.files (s.most + 1) x) n = some b
    rw [lget_put, if_neg (by have := h.le; omega)]; exact h.get
theorem Has.many {s : St} {n : Int} {b : ByteArray} (h : Has s n b) : ∀ k, Has (putMany k s) n b
  | 0 => h
  | k + 1 => (Has.many h k).put _
theorem Has.drop {s : St} {n : Int} {b : ByteArray} (h : Has s n b) {k : Int} (hk : k ≠ n) : Has (s.drop k) n b :=
  ⟨by show lget (ldel s.files k) n = some b; rw [lget_del, if_neg (by omega)]; exact h.get, h.le⟩
theorem Has.copy {s : St} {n : Int} {b : ByteArray} (h : Has s n b) (t : St) (k : Int) : Has (s.copy t k) n b := by
  unfold St.copy
  split
  · exact h
  · rename_i v hv
    split
    · exact h
    · rename_i hs
      have hne : n ≠ k := by rintro rfl; rw [h.get] at hs; simp at hs
      refine ⟨?_, by have := h.le; show n ≤ max s.most k; omega⟩
      show lget (lput s.files k v) n = some b
      rw [lget_put, if_neg hne]; exact h.get
theorem Has.dmg {s : St} {n : Int} {b : ByteArray} (h : Has s n b) {k : Int} (hk : k ≠ n) (x y : Int) : Has (s.dmg k x y) n b := by
  unfold St.dmg
  split
  · exact h
  · split
    · exact h
    · refine ⟨?_, h.le⟩
      show lget (lput s.files k _) n = some b
      rw [lget_put, if_neg (by omega)]; exact h.get
theorem Has.act {s : St} {n : Int} {b : ByteArray} (h : Has s n b) (t : St) (y : Ac) (hb : ¬ Bad n y) (h2 : y.second = false) : Has (act1 y s t) n b := by
  have hd : y.op = sDrop ∨ y.op = sDamage → y.file ≠ n := fun ho e => hb ⟨e, ho, h2⟩
  unfold act1
  split
  · exact h.put _
  · split
    · exact h.many _
    · split
      · rename_i e; exact h.drop (hd (.inl e))
      · split
        · exact h.copy _ _
        · split
          · rename_i e; exact h.dmg (hd (.inr e)) _ _
          · exact h
theorem Has.play {n : Int} {b : ByteArray} : ∀ (ys : List Ac) (p : St × St), Has p.1 n b → (∀ y ∈ ys, ¬ Bad n y) → Has (playL ys p).1 n b
  | [], p, h, _ => h
  | y :: r, p, h, hb => by
    refine Has.play r (stepP p y) ?_ (fun z hz => hb z (by simp [hz]))
    unfold stepP
    split
    · exact h
    · rename_i h2
      exact h.act _ _ (hb y (by simp)) (by simpa using h2)
theorem playL_ok : ∀ (ys : List Ac) (p : St × St), p.1.Ok → p.2.Ok → (playL ys p).1.Ok ∧ (playL ys p).2.Ok
  | [], _, h1, h2 => ⟨h1, h2⟩
  | y :: r, p, h1, h2 => by
    refine playL_ok r (stepP p y) ?_ ?_
    · unfold stepP; split
      · exact h1
      · exact act1_ok h1 h2
    · unfold stepP; split
      · exact act1_ok h2 h1
      · exact h2

theorem put_most (s : St) (x : ByteArray) : s.most ≤ (s.put x).most := by
  unfold St.put; split
  · exact Int.le_refl _
  · show s.most ≤ s.most + 1; omega
theorem many_most (s : St) : ∀ k, s.most ≤ (putMany k s).most
  | 0 => Int.le_refl _
  | k + 1 => Int.le_trans (many_most s k) (put_most _ _)
theorem act1_most (y : Ac) (s t : St) : s.most ≤ (act1 y s t).most := by
  unfold act1
  split
  · exact put_most _ _
  · split
    · exact many_most _ _
    · split
      · exact Int.le_refl _
      · split
        · unfold St.copy
          split
          · exact Int.le_refl _
          · split
            · exact Int.le_refl _
            · show s.most ≤ max s.most y.file; omega
        · split
          · unfold St.dmg
            split
            · exact Int.le_refl _
            · split <;> exact Int.le_refl _
          · exact Int.le_refl _
theorem playL_most : ∀ (ys : List Ac) (p : St × St), p.1.most ≤ (playL ys p).1.most
  | [], _ => Int.le_refl _
  | y :: r, p => by
    refine Int.le_trans ?_ (playL_most r (stepP p y))
    unfold stepP; split
    · exact Int.le_refl _
    · exact act1_most _ _ _

theorem put_e0 {s : St} (h : s.most < 4000) : s.putE ⟨#[]⟩ = 0 := by
  have : s.full ⟨#[]⟩ = false := by simp only [St.full, Bool.or_eq_false_iff, decide_eq_false_iff_not]; exact ⟨by decide, by omega⟩
  simp [St.putE, this]
theorem put_n0 {s : St} (h : s.most < 4000) : s.putN ⟨#[]⟩ = s.most + 1 := by
  have : s.full ⟨#[]⟩ = false := by simp only [St.full, Bool.or_eq_false_iff, decide_eq_false_iff_not]; exact ⟨by decide, by omega⟩
  simp [St.putN, this]
theorem put_m1 {s : St} {b : ByteArray} (h : s.most < 4000) (hb : b.size ≤ 8388608) : (s.put b).most = s.most + 1 := by
  have : s.full b = false := by simp only [St.full, Bool.or_eq_false_iff, decide_eq_false_iff_not]; omega
  simp [St.put, this]

def GoneUpto (ys : List Ac) (n : Int) (k : Nat) (g : Bool) : Prop := g = false → ∀ j y, j < k → ys[j]? = some y → ¬ Bad n y
theorem GoneUpto.step {ys : List Ac} {n : Int} {k : Nat} {op bytes : ByteArray} {sec : Bool} {file at_ by_ : Int} {lv : Value} {nums : List Int} (h : GoneUpto ys n k false) (hx : ys[k]? = some ⟨op, sec, bytes, file, at_, by_, lv, nums⟩)
    (h1 : file ≠ n ∨ ((op.toList == [100, 114, 111, 112]) = false ∧ (op.toList == [100, 97, 109, 97, 103, 101]) = false) ∨ sec = true) : GoneUpto ys n (k + 1) false := by
  intro _ j y hj hy ⟨b1, b2, b3⟩
  by_cases e : j = k
  · subst e
    rw [hx] at hy; cases hy
    simp only at b1 b2 b3
    rcases h1 with h1 | ⟨h1, h2⟩ | h1
    · exact h1 b1
    · rcases b2 with rfl | rfl
      · exact absurd h1 (by decide +kernel)
      · exact absurd h2 (by decide +kernel)
    · rw [h1] at b3; cases b3
  · exact h rfl j y (by omega) hy ⟨b1, b2, b3⟩
theorem GoneUpto.all {ys : List Ac} {n : Int} (h : GoneUpto ys n ys.length false) : ∀ y ∈ ys, ¬ Bad n y := fun y hy => by
  obtain ⟨j, hj⟩ := List.mem_iff_getElem?.1 hy
  exact h rfl j y (by have := List.getElem?_eq_some_iff.1 hj; exact this.1) hj
theorem GoneUpto.yes (ys : List Ac) (n : Int) (k : Nat) : GoneUpto ys n k true := by intro h; cases h

theorem has_new {s : St} (x : ByteArray) (hx : x.size ≤ 8388608) (hm : s.most < 4000) : s.full x = false ∧ Has (s.put x) (s.most + 1) x := by
  have hf : s.full x = false := by simp [St.full]; omega
  refine ⟨hf, ?_⟩
  simp only [St.put, hf]
  exact ⟨by show lget (lput s.files (s.most + 1) x) (s.most + 1) = some x; rw [lget_put, if_pos rfl], Int.le_refl _⟩

end Go.Proofs.Ytggkhgpdnjkfcaa
