/-
  Plain laws: the printed functions of the reference answer as the plain store does.
-/
import Derived.Test.YtggkhgpdnjkfcaaSu
import Derived.Test.YtggkhgpdnjkfcaaPStorePlaysx9
namespace Go.Proofs.Ytggkhgpdnjkfcaa
open Go.RowKit Go.Proofs.Ytggkhgpdnjkfcaa.PStorePlays Go.Proofs.YtggkhgpdnjkfcaaW.PrintWords Go.Proofs.YtggkhgpdnjkfcaaW.PrintLast Go.Proofs.YtggkhgpdnjkfcaaW.PrintMore

def toS (p : Int × ByteArray) : S64 := ⟨p.1, p.2⟩
def FS (l : FL) : List S64 := l.map toS
def pos : FL → Int → Nat
  | [], _ => 0
  | p :: r, n => if p.1 < n then pos r n + 1 else 0
def isAt (l : FL) (n : Int) : Bool := match l[pos l n]? with | some p => p.1 == n | none => false
theorem pos_le : ∀ (l : FL) (n : Int), pos l n ≤ l.length
  | [], _ => by simp [pos]
  | p :: r, n => by
    unfold pos
    have := pos_le r n
    split <;> simp <;> omega
theorem pos_step {l : FL} {n : Int} {i : Nat} {p : Int × ByteArray} (h : l[i]? = some p) : pos (l.drop i) n = if p.1 < n then pos (l.drop (i + 1)) n + 1 else 0 := by
  obtain ⟨hi, he⟩ := List.getElem?_eq_some_iff.1 h
  rw [List.drop_eq_getElem_cons hi, he]; rfl
theorem rd_FS {l : FL} {i : Nat} {p : Int × ByteArray} (h : l[i]? = some p) : rd_T64 (FS l) (i : Int) = toS p := by
  unfold rd_T64 FS
  simp [List.getD_eq_getElem?_getD, h]
theorem FS_len (l : FL) : (FS l).length = l.length := by simp [FS]

theorem place_from (l : FL) (n g : Int) (hl : l.length ≤ 4000) : ∀ (d k i : Nat), l.length - i = d → i ≤ l.length → d < k →
    cirrusref08_Store_place.l0 k n (i : Int) (FS l) g = some (((i + pos (l.drop i) n : Nat) : Int), match l[i + pos (l.drop i) n]? with | some p => p.1 == n | none => false)
  | 0, k, i, hd, hi, hk => by
    obtain ⟨k, rfl⟩ : ∃ m, k = m + 1 := ⟨k - 1, by omega⟩
    have e : i = l.length := by omega
    subst e
    unfold cirrusref08_Store_place.l0
    rw [if_neg (by rw [FS_len]; omega)]
    simp [pos]
  | d + 1, k, i, hd, hi, hk => by
    obtain ⟨k, rfl⟩ : ∃ m, k = m + 1 := ⟨k - 1, by omega⟩
    have hlt : i < l.length := by omega
    have hp : l[i]? = some l[i] := List.getElem?_eq_getElem hlt
    unfold cirrusref08_Store_place.l0
    rw [if_pos (by rw [FS_len]; omega), if_pos (by omega), rd_FS hp, pos_step hp]
    show (if l[i].1 < n then _ else _) = _
    by_cases hlt2 : l[i].1 < n
    · rw [if_pos hlt2, if_pos hlt2]
      have e : wrap64 ((i : Int) + 1) = ((i + 1 : Nat) : Int) := by unfold wrap64; omega
      rw [e, place_from l n g hl d k (i + 1) (by omega) (by omega) (by omega)]
      have e2 : i + 1 + pos (l.drop (i + 1)) n = i + (pos (l.drop (i + 1)) n + 1) := by omega
      rw [e2]
    · rw [if_neg hlt2, if_neg hlt2]
      simp only [Nat.add_zero, hp]; rfl
theorem place_is (l : FL) (n g : Int) (hl : l.length ≤ 4000) : cirrusref08_Store_place.f 5000 (FS l) g n = some ((pos l n : Int), isAt l n) := by
  unfold cirrusref08_Store_place.f
  have := place_from l n g hl l.length 5000 0 (by omega) (by omega) (by omega)
  simpa [isAt] using this
theorem pos_before : ∀ (l : FL) (n : Int), ∀ q ∈ l.take (pos l n), q.1 < n
  | [], _ => by simp [pos]
  | p :: r, n => by
    unfold pos
    split
    · rename_i h
      intro q hq
      rcases List.mem_cons.1 hq with rfl | hq
      · exact h
      · exact pos_before r n q hq
    · simp
theorem isAt_lget : ∀ (l : FL) (n : Int), Rise l → isAt l n = (lget l n).isSome
  | [], n, _ => by simp [isAt, lget]
  | (a, v) :: r, n, h => by
    obtain ⟨h1, h2⟩ := List.pairwise_cons.1 h
    have ih := isAt_lget r n h2
    unfold isAt pos lget
    by_cases hlt : a < n
    · have hne : ¬ a = n := by omega
      simp only [hlt, if_true, hne, if_false]
      rw [← ih]
      simp [isAt]
    · by_cases e : a = n
      · simp [e]
      · have hn : lget r n = none := lget_absent (fun p hp => by have := h1 p hp; simp only at this; omega)
        simp [hlt, e, hn]
theorem pos_at {l : FL} {n : Int} {v : ByteArray} (hr : Rise l) (h : lget l n = some v) : l[pos l n]? = some (n, v) := by
  induction l with
  | nil => cases h
  | cons p r ih =>
    obtain ⟨a, u⟩ := p
    obtain ⟨h1, h2⟩ := List.pairwise_cons.1 hr
    unfold lget at h
    by_cases e : a = n
    · subst e
      simp only [if_true, Option.some.injEq] at h
      subst h
      simp [pos]
    · simp only [e, if_false] at h
      have : a < n := h1 _ (lget_mem h)
      simp only [pos, this, if_true]
      simpa using ih h2 h
theorem lput_new {n : Int} {v : ByteArray} : ∀ {l : FL}, lget l n = none → Rise l → lput l n v = l.take (pos l n) ++ [(n, v)] ++ l.drop (pos l n) := by
  intro l h hr
  have hd : ldel l n = l := ldel_none (fun p hp e => by
    have := lget_of_mem hr (k := p.1) (v := p.2) hp
    rw [e, h] at this; cases this)
  unfold lput
  rw [hd]
  clear hd hr
  induction l with
  | nil => rfl
  | cons p r ih =>
    obtain ⟨a, u⟩ := p
    unfold lget at h
    by_cases e : a = n
    · simp [e] at h
    · simp only [e, if_false] at h
      unfold lins pos
      by_cases hlt : n < a
      · simp only [hlt, if_true]
        rw [if_neg (by omega)]; rfl
      · simp only [hlt, if_false]
        rw [if_pos (by omega), ih h]; rfl
theorem ldel_there {l : FL} {n : Int} {v : ByteArray} (hr : Rise l) (h : lget l n = some v) : ldel l n = l.take (pos l n) ++ l.drop (pos l n + 1) := by
  induction l with
  | nil => cases h
  | cons p r ih =>
    obtain ⟨a, u⟩ := p
    obtain ⟨h1, h2⟩ := List.pairwise_cons.1 hr
    unfold lget at h
    by_cases e : a = n
    · subst e
      have hd : ldel ((a, u) :: r) a = r := by
        unfold ldel
        rw [List.filter_cons_of_neg (by simp)]
        exact ldel_none (fun p hp => by have := h1 p hp; simp only at this; omega)
      rw [hd]; simp [pos]
    · simp only [e, if_false] at h
      have hlt : a < n := h1 _ (lget_mem h)
      have hd : ldel ((a, u) :: r) n = (a, u) :: ldel r n := by
        unfold ldel
        rw [List.filter_cons_of_pos (by simp [e])]
      rw [hd, ih h2 h]
      simp [pos, hlt]
theorem lput_set {l : FL} {n : Int} {v u : ByteArray} (hr : Rise l) (h : lget l n = some v) : lput l n u = l.set (pos l n) (n, u) := by
  obtain ⟨l1, l2, e1, e2⟩ := lput_there u hr h
  have hlen : pos l n = l1.length := by
    have hp := pos_at hr h
    obtain ⟨hk, he⟩ := List.getElem?_eq_some_iff.1 hp
    have hk1 : l1.length < l.length := by rw [e1]; simp
    have h1 : l[l1.length]'hk1 = (n, v) := by simp [e1]
    have hri := List.pairwise_iff_getElem.1 hr
    rcases Nat.lt_trichotomy (pos l n) l1.length with hlt | heq | hgt
    · have := hri _ _ hk hk1 hlt
      rw [he, h1] at this; simp at this
    · exact heq
    · have := hri _ _ hk1 hk hgt
      rw [he, h1] at this; simp at this
  rw [e2, hlen, e1]
  simp

theorem has_is (l : FL) (n g : Int) (hl : l.length ≤ 4000) (hr : Rise l) : cirrusref08_Store_Has.f 5000 (FS l) g n = some (lget l n).isSome := by
  unfold cirrusref08_Store_Has.f
  rw [place_is l n g hl, isAt_lget l n hr]; rfl
theorem get_is (s : St) (h : s.Ok) (n g : Int) : cirrusref08_Store_Get.f 5000 (FS s.files) g n = some (s.getB n, s.getE n) := by
  unfold cirrusref08_Store_Get.f St.getB St.getE
  rw [place_is s.files n g h.len, isAt_lget _ _ h.rise]
  simp only [Option.bind_some]
  cases hg : lget s.files n with
  | none => simp
  | some v =>
    have hp := pos_at h.rise hg
    have hlt := (List.getElem?_eq_some_iff.1 hp).1
    simp only [Option.isSome_some, if_true]
    rw [if_pos (by omega), if_pos (by rw [FS_len]; omega), rd_FS hp]
    rfl
theorem with_is (l : FL) (n g : Int) (v : ByteArray) (hl : l.length ≤ 4000) (hr : Rise l) (h : lget l n = none) : cirrusref08_Store_with.f 5000 (FS l) g n v = some (FS (lput l n v), max g n) := by
  unfold cirrusref08_Store_with.f
  rw [place_is l n g hl]
  have hp := pos_le l n
  have e0 : ((pos l n : Nat) : Int).toNat = pos l n := by omega
  simp only [Option.bind_some, e0]
  have h1 : (FS l).take (pos l n) = FS (l.take (pos l n)) := by unfold FS; rw [List.map_take]
  have h2 : (FS l).drop (pos l n) = FS (l.drop (pos l n)) := by unfold FS; rw [List.map_drop]
  have h3 : (⟨n, v⟩ : S64) = toS (n, v) := rfl
  rw [if_pos (by omega), if_pos (by rw [FS_len]; omega), if_pos (by simp [FS]; omega), if_pos (by simp [FS]; omega), if_pos (by simp [FS]; omega), lput_new h hr, h1, h2, h3]
  have hm : mx g n = max g n := by unfold mx; omega
  rw [hm]
  simp [FS]
theorem used_from (s : St) (h : s.Ok) (g : Int) : ∀ (d k i : Nat), s.files.length - i = d → i ≤ s.files.length → d < k →
    cirrusref08_Store_Used.l0 k (sumB (s.files.take i)) (i : Int) (FS s.files) g = some s.used
  | 0, k, i, hd, hi, hk => by
    obtain ⟨k, rfl⟩ : ∃ m, k = m + 1 := ⟨k - 1, by omega⟩
    unfold cirrusref08_Store_Used.l0
    rw [if_neg (by rw [FS_len]; omega), List.take_of_length_le (by omega)]; rfl
  | d + 1, k, i, hd, hi, hk => by
    obtain ⟨k, rfl⟩ : ∃ m, k = m + 1 := ⟨k - 1, by omega⟩
    have hp : s.files[i]? = some s.files[i] := List.getElem?_eq_getElem (by omega)
    have hlen := h.len
    have hs := sumB_more hp
    have hb := sumB_bd (s.files.take i) (fun p hp => h.sizes p (List.mem_of_mem_take hp))
    have hb2 : (s.files.take i).length ≤ 4000 := by rw [List.length_take]; omega
    have hz := h.sizes _ (List.mem_iff_getElem?.2 ⟨i, hp⟩)
    unfold cirrusref08_Store_Used.l0
    rw [if_pos (by rw [FS_len]; omega), if_pos (by omega), rd_FS hp]
    have e : wrap64 ((i : Int) + 1) = ((i + 1 : Nat) : Int) := by unfold wrap64; omega
    have e2 : wrap64 (sumB (s.files.take i) + (((toS s.files[i]).f1).size : Int)) = sumB (s.files.take (i + 1)) := by
      rw [hs]; show wrap64 (sumB (s.files.take i) + (s.files[i].2.size : Int)) = _; unfold wrap64; omega
    rw [e, e2]
    exact used_from s h g d k (i + 1) (by omega) (by omega) (by omega)
theorem used_is (s : St) (h : s.Ok) (g : Int) : cirrusref08_Store_Used.f 5000 (FS s.files) g = some s.used := by
  unfold cirrusref08_Store_Used.f
  have hl := h.len
  have := used_from s h g s.files.length 5000 0 (by omega) (by omega) (by omega)
  simpa [sumB] using this
theorem files_from (s : St) (h : s.Ok) (g : Int) : ∀ (d k i : Nat), s.files.length - i = d → i ≤ s.files.length → d < k →
    cirrusref08_Store_Files.l0 k (s.nums.take i) (i : Int) (FS s.files) g = some s.nums
  | 0, k, i, hd, hi, hk => by
    obtain ⟨k, rfl⟩ : ∃ m, k = m + 1 := ⟨k - 1, by omega⟩
    unfold cirrusref08_Store_Files.l0
    rw [if_neg (by rw [FS_len]; omega), List.take_of_length_le (by simp [St.nums]; omega)]
  | d + 1, k, i, hd, hi, hk => by
    obtain ⟨k, rfl⟩ : ∃ m, k = m + 1 := ⟨k - 1, by omega⟩
    have hp : s.files[i]? = some s.files[i] := List.getElem?_eq_getElem (by omega)
    have hlen := h.len
    unfold cirrusref08_Store_Files.l0
    rw [if_pos (by rw [FS_len]; omega), if_pos (by omega), if_pos (by rw [List.length_take]; omega), rd_FS hp]
    have e : wrap64 ((i : Int) + 1) = ((i + 1 : Nat) : Int) := by unfold wrap64; omega
    have e2 : s.nums.take i ++ [(toS s.files[i]).f0] = s.nums.take (i + 1) := by
      rw [List.take_succ_eq_append_getElem (by simp [St.nums]; omega)]
      congr 1
      simp [St.nums, toS]
    rw [e, e2]
    exact files_from s h g d k (i + 1) (by omega) (by omega) (by omega)
theorem files_is (s : St) (h : s.Ok) (g : Int) : cirrusref08_Store_Files.f 5000 (FS s.files) g = some s.nums := by
  unfold cirrusref08_Store_Files.f
  have hl := h.len
  have := files_from s h g s.files.length 5000 0 (by omega) (by omega) (by omega)
  simpa using this

/-! ### Missing -/
def insI : List Int → Int → List Int
  | [], n => [n]
  | a :: r, n => if a < n then a :: insI r n else if a = n then a :: r else n :: a :: r
theorem rd_at {l : List Int} {i : Nat} {p : Int} (h : l[i]? = some p) : rd l (i : Int) = p := by
  unfold rd
  simp [List.getD_eq_getElem?_getD, h]
theorem add_from (l : List Int) (n : Int) (hl : l.length ≤ 1000) : ∀ (d k i : Nat), l.length - i = d → i ≤ l.length → d < k →
    cirrusref08_Add.l0 k l n (i : Int) = some (l.take i ++ insI (l.drop i) n)
  | 0, k, i, hd, hi, hk => by
    obtain ⟨k, rfl⟩ : ∃ m, k = m + 1 := ⟨k - 1, by omega⟩
    have e : i = l.length := by omega
    subst e
    have e0 : ((l.length : Nat) : Int).toNat = l.length := by omega
    unfold cirrusref08_Add.l0
    rw [if_neg (by omega)]
    simp only [Option.bind_some, e0, List.nil_append, List.length_nil]
    rw [if_pos (by omega), if_pos (by omega), if_pos (by simp; omega), if_pos (by simp; omega), if_pos (by simp; omega)]
    simp [insI]
  | d + 1, k, i, hd, hi, hk => by
    obtain ⟨k, rfl⟩ : ∃ m, k = m + 1 := ⟨k - 1, by omega⟩
    have hlt : i < l.length := by omega
    have hp : l[i]? = some l[i] := List.getElem?_eq_getElem hlt
    have hdrop : l.drop i = l[i] :: l.drop (i + 1) := List.drop_eq_getElem_cons hlt
    have htake : l.take (i + 1) = l.take i ++ [l[i]] := List.take_succ_eq_append_getElem hlt
    have e0 : ((i : Nat) : Int).toNat = i := by omega
    unfold cirrusref08_Add.l0
    rw [if_pos (by omega), if_pos (by omega), rd_at hp, hdrop]
    unfold insI
    by_cases h1 : l[i] < n
    · rw [if_pos h1, if_pos h1]
      have e : wrap64 ((i : Int) + 1) = ((i + 1 : Nat) : Int) := by unfold wrap64; omega
      rw [e, add_from l n hl d k (i + 1) (by omega) (by omega) (by omega), htake, List.append_assoc]
      rfl
    · rw [if_neg h1, if_neg h1]
      by_cases h2 : l[i] = n
      · rw [if_pos h2, if_pos h2, ← hdrop, List.take_append_drop]
      · rw [if_neg h2, if_neg h2]
        simp only [Option.bind_some, e0, List.nil_append, List.length_nil]
        rw [if_pos (by omega), if_pos (by simp; omega), if_pos (by simp; omega), if_pos (by simp; omega), hdrop]
        simp
theorem add_is (l : List Int) (n : Int) (hl : l.length ≤ 1000) : cirrusref08_Add.f 5000 l n = some (insI l n) := by
  unfold cirrusref08_Add.f
  have := add_from l n hl l.length 5000 0 (by omega) (by omega) (by omega)
  simpa using this
theorem insI_len : ∀ (l : List Int) (n : Int), (insI l n).length ≤ l.length + 1
  | [], _ => by simp [insI]
  | a :: r, n => by
    have := insI_len r n
    unfold insI
    repeat' split
    all_goals simp
    all_goals omega
def missFold (s : St) (zs : List Int) : List Int := zs.foldl (fun acc z => if (lget s.files z).isSome then acc else insI acc z) []
theorem missFold_snoc (s : St) (zs : List Int) (z : Int) : missFold s (zs ++ [z]) = if (lget s.files z).isSome then missFold s zs else insI (missFold s zs) z := by simp [missFold]
theorem missFold_len (s : St) (zs : List Int) : ∀ i, (missFold s (zs.take i)).length ≤ i
  | 0 => by simp [missFold]
  | i + 1 => by
    have ih := missFold_len s zs i
    by_cases h : i < zs.length
    · rw [List.take_succ_eq_append_getElem h, missFold_snoc]
      have := insI_len (missFold s (zs.take i)) zs[i]
      split <;> omega
    · rw [List.take_of_length_le (by omega)]
      rw [List.take_of_length_le (by omega)] at ih
      omega
theorem miss_from (s : St) (h : s.Ok) (g : Int) (zs : List Int) (hl : zs.length ≤ 1000) : ∀ (d k i : Nat), zs.length - i = d → i ≤ zs.length → d + 5000 < k →
    cirrusref08_Store_Missing.l0 k zs (missFold s (zs.take i)) (i : Int) (FS s.files) g = some (missFold s zs)
  | 0, k, i, hd, hi, hk => by
    obtain ⟨k, rfl⟩ : ∃ m, k = m + 1 := ⟨k - 1, by omega⟩
    unfold cirrusref08_Store_Missing.l0
    rw [if_neg (by omega), List.take_of_length_le (by omega)]
  | d + 1, k, i, hd, hi, hk => by
    obtain ⟨k, rfl⟩ : ∃ m, k = m + 1 := ⟨k - 1, by omega⟩
    have hlt : i < zs.length := by omega
    have hp : zs[i]? = some zs[i] := List.getElem?_eq_getElem hlt
    have hh : cirrusref08_Store_Has.f k (FS s.files) g zs[i] = some (lget s.files zs[i]).isSome :=
      at_rounds (fun k => cirrusref08_Store_Has.mono _ _ _ k) (by omega) (has_is s.files zs[i] g h.len h.rise)
    have hfl := missFold_len s zs i
    have ha : cirrusref08_Add.f k (missFold s (zs.take i)) zs[i] = some (insI (missFold s (zs.take i)) zs[i]) :=
      at_rounds (fun k => cirrusref08_Add.mono _ _ k) (by omega) (add_is _ _ (by omega))
    unfold cirrusref08_Store_Missing.l0
    have e : wrap64 ((i : Int) + 1) = ((i + 1 : Nat) : Int) := by unfold wrap64; omega
    have hnext := missFold_snoc s (zs.take i) zs[i]
    rw [← List.take_succ_eq_append_getElem hlt] at hnext
    rw [if_pos (by omega), if_pos (by omega), rd_at hp, hh, e]
    simp only [Option.bind_some]
    by_cases hs : (lget s.files zs[i]).isSome = true
    · rw [if_pos hs] at hnext
      rw [if_pos hs, ← hnext]
      exact miss_from s h g zs hl d k (i + 1) (by omega) (by omega) (by omega)
    · rw [if_neg hs] at hnext
      rw [if_neg hs, ha]
      simp only [Option.bind_some]
      rw [← hnext]
      exact miss_from s h g zs hl d k (i + 1) (by omega) (by omega) (by omega)
theorem miss_is (s : St) (h : s.Ok) (g : Int) (zs : List Int) (hl : zs.length ≤ 1000) : cirrusref08_Store_Missing.f 9000 (FS s.files) g zs = some (missFold s zs) := by
  unfold cirrusref08_Store_Missing.f
  have := miss_from s h g zs hl zs.length 9000 0 (by omega) (by omega) (by omega)
  simpa [missFold] using this
theorem mem_insI : ∀ {l : List Int} {n x : Int}, x ∈ insI l n ↔ x = n ∨ x ∈ l
  | [], n, x => by simp [insI]
  | a :: r, n, x => by
    unfold insI
    split
    · simp only [List.mem_cons, mem_insI (l := r)]
      constructor
      · rintro (h | h | h) <;> simp [h]
      · rintro (h | h | h) <;> simp [h]
    · split
      · rename_i h; subst h; simp
      · simp
theorem insI_rise : ∀ {l : List Int} {n : Int}, l.Pairwise (· < ·) → (insI l n).Pairwise (· < ·)
  | [], n, _ => by simp [insI]
  | a :: r, n, h => by
    obtain ⟨h1, h2⟩ := List.pairwise_cons.1 h
    unfold insI
    split
    · rename_i ha
      refine List.pairwise_cons.2 ⟨fun x hx => ?_, insI_rise h2⟩
      rcases mem_insI.1 hx with rfl | hx
      · exact ha
      · exact h1 x hx
    · split
      · exact h
      · rename_i h3 h4
        refine List.pairwise_cons.2 ⟨fun x hx => ?_, h⟩
        rcases List.mem_cons.1 hx with rfl | hx
        · omega
        · have := h1 x hx; omega
theorem missFold_spec (s : St) : ∀ (zs : List Int) (acc : List Int), acc.Pairwise (· < ·) → (zs.foldl (fun acc z => if (lget s.files z).isSome then acc else insI acc z) acc).Pairwise (· < ·) ∧ ∀ x, x ∈ zs.foldl (fun acc z => if (lget s.files z).isSome then acc else insI acc z) acc ↔ x ∈ acc ∨ x ∈ missL s zs
  | [], acc, h => ⟨h, by simp [missL]⟩
  | z :: r, acc, h => by
    simp only [List.foldl_cons]
    by_cases hs : (lget s.files z).isSome = true
    · rw [if_pos hs]
      obtain ⟨i1, i2⟩ := missFold_spec s r acc h
      refine ⟨i1, fun x => ?_⟩
      rw [i2 x]
      have : missL s (z :: r) = missL s r := by unfold missL; rw [List.filter_cons_of_neg (by simp [hs])]
      rw [this]
    · rw [if_neg hs]
      obtain ⟨i1, i2⟩ := missFold_spec s r (insI acc z) (insI_rise h)
      refine ⟨i1, fun x => ?_⟩
      rw [i2 x, mem_insI]
      have : missL s (z :: r) = z :: missL s r := by unfold missL; rw [List.filter_cons_of_pos (by simpa using hs)]
      rw [this]
      simp only [List.mem_cons]
      constructor
      · rintro ((h | h) | h) <;> simp [h]
      · rintro (h | h | h) <;> simp [h]
theorem compact_spec (d : Array Int) (hd : ∀ i j, i < j → j < d.size → d[i]! ≤ d[j]!) : ∀ m, m ≤ d.size → (Lib.compactUpTo d m).Pairwise (· < ·) ∧ (∀ x, x ∈ Lib.compactUpTo d m ↔ ∃ j, j < m ∧ x = d[j]!)
  | 0, _ => by simp [Lib.compactUpTo]
  | m + 1, hm => by
    obtain ⟨i1, i2⟩ := compact_spec d hd m (by omega)
    rw [Lib.compactUpTo_succ]
    by_cases hk : Lib.keeps d m = true
    · rw [if_pos hk]
      have hk' : m = 0 ∨ d[m]! ≠ d[m - 1]! := of_decide_eq_true hk
      refine ⟨List.pairwise_append.2 ⟨i1, by simp, fun x hx y hy => ?_⟩, fun x => ?_⟩
      · obtain ⟨j, hj, rfl⟩ := (i2 x).1 hx
        simp at hy; subst hy
        rcases hk' with h0 | h0
        · omega
        · have h2 := hd (m - 1) m (by omega) (by omega)
          have h1 : d[j]! ≤ d[m - 1]! := by
            by_cases e : j = m - 1
            · subst e; exact Int.le_refl _
            · exact hd j (m - 1) (by omega) (by omega)
          omega
      · simp only [List.mem_append, i2, List.mem_singleton]
        constructor
        · rintro (⟨j, hj, rfl⟩ | rfl)
          · exact ⟨j, by omega, rfl⟩
          · exact ⟨m, by omega, rfl⟩
        · rintro ⟨j, hj, rfl⟩
          by_cases e : j = m
          · subst e; exact .inr rfl
          · exact .inl ⟨j, by omega, rfl⟩
    · rw [if_neg hk, List.append_nil]
      refine ⟨i1, fun x => ?_⟩
      rw [i2]
      have hk' : ¬ (m = 0 ∨ d[m]! ≠ d[m - 1]!) := fun h => hk (decide_eq_true h)
      constructor
      · rintro ⟨j, hj, rfl⟩
        exact ⟨j, by omega, rfl⟩
      · rintro ⟨j, hj, rfl⟩
        by_cases e : j = m
        · subst e
          have h3 : d[j]! = d[j - 1]! := Decidable.byContradiction fun h => hk' (.inr h)
          exact ⟨j - 1, by omega, h3⟩
        · exact ⟨j, by omega, rfl⟩
theorem eq_of_rise {a b : List Int} (ha : a.Pairwise (· < ·)) (hb : b.Pairwise (· < ·)) (h : ∀ x, x ∈ a ↔ x ∈ b) : a = b := by
  have hp : a.Perm b := (List.perm_ext_iff_of_nodup (ha.imp (fun h => by omega)) (hb.imp (fun h => by omega))).2 h
  exact List.Perm.eq_of_pairwise (le := fun x y : Int => x < y) (fun a b _ _ h1 h2 => by omega) ha hb hp
theorem miss_eq (s : St) (zs : List Int) : missFold s zs = missing s zs := by
  obtain ⟨a1, a2⟩ := missFold_spec s zs [] List.Pairwise.nil
  unfold missing Lib.compact
  have hsort : ((missL s zs).mergeSort fun x y => decide (x ≤ y)).Pairwise (· ≤ ·) := by
    refine (List.pairwise_mergeSort (le := fun x y : Int => decide (x ≤ y)) ?_ ?_ _).imp ?_
    · intro a b c h1 h2; simp at *; omega
    · intro a b; simp; omega
    · intro a b hab; simpa using hab
  have hd : ∀ i j, i < j → j < ((missL s zs).mergeSort fun x y => decide (x ≤ y)).toArray.size → ((missL s zs).mergeSort fun x y => decide (x ≤ y)).toArray[i]! ≤ ((missL s zs).mergeSort fun x y => decide (x ≤ y)).toArray[j]! := by
    intro i j hij hj
    rw [getElem!_pos _ i (by omega), getElem!_pos _ j hj]
    have hj' : j < ((missL s zs).mergeSort fun x y => decide (x ≤ y)).length := by simpa using hj
    exact List.pairwise_iff_getElem.1 hsort i j (by omega) hj' hij
  obtain ⟨b1, b2⟩ := compact_spec _ hd ((missL s zs).mergeSort fun x y => decide (x ≤ y)).length (by simp)
  refine eq_of_rise a1 b1 (fun x => ?_)
  rw [b2]
  show x ∈ missFold s zs ↔ _
  unfold missFold
  rw [a2 x]
  have hm : x ∈ missL s zs ↔ x ∈ (missL s zs).mergeSort fun x y => decide (x ≤ y) := by simp
  simp only [List.not_mem_nil, false_or]
  rw [hm, List.mem_iff_getElem]
  constructor
  · rintro ⟨i, hi, rfl⟩
    exact ⟨i, hi, by rw [getElem!_pos _ i (by simpa using hi)]; simp⟩
  · rintro ⟨i, hi, rfl⟩
    exact ⟨i, hi, by rw [getElem!_pos _ i (by simpa using hi)]; simp⟩

end Go.Proofs.Ytggkhgpdnjkfcaa
