/-
  What comes in, opened: names, lists of steps; how large it may be.
-/
import Derived.ProofKit
import Derived.OpenShut
import Derived.ShutString
import Derived.SizedLaws
import Derived.Deep.Slices
import Derived.Test.YtkolnoadeihmoaaGreatKd17
namespace Go.Proofs.YtkolnoadeihmoaaGreat
open Go.ChangeShapes Go.WideShapes Go.ChangeAt Go.RowKit Go.Deep Go.Proofs.YtkolnoadeihmoaaGreatW.PrintWords
theorem cells_string : Tryz.prog.cellsOf 9 = 1 := by kernel_rfl
theorem cells_int : Tryz.prog.cellsOf 3 = 1 := by kernel_rfl
theorem cells_bool : Tryz.prog.cellsOf 4 = 1 := by kernel_rfl
theorem cells_ints : Tryz.prog.cellsOf 122 = 1 := by kernel_rfl
theorem cells_cols : Tryz.prog.cellsOf 133 = 1 := by kernel_rfl
theorem cells_deeds : Tryz.prog.cellsOf 37 = 1 := by kernel_rfl
theorem cells_blobs : Tryz.prog.cellsOf 38 = 1 := by kernel_rfl
theorem cells_col : Tryz.prog.cellsOf 192 = 2 := by kernel_rfl
theorem cells_blob : Tryz.prog.cellsOf 112 = 2 := by kernel_rfl
theorem cells_deed : Tryz.prog.cellsOf 135 = 7 := by kernel_rfl
theorem cells_log : Tryz.prog.cellsOf 40 = 4 := by kernel_rfl
theorem cells_step : Tryz.prog.cellsOf 42 = 8 := by kernel_rfl
theorem bytes_int : Tryz.prog.bytesOf 3 = 8 := by kernel_rfl
theorem own : ownKnob Tryz.prog.godebug = none := by kernel_rfl
theorem laidOut : laidOutB Tryz.prog = true := by kernel_rfl
theorem list2 {l : List Value} (h : l.length = 2) : ∃ a b, l = [a, b] := by
  match l, h with
  | [a, b], _ => exact ⟨a, b, rfl⟩
theorem list4 {l : List Value} (h : l.length = 4) : ∃ a b c d, l = [a, b, c, d] := by
  match l, h with
  | [a, b, c, d], _ => exact ⟨a, b, c, d, rfl⟩
theorem list7 {l : List Value} (h : l.length = 7) : ∃ a b c d e f g, l = [a, b, c, d, e, f, g] := by
  match l, h with
  | [a, b, c, d, e, f, g], _ => exact ⟨a, b, c, d, e, f, g, rfl⟩
theorem list8 {l : List Value} (h : l.length = 8) : ∃ a b c d e f g i, l = [a, b, c, d, e, f, g, i] := by
  match l, h with
  | [a, b, c, d, e, f, g, i], _ => exact ⟨a, b, c, d, e, f, g, i, rfl⟩
def Small {H : Type} (t : TypeId) (d : DataW H) : Prop := ∀ n ∈ d.weights Tryz.prog t, n ≤ reachBytes
theorem weights_all {H : Type} {P : Program} {e : TypeId} : ∀ {l : List (DataW H)} {d : DataW H}, d ∈ l → ∀ n ∈ d.weights P e, n ∈ DataW.weightsAll P e l
  | a :: r, d, hd, n, hn => by
    simp only [DataW.weightsAll, List.mem_append]
    rcases List.mem_cons.1 hd with rfl | hd
    · exact .inl hn
    · exact .inr (weights_all hd n hn)
theorem small_field {H : Type} {t : TypeId} {fs : Array Field} (hu : Tryz.prog.underlying t = some (.struct fs)) {parts : List (DataW H)} (h : Small t (.agg parts)) {j : Nat} {ft : TypeId} {d : DataW H} (ht : (fs.toList.map (·.type))[j]? = some ft) (hd : parts[j]? = some d) : Small ft d := fun n hn => h n (by
  simp only [DataW.weights, hu]
  exact DataW.weights_mem_each ht hd n hn)
def OpensZ {α : Type} (d : Kd α) (t : TypeId) (ok : α → Prop) : Prop := ∀ {H : Type} {enc : TypeId × Value → H} {W : World} {fuel : Nat} {cs : List Value} {y : DataW H × List MemPlace},
  DataW.trod enc Tryz.prog W 0 (fun _ => true) true fuel t cs = some y → Small t y.1 → ∃ x, d.K W x cs ∧ ok x
theorem opensZ_slice {α : Type} [Inhabited α] {d : Kd α} {e t : TypeId} {ok : α → Prop} (ht : Tryz.prog.underlying t = some (.slice e)) (hc : Tryz.prog.cellsOf e = d.sz) (ho : OpensZ d e ok) : OpensZ (Kd.slice e d) t (fun xs => xs.length * Tryz.prog.bytesOf e ≤ reachBytes ∧ ∀ x ∈ xs, ok x) := by
  intro H enc W fuel cs y h hsm
  rcases open_slice ht h with ⟨hcs, _⟩ | ⟨a, len, cap, m, nn, D, Pl, hcs, _, hl, hm, hmm, hy, hel⟩
  · subst hcs
    exact ⟨[], ⟨none, 0, rfl, Nat.le_refl _, rfl, by simp, fun h0 => absurd h0 (by simp)⟩, by simp, by simp⟩
  · subst hcs
    simp only [if_true] at hmm
    subst hmm
    rw [hc] at hel
    unfold maxLen at hm
    subst hy
    have hw : len * Tryz.prog.bytesOf e ≤ reachBytes := by
      have := hsm ((((List.range len).map D).length + ((List.range (m - len)).map fun j => D (len + j)).length) * Tryz.prog.bytesOf e) (by simp [DataW.weights, ht])
      refine Nat.le_trans (Nat.mul_le_mul_right _ ?_) this
      simp
    have hsd : ∀ i, i < len → Small e (D i) := fun i hi n hn => hsm n (by
      simp only [DataW.weights, ht]
      refine List.mem_cons_of_mem _ (List.mem_append.2 (.inl (weights_all (List.mem_map.2 ⟨i, List.mem_range.2 hi, rfl⟩) n hn))))
    have key : ∀ i, i < len → ∃ x : α, ∃ c, c.length = d.sz ∧ d.K W x c ∧ (∀ j u, c[j]? = some u → W.cell? (a.add (i * d.sz + j)) = some u) ∧ ok x := by
      intro i hi
      obtain ⟨c, g1, g2⟩ := hel i (by omega)
      obtain ⟨_, g3, g4⟩ := World.cells?_some g1
      obtain ⟨x, hx, hok⟩ := ho g2 (hsd i hi)
      refine ⟨x, c, g3, hx, fun j u hu => ?_, hok⟩
      have hj := (List.getElem?_eq_some_iff.1 hu).1
      rw [← Addr.add_add, g4 j (by omega)]
      exact hu
    obtain ⟨f, hf⟩ := choose_lt key
    refine ⟨(List.range len).map f, ⟨some a, m, by simp, by simp; omega, ?_⟩, by simpa using hw, ?_⟩
    · refine ⟨rfl, by simp; omega, fun _ => ⟨a, rfl, fun j p hp => ?_⟩⟩
      have hj := (List.getElem?_eq_some_iff.1 hp).1
      simp at hj
      simp [hj] at hp
      subst hp
      obtain ⟨c, h1, h2, h3, -⟩ := hf j hj
      exact ⟨c, h1, h2, h3⟩
    · intro x hx
      simp at hx
      obtain ⟨j, hj, rfl⟩ := hx
      obtain ⟨c, -, -, -, h4⟩ := hf j hj
      exact h4
structure S42 where
  f0 : ByteArray
  f1 : ByteArray
  f2 : Int
  f3 : Bool
  f4 : LO
abbrev SP := S42
def k42 : Kd SP := Kd.iso (Kd.pair Kd.string (Kd.pair Kd.string (Kd.pair (Kd.int .i64) (Kd.pair Kd.bool k40)))) (fun x : SP => (x.f0, x.f1, x.f2, x.f3, x.f4))
abbrev kP : Kd SP := k42
def stL (x : SP) (A0 : Option Addr) (c0 : Nat) (A2 : Option Addr) (c2 : Nat) : List Value := [.string x.f0, .string x.f1, .int .i64 x.f2, .bool x.f3, .slice A0 x.f4.f0.length c0, .int .i64 x.f4.f1, .slice A2 x.f4.f2.length c2, .int .i64 x.f4.f3]
theorem kP_open {w : World} {x : SP} {cs : List Value} (h : kP.K w x cs) : ∃ A0 c0 A2 c2, cs = stL x A0 c0 A2 c2 ∧ x.f4.f0.length ≤ c0 ∧ k135.C w A0 x.f4.f0.length x.f4.f0 ∧ x.f4.f2.length ≤ c2 ∧ kB.C w A2 x.f4.f2.length x.f4.f2 := by
  obtain ⟨_, _, rfl, rfl, ⟨_, _, rfl, rfl, ⟨_, _, rfl, rfl, ⟨_, _, rfl, rfl, h⟩⟩⟩⟩ := h
  obtain ⟨A0, c0, A2, c2, rfl, l0, g0, l2, g2⟩ := k40_open h
  exact ⟨A0, c0, A2, c2, rfl, l0, g0, l2, g2⟩
theorem kP_mk (w : World) (x : SP) {cs : List Value} (h : k40.K w x.f4 cs) : kP.K w x (.string x.f0 :: .string x.f1 :: .int .i64 x.f2 :: .bool x.f3 :: cs) :=
  ⟨[_], _, rfl, rfl, ⟨[_], _, rfl, rfl, ⟨[_], _, rfl, rfl, ⟨[_], _, rfl, rfl, h⟩⟩⟩⟩
abbrev kJ : Kd DE := k135
instance : Inhabited CO := ⟨z192⟩
instance : Inhabited DE := ⟨z135⟩
instance : Inhabited BL := ⟨z112⟩
instance : Inhabited SP := ⟨⟨⟨#[]⟩, ⟨#[]⟩, 0, false, z40⟩⟩
instance : Inhabited ByteArray := ⟨⟨#[]⟩⟩
section
variable {H : Type} {enc : TypeId × Value → H} {W : World} {fuel : Nat} {cs : List Value} {y : DataW H × List MemPlace}
theorem opens_string : OpensZ Kd.string 9 (fun s => s.size ≤ maxLen) := by
  intro H enc W fuel cs y h _
  obtain ⟨s1, h1, -, w1⟩ := DataW.trod_string Tryz.underlying9 h
  exact ⟨s1, h1, w1⟩
theorem opens_col : OpensZ kC 192 (fun x => x.f0.size ≤ maxLen) := by
  intro H enc W fuel cs y h _
  obtain ⟨xs, m, rfl, _, hl, hx, hf⟩ := DataW.trod_struct Tryz.underlying192 h
  rw [cells_col] at hl
  obtain ⟨v0, v1, rfl⟩ := list2 hl
  have hx2 : xs.length = 2 := hx
  have e0 := hf 0 _ rfl
  have e1 := hf 1 _ rfl
  simp only [List.getElem_toArray, List.getElem_cons_zero, List.getElem_cons_succ, cells_string, cells_int, List.drop_zero, List.drop_succ_cons, List.take_succ_cons, List.take_zero] at e0 e1
  rw [List.getElem?_eq_getElem (by omega)] at e0 e1
  obtain ⟨s0, h0, -, w0⟩ := DataW.trod_string Tryz.underlying9 e0
  obtain ⟨s1, h1, -, w1⟩ := DataW.trod_int Tryz.underlying3 e1
  simp only [List.cons.injEq, and_true] at h0 h1
  subst h0 h1
  exact ⟨⟨s0, s1⟩, k192_mk W ⟨s0, s1⟩, w0⟩
theorem opens_blob : OpensZ kB 112 (fun x => x.f1.size ≤ maxLen) := by
  intro H enc W fuel cs y h _
  obtain ⟨xs, m, rfl, _, hl, hx, hf⟩ := DataW.trod_struct Tryz.underlying112 h
  rw [cells_blob] at hl
  obtain ⟨v0, v1, rfl⟩ := list2 hl
  have hx2 : xs.length = 2 := hx
  have e0 := hf 0 _ rfl
  have e1 := hf 1 _ rfl
  simp only [List.getElem_toArray, List.getElem_cons_zero, List.getElem_cons_succ, cells_string, cells_int, List.drop_zero, List.drop_succ_cons, List.take_succ_cons, List.take_zero] at e0 e1
  rw [List.getElem?_eq_getElem (by omega)] at e0 e1
  obtain ⟨s0, h0, -, w0⟩ := DataW.trod_int Tryz.underlying3 e0
  obtain ⟨s1, h1, -, w1⟩ := DataW.trod_string Tryz.underlying9 e1
  simp only [List.cons.injEq, and_true] at h0 h1
  subst h0 h1
  exact ⟨⟨s0, s1⟩, k112_mk W ⟨s0, s1⟩, w1⟩
theorem opens_int : OpensZ kI 3 (fun _ => True) := by
  intro H enc W fuel cs y h _
  obtain ⟨s1, h1, -, w1⟩ := DataW.trod_int Tryz.underlying3 h
  exact ⟨s1, h1, trivial⟩
theorem opens_cols : OpensZ (Kd.slice 192 kC) 133 (fun xs => xs.length * Tryz.prog.bytesOf 192 ≤ reachBytes ∧ ∀ x ∈ xs, x.f0.size ≤ maxLen) := opensZ_slice Tryz.underlying133 cells_col opens_col
theorem opens_ints : OpensZ (Kd.slice 3 kI) 122 (fun xs => xs.length * Tryz.prog.bytesOf 3 ≤ reachBytes ∧ ∀ x ∈ xs, True) := opensZ_slice Tryz.underlying122 cells_int opens_int
theorem opens_blobs : OpensZ (Kd.slice 112 kB) 38 (fun xs => xs.length * Tryz.prog.bytesOf 112 ≤ reachBytes ∧ ∀ x ∈ xs, x.f1.size ≤ maxLen) := opensZ_slice Tryz.underlying38 cells_blob opens_blob
theorem opens_names : OpensZ (Kd.slice 9 Kd.string) 22 (fun xs => xs.length * Tryz.prog.bytesOf 9 ≤ reachBytes ∧ ∀ x ∈ xs, x.size ≤ maxLen) := opensZ_slice Tryz.underlying22 cells_string opens_string
theorem get_fst {α β : Type} {xs : List (α × β)} {j : Nat} (h : j < xs.length) : (xs.map (·.1))[j]? = some (xs[j]).1 := by simp [h]
theorem opens_deed : OpensZ kJ 135 DeedIn := by
  intro H enc W fuel cs y h hsm
  obtain ⟨xs, m, rfl, hy, hl, hx, hf⟩ := DataW.trod_struct Tryz.underlying135 h
  subst hy
  rw [cells_deed] at hl
  obtain ⟨v0, v1, v2, v3, v4, v5, v6, rfl⟩ := list7 hl
  have hx7 : xs.length = 7 := hx
  have e0 := hf 0 _ rfl
  have e1 := hf 1 _ rfl
  have e2 := hf 2 _ rfl
  have e3 := hf 3 _ rfl
  have e4 := hf 4 _ rfl
  have e5 := hf 5 _ rfl
  have e6 := hf 6 _ rfl
  simp only [List.getElem_toArray, List.getElem_cons_zero, List.getElem_cons_succ, cells_string, cells_int, cells_ints, cells_cols, List.drop_zero, List.drop_succ_cons, List.take_succ_cons, List.take_zero] at e0 e1 e2 e3 e4 e5 e6
  rw [List.getElem?_eq_getElem (by omega)] at e0 e1 e2 e3 e4 e5 e6
  obtain ⟨s0, h0, -, w0⟩ := DataW.trod_string Tryz.underlying9 e0
  obtain ⟨s1, h1, -, w1⟩ := DataW.trod_string Tryz.underlying9 e1
  obtain ⟨s2, h2, -, w2⟩ := DataW.trod_string Tryz.underlying9 e2
  obtain ⟨s3, h3, -, w3⟩ := DataW.trod_string Tryz.underlying9 e3
  obtain ⟨cols, ⟨A4, c4, h4, l4, g4⟩, -, w4⟩ := opens_cols e4 (small_field Tryz.underlying135 hsm (j := 4) rfl (get_fst (by omega)))
  obtain ⟨s5, h5, -, w5⟩ := DataW.trod_int Tryz.underlying3 e5
  obtain ⟨nums, ⟨A6, c6, h6, l6, g6⟩, w6, -⟩ := opens_ints e6 (small_field Tryz.underlying135 hsm (j := 6) rfl (get_fst (by omega)))
  simp only [List.cons.injEq, and_true] at h0 h1 h2 h3 h4 h5 h6
  subst h0 h1 h2 h3 h4 h5 h6
  refine ⟨⟨s0, s1, s2, s3, cols, s5, nums⟩, k135_mk W ⟨s0, s1, s2, s3, cols, s5, nums⟩ l4 g4 l6 g6, ⟨w1, w2, w3, Kd.C_max g4, w4, ?_⟩⟩
  rw [bytes_int] at w6
  unfold reachBytes at w6
  show nums.length ≤ _
  omega
theorem opens_deeds : OpensZ (Kd.slice 135 kJ) 37 (fun xs => xs.length * Tryz.prog.bytesOf 135 ≤ reachBytes ∧ ∀ x ∈ xs, DeedIn x) := opensZ_slice Tryz.underlying37 cells_deed opens_deed
theorem opens_log : OpensZ k40 40 LogIn := by
  intro H enc W fuel cs y h hsm
  obtain ⟨xs, m, rfl, hy, hl, hx, hf⟩ := DataW.trod_struct Tryz.underlying40 h
  subst hy
  rw [cells_log] at hl
  obtain ⟨v0, v1, v2, v3, rfl⟩ := list4 hl
  have hx4 : xs.length = 4 := hx
  have e0 := hf 0 _ rfl
  have e1 := hf 1 _ rfl
  have e2 := hf 2 _ rfl
  have e3 := hf 3 _ rfl
  simp only [List.getElem_toArray, List.getElem_cons_zero, List.getElem_cons_succ, cells_int, cells_deeds, cells_blobs, List.drop_zero, List.drop_succ_cons, List.take_succ_cons, List.take_zero] at e0 e1 e2 e3
  rw [List.getElem?_eq_getElem (by omega)] at e0 e1 e2 e3
  obtain ⟨ds, ⟨A0, c0, h0, l0, g0⟩, -, w0⟩ := opens_deeds e0 (small_field Tryz.underlying40 hsm (j := 0) rfl (get_fst (by omega)))
  obtain ⟨s1, h1, -, w1⟩ := DataW.trod_int Tryz.underlying3 e1
  obtain ⟨bs, ⟨A2, c2, h2, l2, g2⟩, -, w2⟩ := opens_blobs e2 (small_field Tryz.underlying40 hsm (j := 2) rfl (get_fst (by omega)))
  obtain ⟨s3, h3, -, w3⟩ := DataW.trod_int Tryz.underlying3 e3
  simp only [List.cons.injEq, and_true] at h0 h1 h2 h3
  subst h0 h1 h2 h3
  exact ⟨⟨ds, s1, bs, s3⟩, k40_mk W ⟨ds, s1, bs, s3⟩ l0 g0 l2 g2, ⟨w0, Kd.C_max g0, Kd.C_max g2, w2⟩⟩
structure StepIn (x : SP) : Prop where
  s0 : x.f0.size ≤ maxLen
  s1 : x.f1.size ≤ maxLen
  l : LogIn x.f4
theorem opens_step : OpensZ kP 42 StepIn := by
  intro H enc W fuel cs y h hsm
  obtain ⟨xs, m, rfl, hy, hl, hx, hf⟩ := DataW.trod_struct Tryz.underlying42 h
  subst hy
  rw [cells_step] at hl
  obtain ⟨v0, v1, v2, v3, v4, v5, v6, v7, rfl⟩ := list8 hl
  have hx5 : xs.length = 5 := hx
  have e0 := hf 0 _ rfl
  have e1 := hf 1 _ rfl
  have e2 := hf 2 _ rfl
  have e3 := hf 3 _ rfl
  have e4 := hf 4 _ rfl
  simp only [List.getElem_toArray, List.getElem_cons_zero, List.getElem_cons_succ, cells_string, cells_int, cells_bool, cells_log, List.drop_zero, List.drop_succ_cons, List.take_succ_cons, List.take_zero] at e0 e1 e2 e3 e4
  rw [List.getElem?_eq_getElem (by omega)] at e0 e1 e2 e3 e4
  obtain ⟨s0, h0, -, w0⟩ := DataW.trod_string Tryz.underlying9 e0
  obtain ⟨s1, h1, -, w1⟩ := DataW.trod_string Tryz.underlying9 e1
  obtain ⟨s2, h2, -, w2⟩ := DataW.trod_int Tryz.underlying3 e2
  obtain ⟨s3, h3, -⟩ := DataW.trod_bool Tryz.underlying4 e3
  obtain ⟨x, hK, w4⟩ := opens_log e4 (small_field Tryz.underlying42 hsm (j := 4) rfl (get_fst (by omega)))
  simp only [List.cons.injEq, and_true] at h0 h1 h2 h3
  subst h0 h1 h2 h3
  exact ⟨⟨s0, s1, s2, s3, x⟩, kP_mk W ⟨s0, s1, s2, s3, x⟩ hK, ⟨w0, w1, w4⟩⟩
theorem opens_steps : OpensZ (Kd.slice 42 kP) 23 (fun xs => xs.length * Tryz.prog.bytesOf 42 ≤ reachBytes ∧ ∀ x ∈ xs, StepIn x) := opensZ_slice Tryz.underlying23 cells_step opens_step
end
theorem open_steps {H : Type} {enc : TypeId × Value → H} {W : World} {v : Value} {d : DataW H} {p : List MemPlace} (hv : v.cells.toList = [v]) (h : DataW.Trod enc Tryz.prog W 0 (fun _ => true) true 23 v d p) (hs : Small 23 d) :
    ∃ A c l, v = .slice A l.length c ∧ l.length ≤ c ∧ Kd.C kP W A l.length l ∧ ∀ x ∈ l, StepIn x := by
  obtain ⟨fuel, hf⟩ := h
  rw [hv] at hf
  obtain ⟨l, ⟨A, c, e, hl, hC⟩, -, hx⟩ := opens_steps hf hs
  simp only [List.cons.injEq, and_true] at e
  exact ⟨A, c, l, e, hl, hC, hx⟩
theorem open_names {H : Type} {enc : TypeId × Value → H} {W : World} {v : Value} {d : DataW H} {p : List MemPlace} (hv : v.cells.toList = [v]) (h : DataW.Trod enc Tryz.prog W 0 (fun _ => true) true 22 v d p) (hs : Small 22 d) :
    ∃ A c l, v = .slice A l.length c ∧ l.length ≤ c ∧ Kd.C Kd.string W A l.length l ∧ ∀ x ∈ l, x.size ≤ maxLen := by
  obtain ⟨fuel, hf⟩ := h
  rw [hv] at hf
  obtain ⟨l, ⟨A, c, e, hl, hC⟩, -, hx⟩ := opens_names hf hs
  simp only [List.cons.injEq, and_true] at e
  exact ⟨A, c, l, e, hl, hC, hx⟩
theorem small_of {H : Type} {ts : List TypeId} {ds : List (DataW H)} (h : (DataW.weightsEach Tryz.prog ts ds).all (· ≤ reachBytes) = true) {j : Nat} {t : TypeId} {d : DataW H} (ht : ts[j]? = some t) (hd : ds[j]? = some d) : Small t d := fun n hn => by
  have := List.all_eq_true.1 h _ (DataW.weights_mem_each ht hd n hn)
  simpa using this
end Go.Proofs.YtkolnoadeihmoaaGreat
