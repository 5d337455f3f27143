/-
  What comes in, opened: lists of steps.
-/
import Derived.ProofKit
import Derived.OpenShut
import Derived.ShutString
import Derived.SizedLaws
import Derived.Deep.Slices
import Derived.Test.YtcfgcmjnailndaaKd0
namespace Go.Proofs.Ytcfgcmjnailndaa
open Go.ChangeShapes Go.WideShapes Go.ChangeAt Go.RowKit Go.Deep Go.Proofs.Ytcfgcmjnailndaa.PCatalogKept Go.Proofs.YtcfgcmjnailndaaW.PrintWords Go.Proofs.YtcfgcmjnailndaaW.PrintLast Go.Proofs.YtcfgcmjnailndaaW.PrintMore
theorem cells_string : Try.prog.cellsOf 9 = 1 := by kernel_rfl
theorem cells_int : Try.prog.cellsOf 3 = 1 := by kernel_rfl
theorem cells_ints : Try.prog.cellsOf 29 = 1 := by kernel_rfl
theorem cells_cols : Try.prog.cellsOf 28 = 1 := by kernel_rfl
theorem cells_deeds : Try.prog.cellsOf 23 = 1 := by kernel_rfl
theorem cells_col : Try.prog.cellsOf 83 = 2 := by kernel_rfl
theorem cells_deed : Try.prog.cellsOf 31 = 7 := by kernel_rfl
theorem cells_step : Try.prog.cellsOf 25 = 2 := by kernel_rfl
theorem own : ownKnob Try.prog.godebug = none := by kernel_rfl
theorem laidOut : laidOutB Try.prog = true := by kernel_rfl
theorem list2 {l : List Value} (h : l.length = 2) : ∃ a b, l = [a, b] := by
 match l, h with
 | [a, b], _ => exact ⟨a, b, rfl⟩
theorem list7 {l : List Value} (h : l.length = 7) : ∃ a b c d e f g, l = [a, b, c, d, e, f, g] := by
 match l, h with
 | [a, b, c, d, e, f, g], _ => exact ⟨a, b, c, d, e, f, g, rfl⟩
abbrev SP := S25
abbrev kP : Kd SP := k25
abbrev kJ : Kd DE := k31
def Opens {α : Type} (d : Kd α) (t : TypeId) (ok : α → Prop) : Prop := ∀ {H : Type} {enc : TypeId × Value → H} {W : World} {fuel : Nat} {cs : List Value} {y : DataW H × List MemPlace},
 DataW.trod enc Try.prog W 0 (fun _ => true) true fuel t cs = some y → ∃ x, d.K W x cs ∧ ok x
theorem opens_slice {α : Type} [Inhabited α] {d : Kd α} {e t : TypeId} {ok : α → Prop} (ht : Try.prog.underlying t = some (.slice e)) (hc : Try.prog.cellsOf e = d.sz) (ho : Opens d e ok) : Opens (Kd.slice e d) t (fun xs => ∀ x ∈ xs, ok x) := by
 intro H enc W fuel cs y h
 rcases open_slice ht h with ⟨hcs, _⟩ | ⟨a, len, cap, m, nn, D, Pl, hcs, _, hl, hm, hmm, _, hel⟩
 ·subst hcs
  exact ⟨[], ⟨none, 0, rfl, Nat.le_refl _, rfl, by simp, fun h0 => absurd h0 (by simp)⟩, by simp⟩
 ·subst hcs
  simp only [if_true] at hmm
  subst hmm
  rw [hc] at hel
  unfold maxLen at hm
  have key : ∀ i, i < len → ∃ x : α, ∃ c, c.length = d.sz ∧ d.K W x c ∧ (∀ j u, c[j]? = some u → W.cell? (a.add (i * d.sz + j)) = some u) ∧ ok x := by
   intro i hi
   obtain ⟨c, g1, g2⟩ := hel i (by omega)
   obtain ⟨_, g3, g4⟩ := World.cells?_some g1
   obtain ⟨x, hx, hok⟩ := ho g2
   refine ⟨x, c, g3, hx, fun j u hu => ?_, hok⟩
   have hj := (List.getElem?_eq_some_iff.1 hu).1
   rw [← Addr.add_add, g4 j (by omega)]
   exact hu
  obtain ⟨f, hf⟩ := choose_lt key
  refine ⟨(List.range len).map f, ⟨some a, m, by simp, by simp; omega, ?_⟩, ?_⟩
  ·refine ⟨rfl, by simp; omega, fun _ => ⟨a, rfl, fun j p hp => ?_⟩⟩
   have hj := (List.getElem?_eq_some_iff.1 hp).1
   simp at hj
   simp [hj] at hp
   subst hp
   obtain ⟨c, h1, h2, h3, -⟩ := hf j hj
   exact ⟨c, h1, h2, h3⟩
  ·intro x hx
   simp at hx
   obtain ⟨j, hj, rfl⟩ := hx
   obtain ⟨c, -, -, -, h4⟩ := hf j hj
   exact h4
instance : Inhabited CO := ⟨z83⟩
instance : Inhabited DE := ⟨z31⟩
instance : Inhabited SP := ⟨z25⟩
def CoIn (x : CO) : Prop := x.f0.size ≤ maxLen
theorem opens_col : Opens kC 83 CoIn := by
 intro H enc W fuel cs y h
 obtain ⟨xs, m, rfl, _, hl, hx, hf⟩ := DataW.trod_struct Try.underlying83 h
 rw [cells_col] at hl
 obtain ⟨v0, v1, rfl⟩ := list2 hl
 have hx2 : xs.length = 2 := hx
 have e0 := hf 0 _ rfl
 have e1 := hf 1 _ rfl
 simp only [List.getElem_toArray, List.getElem_cons_zero, List.getElem_cons_succ, cells_string, cells_int, List.drop_zero, List.drop_succ_cons, List.take_succ_cons, List.take_zero] at e0 e1
 rw [List.getElem?_eq_getElem (by omega)] at e0 e1
 obtain ⟨s0, h0, -, w0⟩ := DataW.trod_string Try.underlying9 e0
 obtain ⟨s1, h1, -, w1⟩ := DataW.trod_int Try.underlying3 e1
 simp only [List.cons.injEq, and_true] at h0 h1
 subst h0 h1
 exact ⟨⟨s0, s1⟩, k83_mk W ⟨s0, s1⟩, w0⟩
theorem opens_int : Opens kI 3 (fun _ => True) := by
 intro H enc W fuel cs y h
 obtain ⟨s1, h1, -, w1⟩ := DataW.trod_int Try.underlying3 h
 exact ⟨s1, h1, trivial⟩
theorem opens_cols : Opens (Kd.slice 83 kC) 28 (fun xs => ∀ x ∈ xs, CoIn x) := opens_slice Try.underlying28 cells_col opens_col
theorem opens_ints : Opens (Kd.slice 3 kI) 29 (fun xs => ∀ x ∈ xs, True) := opens_slice Try.underlying29 cells_int opens_int
structure DeedRaw (x : DE) : Prop where
 s1 : x.f1.size ≤ maxLen
 s2 : x.f2.size ≤ maxLen
 s3 : x.f3.size ≤ maxLen
 l4 : x.f4.length ≤ 9223372036854775807
 n4 : ∀ y ∈ x.f4, y.f0.size ≤ maxLen
theorem opens_deed : Opens kJ 31 DeedRaw := by
 intro H enc W fuel cs y h
 obtain ⟨xs, m, rfl, _, hl, hx, hf⟩ := DataW.trod_struct Try.underlying31 h
 rw [cells_deed] at hl
 obtain ⟨v0, v1, v2, v3, v4, v5, v6, rfl⟩ := list7 hl
 have hx7 : xs.length = 7 := hx
 have e0 := hf 0 _ rfl
 have e1 := hf 1 _ rfl
 have e2 := hf 2 _ rfl
 have e3 := hf 3 _ rfl
 have e4 := hf 4 _ rfl
 have e5 := hf 5 _ rfl
 have e6 := hf 6 _ rfl
 simp only [List.getElem_toArray, List.getElem_cons_zero, List.getElem_cons_succ, cells_string, cells_int, cells_ints, cells_cols, List.drop_zero, List.drop_succ_cons, List.take_succ_cons, List.take_zero] at e0 e1 e2 e3 e4 e5 e6
 rw [List.getElem?_eq_getElem (by omega)] at e0 e1 e2 e3 e4 e5 e6
 obtain ⟨s0, h0, -, w0⟩ := DataW.trod_string Try.underlying9 e0
 obtain ⟨s1, h1, -, w1⟩ := DataW.trod_string Try.underlying9 e1
 obtain ⟨s2, h2, -, w2⟩ := DataW.trod_string Try.underlying9 e2
 obtain ⟨s3, h3, -, w3⟩ := DataW.trod_string Try.underlying9 e3
 obtain ⟨cols, ⟨A4, c4, h4, l4, g4⟩, w4⟩ := opens_cols e4
 obtain ⟨s5, h5, -, w5⟩ := DataW.trod_int Try.underlying3 e5
 obtain ⟨nums, ⟨A6, c6, h6, l6, g6⟩, -⟩ := opens_ints e6
 simp only [List.cons.injEq, and_true] at h0 h1 h2 h3 h4 h5 h6
 subst h0 h1 h2 h3 h4 h5 h6
 exact ⟨⟨s0, s1, s2, s3, cols, s5, nums⟩, k31_mk W ⟨s0, s1, s2, s3, cols, s5, nums⟩ l4 g4 l6 g6, ⟨w1, w2, w3, Kd.C_max g4, w4⟩⟩
theorem opens_deeds : Opens (Kd.slice 31 kJ) 23 (fun xs => ∀ x ∈ xs, DeedRaw x) := opens_slice Try.underlying23 cells_deed opens_deed
def StepRaw (x : SP) : Prop := ∀ y ∈ x.f0, DeedRaw y
theorem opens_step : Opens kP 25 StepRaw := by
 intro H enc W fuel cs y h
 obtain ⟨xs, m, rfl, _, hl, hx, hf⟩ := DataW.trod_struct Try.underlying25 h
 rw [cells_step] at hl
 obtain ⟨v0, v1, rfl⟩ := list2 hl
 have hx2 : xs.length = 2 := hx
 have e0 := hf 0 _ rfl
 have e1 := hf 1 _ rfl
 simp only [List.getElem_toArray, List.getElem_cons_zero, List.getElem_cons_succ, cells_deeds, cells_int, List.drop_zero, List.drop_succ_cons, List.take_succ_cons, List.take_zero] at e0 e1
 rw [List.getElem?_eq_getElem (by omega)] at e0 e1
 obtain ⟨l, ⟨A0, c0, h0, l0, g0⟩, w0⟩ := opens_deeds e0
 obtain ⟨s1, h1, -, w1⟩ := DataW.trod_int Try.underlying3 e1
 simp only [List.cons.injEq, and_true] at h0 h1
 subst h0 h1
 exact ⟨⟨l, s1⟩, k25_mk W ⟨l, s1⟩ l0 g0, w0⟩
theorem opens_steps : Opens (Kd.slice 25 kP) 22 (fun xs => ∀ x ∈ xs, StepRaw x) := opens_slice Try.underlying22 cells_step opens_step
theorem open_steps {H : Type} {enc : TypeId × Value → H} {W : World} {v : Value} {d : DataW H} {p : List MemPlace} (hv : v.cells.toList = [v]) (h : DataW.Trod enc Try.prog W 0 (fun _ => true) true 22 v d p) :
  ∃ A c l, v = .slice A l.length c ∧ l.length ≤ c ∧ Kd.C kP W A l.length l ∧ ∀ x ∈ l, StepRaw x := by
 obtain ⟨fuel, hf⟩ := h
 rw [hv] at hf
 obtain ⟨l, ⟨A, c, e, hl, hC⟩, hx⟩ := opens_steps hf
 simp only [List.cons.injEq, and_true] at e
 exact ⟨A, c, l, e, hl, hC, hx⟩
end Go.Proofs.Ytcfgcmjnailndaa
