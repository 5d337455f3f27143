/-
  Words on memory for a catalog: what a call leaves alone; rows that are read and may be anybody's; entries, deeds, states, a catalog, a draft.
  Clones of slices.
  The plain model of a catalog: entries, drafts, deeds, commits. No memory in it.
  Catalog: the struct in memory; Made, Count, there.
  Catalog: the entries of a draft as they are read; base, table, find.
  Catalog: table, find.
  Catalog: find.
  Words: value.Word answers for every string.
-/
import Derived.Test.YtkolnoadeihmoaaGreatRows
import Derived.WalkKit
import Derived.WalkSpells
import Derived.WalkLawsBesides
import Derived.RegionTactic
import Derived.Deep.QuietTactic
import Derived.BigQuiet
import Derived.BigRegion
import Derived.Outline
import Derived.Test.YtkolnoadeihmoaaGreatKd3
namespace Go.Proofs.YtkolnoadeihmoaaGreat
open Go.RowKit Go.Proofs.YtkolnoadeihmoaaGreatW.PrintWords
theorem hid {p : Prop} (h : p) : Hid p := h
structure Fr (S : List Nat) (w w' : World) : Prop where
  os : w'.os = w.os
  tape : w'.tape = w.tape
  output : w'.output = w.output
  size : w.heap.size ≤ w'.heap.size
  block : ∀ k, k < w.heap.size → k ∉ S → w'.heap[k]? = w.heap[k]?
theorem Fr.refl (S : List Nat) (w : World) : Fr S w w := ⟨rfl, rfl, rfl, Nat.le_refl _, fun _ _ _ => rfl⟩
theorem Fr.drew {S : List Nat} {w w' : World} (h : Fr S w w') : Fr S w w'.drew := ⟨h.os, h.tape, h.output, h.size, h.block⟩
theorem Fr.drewN {S : List Nat} {w w' : World} (h : Fr S w w') (n : Nat) : Fr S w (w'.drewN n) := ⟨h.os, h.tape, h.output, h.size, h.block⟩
theorem Fr.mono {S S' : List Nat} {w w' : World} (h : Fr S w w') (hs : ∀ x, x ∈ S → x ∈ S' ∨ w.heap.size ≤ x) : Fr S' w w' :=
  ⟨h.os, h.tape, h.output, h.size, fun k hk hS => h.block k hk (fun hx => by rcases hs k hx with h1 | h1; exact hS h1; omega)⟩
theorem Fr.trans {S S' : List Nat} {a b c : World} (h : Fr S a b) (k : Fr S' b c) (hs : ∀ x, x ∈ S' → x ∈ S ∨ a.heap.size ≤ x) : Fr S a c :=
  ⟨k.os.trans h.os, k.tape.trans h.tape, k.output.trans h.output, Nat.le_trans h.size k.size, fun i hi hS =>
    (k.block i (Nat.lt_of_lt_of_le hi h.size) (fun hx => by rcases hs i hx with h1 | h1; exact hS h1; omega)).trans (h.block i hi hS)⟩
theorem Fr.then {S : List Nat} {a b c : World} (h : Fr S a b) (k : Fr S b c) : Fr S a c := h.trans k (fun _ hx => .inl hx)
theorem Fr.of_below {S : List Nat} {w w' : World} (h : Below w.heap.size w w') : Fr S w w' := ⟨h.os, h.tape, h.output, h.size, fun k hk _ => h.block k hk⟩
theorem Fr.below {S : List Nat} {w w' : World} (h : Fr S w w') {B : Nat} (hB : B ≤ w.heap.size) (hs : ∀ x, x ∈ S → B ≤ x) : Below B w w' :=
  ⟨h.os, h.tape, h.output, h.size, fun k hk => h.block k (by omega) (fun hx => by have := hs k hx; omega)⟩
theorem Fr.below0 {w w' : World} (h : Fr [] w w') : Below w.heap.size w w' := h.below (Nat.le_refl _) (by simp)
theorem Fr.alloc {S : List Nat} {w w' : World} (h : Fr S w w') (o : Obj) : Fr S w (w'.alloc o) :=
  ⟨h.os, h.tape, h.output, by have := h.size; simp; omega, fun k hk hS => (Below.heap_alloc w' o k (by have := h.size; omega)).trans (h.block k hk hS)⟩
theorem Fr.setCell {S : List Nat} {w w' : World} (h : Fr S w w') {p : Addr} (hp : p.block ∈ S ∨ w.heap.size ≤ p.block) (u : Value) : Fr S w (w'.setCell p u) :=
  ⟨h.os, h.tape, h.output, by have := h.size; simp [World.setCell]; omega, fun k hk hS =>
    (Below.heap_setCell w' p u k (by rintro rfl; rcases hp with h1 | h1; exact hS h1; omega)).trans (h.block k hk hS)⟩
theorem Fr.grown {S : List Nat} {w w' w2 : World} {row : Option Nat} (h : Fr S w w') (hg : w'.grownBy w2 row) (hr : ∀ k, row = some k → k ∈ S ∨ w.heap.size ≤ k) : Fr S w w2 :=
  ⟨hg.os.trans h.os, hg.tape.trans h.tape, hg.output.trans h.output, Nat.le_trans h.size hg.size, fun k hk hS =>
    (hg.block k (by have := h.size; omega) (fun e => by rcases hr k e.symm with h1 | h1; exact hS h1; omega)).trans (h.block k hk hS)⟩
theorem Fr.cell {S : List Nat} {w w' : World} (h : Fr S w w') {p : Addr} (hp : p.block < w.heap.size) (hS : p.block ∉ S) : w'.cell? p = w.cell? p := World.cell?_of_block (w := w) (h.block p.block hp hS)
theorem cell_block {w : World} {p : Addr} {u : Value} (h : w.cell? p = some u) : p.block < w.heap.size := World.block_lt_of_cell? _ _ h
theorem Fr.cellE {S : List Nat} {w w' : World} (h : Fr S w w') {p : Addr} {u : Value} (hc : w.cell? p = some u) (hS : p.block ∉ S) : w'.cell? p = some u := (h.cell (cell_block hc) hS).trans hc
theorem Fr.cell0 {w w' : World} (h : Fr [] w w') {p : Addr} {u : Value} (hc : w.cell? p = some u) : w'.cell? p = some u := h.cellE hc (by simp)
theorem blk_lt {w : World} {b : Nat} {o : Obj} (h : w.heap[b]? = some o) : b < w.heap.size := (Array.getElem?_eq_some_iff.1 h).1
theorem Fr.blk {S : List Nat} {w w' : World} (h : Fr S w w') {b : Nat} {o : Obj} (hc : w.heap[b]? = some o) (hS : b ∉ S) : w'.heap[b]? = some o := (h.block b (blk_lt hc) hS).trans hc
theorem blk_setCell {w : World} {g : Nat} {t : TypeId} {cs : Array Value} (h : w.heap[g]? = some (.cells cs t (0, 0))) (i : Nat) (u : Value) :
    (w.setCell ⟨g, i, none⟩ u).heap[g]? = some (.cells (cs.setIfInBounds i u) t (0, 0)) := by
  have hlt := (Array.getElem?_eq_some_iff.1 h).1
  simp only [World.setCell, Array.getElem?_modify, if_true, h]
  rfl
theorem blk_free {w : World} {g : Nat} {t : TypeId} {cs : Array Value} (h : w.heap[g]? = some (.cells cs t (0, 0))) (i : Nat) : w.frozen? ⟨g, i, none⟩ = false := by simp [World.frozen?, h]
theorem add_mk (b o n : Nat) : (⟨b, o, none⟩ : Addr).add n = ⟨b, o + n, none⟩ := by unfold Addr.add; split <;> simp_all
def NoT (w : World) (E : List Nat) (S : List Nat) : Prop := ∀ k ∈ S, ∀ q ∈ E, ∀ cells, w.heap[k]? ≠ some (.cells cells q (0, 0))
theorem NoT.nil (w : World) (E : List Nat) : NoT w E [] := fun _ h => by simp at h
theorem NoT.one {w : World} {E : List Nat} {b : Nat} {cs : Array Value} {t : TypeId} {f : Nat × Nat} (h : w.heap[b]? = some (.cells cs t f)) (ht : ∀ q ∈ E, q ≠ t) : NoT w E [b] := by
  intro k hk q hq cells hc
  rw [List.mem_singleton.1 hk, h] at hc
  injection hc with hc; injection hc with _ hc
  exact ht q hq hc.symm
theorem NoT.cons {w : World} {E S : List Nat} {b : Nat} (h1 : NoT w E [b]) (h2 : NoT w E S) : NoT w E (b :: S) := by
  intro k hk
  rcases List.mem_cons.1 hk with rfl | hk
  · exact h1 k (by simp)
  · exact h2 k hk
theorem R_fr {α : Type} {d : Kd α} {e base : Nat} {w w' : World} {v : Value} {xs : List α} {S : List Nat} (h : d.R e w base (fun _ => True) v xs) (hf : Fr S w w') (hS : NoT w (e :: d.E) S) : d.R e w' base (fun _ => True) v xs := by
  refine Kd.R_mono (Kd.R_move (Kd.R_bound h) (fun k hk => ?_)) (fun _ _ => trivial)
  obtain ⟨_, _, hlt, q, hq, cells, hc⟩ := hk
  exact hf.block k hlt (fun hm => hS k hm q hq cells hc)
theorem R_fr0 {α : Type} {d : Kd α} {e base : Nat} {w w' : World} {v : Value} {xs : List α} (h : d.R e w base (fun _ => True) v xs) (hf : Fr [] w w') : d.R e w' base (fun _ => True) v xs := R_fr h hf (NoT.nil _ _)
def ros {α : Type} (e : Nat) (d : Kd α) : Kd (List α) where
  sz := 1
  E := e :: d.E
  K := (Kd.slice e d).K
  M := fun w base ok xs cs => ∃ A c, cs = [.slice A xs.length c] ∧ xs.length ≤ c ∧ xs.length ≤ 9223372036854775807 ∧ (0 < xs.length → ∃ g off, A = some ⟨g, off, none⟩ ∧ ok g ∧ base ≤ g ∧ (∃ cells, w.heap[g]? = some (.cells cells e (0, 0))) ∧ ∀ j p, xs[j]? = some p → ∃ cc, cc.length = d.sz ∧ d.M w base ok p cc ∧ ∀ i u, cc[i]? = some u → w.cell? ⟨g, off + (j * d.sz + i), none⟩ = some u)
  K_len := (Kd.slice e d).K_len
  K_one := (Kd.slice e d).K_one
  K_below := (Kd.slice e d).K_below
  K_of_M := by
    rintro w base ok x cs ⟨A, c, rfl, hl, hm, h⟩
    refine ⟨A, c, rfl, hl, rfl, hm, fun h0 => ?_⟩
    obtain ⟨g, off, rfl, _, _, _, hj⟩ := h h0
    refine ⟨_, rfl, fun j p hp => ?_⟩
    obtain ⟨cc, h1, h2, h3⟩ := hj j p hp
    exact ⟨cc, h1, d.K_of_M h2, fun i u hu => by rw [add_mk]; exact h3 i u hu⟩
  M_mono := by
    rintro w base ok ok' x cs hok ⟨A, c, rfl, hl, hm, h⟩
    refine ⟨A, c, rfl, hl, hm, fun h0 => ?_⟩
    obtain ⟨g, off, rfl, h1, h2, h3, hj⟩ := h h0
    refine ⟨g, off, rfl, hok _ h1, h2, h3, fun j p hp => ?_⟩
    obtain ⟨cc, k1, k2, k3⟩ := hj j p hp
    exact ⟨cc, k1, d.M_mono hok k2, k3⟩
  M_bound := by
    rintro w base ok x cs ⟨A, c, rfl, hl, hm, h⟩
    refine ⟨A, c, rfl, hl, hm, fun h0 => ?_⟩
    obtain ⟨g, off, rfl, h1, h2, ⟨cells, h3⟩, hj⟩ := h h0
    refine ⟨g, off, rfl, ⟨h1, h2, blk_lt h3, e, List.mem_cons_self, cells, h3⟩, h2, ⟨cells, h3⟩, fun j p hp => ?_⟩
    obtain ⟨cc, k1, k2, k3⟩ := hj j p hp
    refine ⟨cc, k1, d.M_mono ?_ (d.M_bound k2), k3⟩
    rintro k ⟨q1, q2, q3, q, hq, hc⟩
    exact ⟨q1, q2, q3, q, List.mem_cons_of_mem _ hq, hc⟩
  M_move := by
    rintro w w1 base ok x cs hmv ⟨A, c, rfl, hl, hm, h⟩
    refine ⟨A, c, rfl, hl, hm, fun h0 => ?_⟩
    obtain ⟨g, off, rfl, h1, h2, ⟨cells, h3⟩, hj⟩ := h h0
    refine ⟨g, off, rfl, h1, h2, ⟨cells, (hmv g h1).trans h3⟩, fun j p hp => ?_⟩
    obtain ⟨cc, k1, k2, k3⟩ := hj j p hp
    exact ⟨cc, k1, d.M_move hmv k2, fun i u hu => (World.cell?_of_block (w := w) (hmv g h1)).trans (k3 i u hu)⟩
  M_lower := by
    rintro w base base' ok x cs hb ⟨A, c, rfl, hl, hm, h⟩
    refine ⟨A, c, rfl, hl, hm, fun h0 => ?_⟩
    obtain ⟨g, off, rfl, h1, h2, h3, hj⟩ := h h0
    refine ⟨g, off, rfl, h1, Nat.le_trans hb h2, h3, fun j p hp => ?_⟩
    obtain ⟨cc, k1, k2, k3⟩ := hj j p hp
    exact ⟨cc, k1, d.M_lower hb k2, k3⟩
def own0 {α : Type} (e : Nat) (d : Kd α) : Kd (List α) where
  sz := 1
  E := e :: d.E
  K := (Kd.slice e d).K
  M := fun w base ok xs cs => (Kd.slice e d).M w base ok xs cs ∧ (xs = [] → cs = [.slice none 0 0])
  K_len := (Kd.slice e d).K_len
  K_one := (Kd.slice e d).K_one
  K_below := (Kd.slice e d).K_below
  K_of_M := fun h => (Kd.slice e d).K_of_M h.1
  M_mono := fun hok h => ⟨(Kd.slice e d).M_mono hok h.1, h.2⟩
  M_bound := fun h => ⟨(Kd.slice e d).M_bound h.1, h.2⟩
  M_move := fun hm h => ⟨(Kd.slice e d).M_move hm h.1, h.2⟩
  M_lower := fun hb h => ⟨(Kd.slice e d).M_lower hb h.1, h.2⟩
abbrev CO := S192
abbrev DE := S135
abbrev AE := S178
abbrev EN := S278
abbrev ST := S183
abbrev kC : Kd CO := k192
abbrev kI : Kd Int := Kd.int .i64
abbrev rC : Kd (List CO) := ros 192 kC
abbrev rI : Kd (List Int) := ros 3 kI
def kD : Kd DE := Kd.iso (Kd.pair Kd.string (Kd.pair Kd.string (Kd.pair Kd.string (Kd.pair Kd.string (Kd.pair rC (Kd.pair kI rI)))))) (fun x : DE => (x.f0, x.f1, x.f2, x.f3, x.f4, x.f5, x.f6))
def kA : Kd AE := Kd.iso (Kd.pair kI (Kd.pair Kd.string (Kd.pair Kd.string (Kd.pair rC (Kd.pair rI (Kd.pair kI (Kd.pair kI (Kd.pair kI kI)))))))) (fun x : AE => (x.f0, x.f1, x.f2, x.f3, x.f4, x.f5, x.f6, x.f7, x.f8))
def kE : Kd EN := Kd.iso (Kd.pair kA (Kd.pair kI kI)) (fun x : EN => (x.f0, x.f1, x.f2))
def kS : Kd ST := Kd.iso (Kd.pair kI (Kd.pair (ros 135 kD) (own0 278 kE))) (fun x : ST => (x.f0, x.f1, x.f2))
section
variable {w : World} {base : Nat} {ok : Nat → Prop}
theorem kA_open {x : AE} {cs : List Value} (h : kA.M w base ok x cs) : ∃ v3 v4, cs = [.int .i64 x.f0, .string x.f1, .string x.f2, v3, v4, .int .i64 x.f5, .int .i64 x.f6, .int .i64 x.f7, .int .i64 x.f8] ∧ rC.M w base ok x.f3 [v3] ∧ rI.M w base ok x.f4 [v4] := by
  obtain ⟨_, _, rfl, rfl, ⟨_, _, rfl, rfl, ⟨_, _, rfl, rfl, ⟨c3, _, rfl, g3, ⟨c4, _, rfl, g4, ⟨_, _, rfl, rfl, ⟨_, _, rfl, rfl, ⟨_, _, rfl, rfl, rfl⟩⟩⟩⟩⟩⟩⟩⟩ := h
  obtain ⟨A3, d3, rfl, _⟩ := id g3
  obtain ⟨A4, d4, rfl, _⟩ := id g4
  exact ⟨_, _, rfl, g3, g4⟩
theorem kA_mk (x : AE) {v3 v4 : Value} (g3 : rC.M w base ok x.f3 [v3]) (g4 : rI.M w base ok x.f4 [v4]) : kA.M w base ok x [.int .i64 x.f0, .string x.f1, .string x.f2, v3, v4, .int .i64 x.f5, .int .i64 x.f6, .int .i64 x.f7, .int .i64 x.f8] :=
  ⟨[_], _, rfl, rfl, [_], _, rfl, rfl, [_], _, rfl, rfl, [_], _, rfl, g3, [_], _, rfl, g4, [_], _, rfl, rfl, [_], _, rfl, rfl, [_], _, rfl, rfl, rfl⟩
theorem kE_open {x : EN} {cs : List Value} (h : kE.M w base ok x cs) : ∃ v3 v4, cs = [.int .i64 x.f0.f0, .string x.f0.f1, .string x.f0.f2, v3, v4, .int .i64 x.f0.f5, .int .i64 x.f0.f6, .int .i64 x.f0.f7, .int .i64 x.f0.f8, .int .i64 x.f1, .int .i64 x.f2] ∧ rC.M w base ok x.f0.f3 [v3] ∧ rI.M w base ok x.f0.f4 [v4] := by
  obtain ⟨_, _, rfl, s0, ⟨_, _, rfl, rfl, rfl⟩⟩ := h
  obtain ⟨v3, v4, rfl, g3, g4⟩ := kA_open s0
  exact ⟨v3, v4, rfl, g3, g4⟩
theorem kE_mk (x : EN) {v3 v4 : Value} (g3 : rC.M w base ok x.f0.f3 [v3]) (g4 : rI.M w base ok x.f0.f4 [v4]) : kE.M w base ok x [.int .i64 x.f0.f0, .string x.f0.f1, .string x.f0.f2, v3, v4, .int .i64 x.f0.f5, .int .i64 x.f0.f6, .int .i64 x.f0.f7, .int .i64 x.f0.f8, .int .i64 x.f1, .int .i64 x.f2] :=
  ⟨[_, _, _, _, _, _, _, _, _], [_, _], rfl, kA_mk x.f0 g3 g4, [_], [_], rfl, rfl, rfl⟩
theorem kD_mk (x : DE) {v4 v6 : Value} (g4 : rC.M w base ok x.f4 [v4]) (g6 : rI.M w base ok x.f6 [v6]) : kD.M w base ok x [.string x.f0, .string x.f1, .string x.f2, .string x.f3, v4, .int .i64 x.f5, v6] :=
  ⟨[_], _, rfl, rfl, [_], _, rfl, rfl, [_], _, rfl, rfl, [_], _, rfl, rfl, [_], _, rfl, g4, [_], _, rfl, rfl, g6⟩
theorem kS_open {x : ST} {cs : List Value} (h : kS.M w base ok x cs) : ∃ v1 v2, cs = [.int .i64 x.f0, v1, v2] ∧ (ros 135 kD).M w base ok x.f1 [v1] ∧ kE.R 278 w base ok v2 x.f2 ∧ (x.f2 = [] → v2 = .slice none 0 0) := by
  obtain ⟨_, _, rfl, rfl, ⟨_, _, rfl, g1, g2, g3⟩⟩ := h
  obtain ⟨A1, d1, rfl, _⟩ := id g1
  obtain ⟨v2, rfl, g2⟩ := g2
  exact ⟨_, v2, rfl, g1, g2, fun h => by simpa using g3 h⟩
theorem kS_mk (x : ST) {v1 v2 : Value} (g1 : (ros 135 kD).M w base ok x.f1 [v1]) (g2 : kE.R 278 w base ok v2 x.f2) (g3 : x.f2 = [] → v2 = .slice none 0 0) : kS.M w base ok x [.int .i64 x.f0, v1, v2] :=
  ⟨[_], _, rfl, rfl, [_], [_], rfl, g1, ⟨v2, rfl, g2⟩, fun h => by rw [g3 h]⟩
end
theorem ros_of_R {α : Type} {d : Kd α} {e : Nat} {w : World} {base : Nat} {ok : Nat → Prop} {v : Value} {xs : List α} (h : d.R e w base ok v xs) : (ros e d).M w base ok xs [v] := by
  obtain ⟨A, c, rfl, hl, hC⟩ := Kd.R_reads h
  refine ⟨A, c, rfl, hl, Kd.C_max hC, fun h0 => ?_⟩
  obtain ⟨h1, inner, ho, hr⟩ := h
  obtain ⟨g, cap, e1, h2, h3⟩ := ho.form h0
  injection e1 with e1 e2 e3
  subst e1 e3
  refine ⟨g, 0, rfl, h1 g rfl, h2, own_typed ho g rfl, fun j p hp => ?_⟩
  have hjl := (List.getElem?_eq_some_iff.1 hp).1
  refine ⟨(inner.drop (j * d.sz)).take d.sz, ?_, d.M_mono (fun _ hk => hk.1) (hr.2 j p hp), fun i u hu => ?_⟩
  · have h1 : j * d.sz + d.sz ≤ inner.length := by rw [hr.1, ← Nat.succ_mul]; exact Nat.mul_le_mul_right _ hjl
    rw [List.length_take, List.length_drop]
    omega
  · rw [← add_mk]
    refine ho.cells (g := g) rfl _ u ?_
    rw [List.getElem?_take] at hu
    split at hu
    · rw [List.getElem?_drop] at hu; exact hu
    · cases hu
theorem ros_empty {α : Type} (e : Nat) (d : Kd α) (w : World) (base : Nat) (ok : Nat → Prop) (A : Option Addr) (c : Nat) : (ros e d).M w base ok [] [.slice A 0 c] := ⟨A, c, rfl, Nat.zero_le _, by simp, fun h => absurd h (by simp)⟩
theorem ros_C {α : Type} {e : Nat} {d : Kd α} {w : World} {base : Nat} {ok : Nat → Prop} {xs : List α} {v : Value} (h : (ros e d).M w base ok xs [v]) : ∃ A c, v = .slice A xs.length c ∧ xs.length ≤ c ∧ d.C w A xs.length xs := by
  obtain ⟨A, c, e, hl, hr⟩ := (ros e d).K_of_M h
  simp at e
  exact ⟨A, c, e, hl, hr⟩
theorem lit_empty {α : Type} (d : Kd α) (e : TypeId) (W : World) : d.R e (W.alloc (.cells #[] e)) 0 (fun _ => True) (.slice (some ⟨W.heap.size, 0, none⟩) 0 0) [] :=
  ⟨fun _ _ => trivial, OwnRow.lit W 0 (inner := []) (Reps.none _ _) (Nat.zero_le _) (by simp)⟩
def Cloned {α : Type} (d : Kd α) (t : TypeId) (A : Option Addr) (xs : List α) (w : World) (e : Ending) (w' : World) : Prop :=
  ∃ v, e = .returned v ∧ d.R t w' 0 (fun _ => True) v xs ∧ Fr [] w w' ∧ (∀ k, v.ownBlock = some k → w.heap.size ≤ k) ∧ (A = none → v = .slice none 0 0)
theorem Cloned.mk {α : Type} {d : Kd α} {t : TypeId} {ad : Addr} {xs : List α} {w w1 : World} {v : Value} (h : d.R t w1 0 (fun _ => True) v ([] ++ xs))
    (_hb : Below 0 w w1) (hg : (w.alloc (.cells #[] t)).grownBy w1 (Value.slice (some ⟨w.heap.size, 0, none⟩) 0 0).ownBlock)
    (ha : v.ownBlock = (Value.slice (some ⟨w.heap.size, 0, none⟩) 0 0).ownBlock ∨ ∃ b, v.ownBlock = some b ∧ w.heap.size + 1 ≤ b) : Cloned d t (some ad) xs w (.returned v) w1 := by
  refine ⟨v, rfl, by simpa using h, ((Fr.refl [] w).alloc _).grown hg (fun k hk => ?_), fun k hk => ?_, fun h => by cases h⟩
  · simp [Value.ownBlock] at hk; exact .inr (by omega)
  · rcases ha with ha | ⟨b, hb, hle⟩
    · rw [ha] at hk; simp [Value.ownBlock] at hk; omega
    · rw [hb] at hk; cases hk; omega
theorem nilC (w : World) (a : Option Addr) (n c : Nat) : (binOp .eql 133 (.slice a n c) (.slice none 0 0)).run Tryz.prog w = .ok (.bool a.isNone) w := Lib.run_eql_slice_nil w _ _ a n c 0 0 Tryz.underlying133
theorem nilI (w : World) (a : Option Addr) (n c : Nat) : (binOp .eql 122 (.slice a n c) (.slice none 0 0)).run Tryz.prog w = .ok (.bool a.isNone) w := Lib.run_eql_slice_nil w _ _ a n c 0 0 Tryz.underlying122
theorem nilE (w : World) (a : Option Addr) (n c : Nat) : (binOp .eql 181 (.slice a n c) (.slice none 0 0)).run Tryz.prog w = .ok (.bool a.isNone) w := Lib.run_eql_slice_nil w _ _ a n c 0 0 Tryz.underlying181
theorem nilS (w : World) (a : Option Addr) (n c : Nat) : (binOp .eql 184 (.slice a n c) (.slice none 0 0)).run Tryz.prog w = .ok (.bool a.isNone) w := Lib.run_eql_slice_nil w _ _ a n c 0 0 Tryz.underlying184
attribute [local go_sem] nilC nilI nilE nilS
theorem nil_of_C {α : Type} {d : Kd α} {w : World} {xs : List α} (h : d.C w none xs.length xs) : xs = [] := List.eq_nil_of_length_eq_zero (by
  rcases Nat.eq_zero_or_pos xs.length with h0 | h0
  · exact h0
  · obtain ⟨ad, e, _⟩ := h.2.2 h0; cases e)
theorem rows_of_R {α : Type} {d : Kd α} {e : TypeId} {w : World} {A : Option Addr} {n c : Nat} {xs : List α} {o : Obj} (h : d.R e w 0 (fun _ => True) (.slice A n c) xs) :
    ReadsRow (fun x cs => d.M (w.alloc o) 0 (fun k => some k ≠ (Value.slice (some ⟨w.heap.size, 0, none⟩) 0 0).ownBlock) x cs) d.sz (w.alloc o) A xs.length xs := by
  have h1 := Kd.R_alloc (Kd.R_bound h) o
  obtain ⟨-, inner, ho, hr⟩ := h1
  obtain ⟨A', c', e1, hrow⟩ := own_reads_row ho hr rfl
  injection e1 with e1 e2 e3
  subst e1
  exact ReadsRow.imp_ hrow (Below.refl _ _) (fun p cs hp => d.M_mono (fun k hk => by
    have := hk.1.2.2.1
    simp [Value.ownBlock]; omega) hp)
theorem info_int : (Tryz.prog.info? 3).map (fun i => (i.zero, i.size, i.bytes)) = some (some (.int .i64 0), 1, 8) := by kernel_rfl
def zE : Value := .agg #[.int .i64 0, .string ⟨#[]⟩, .string ⟨#[]⟩, .slice none 0 0, .slice none 0 0, .int .i64 0, .int .i64 0, .int .i64 0, .int .i64 0, .int .i64 0, .int .i64 0]
theorem infoE : (Tryz.prog.info? 278).map (fun i => (i.zero, i.size, i.bytes)) = some (some zE, 11, 136) := by kernel_rfl
section
variable (A : Option Addr) (c : Nat) (w : World)
set_option maxRecDepth 100000 in
theorem clone_cols (xs : List CO) (h : kC.C w A xs.length xs) (hl : xs.length ≤ 1000000) :
    Calls Tryz.prog 132 #[.slice A xs.length c] w (Cloned kC 192 A xs w) := by
  have H := hid h
  clear h
  cases A with
  | none =>
    obtain rfl : xs = [] := nil_of_C H.out
    go_enter Tryz.func132, Tryz.ntmps132
    go_wp2
    go_ret
    exact ⟨_, rfl, Kd.R_nil _ _ _ _ _, Fr.refl _ _, fun k hk => by simp [Value.ownBlock] at hk, fun _ => rfl⟩
  | some ad =>
    go_enter Tryz.func132, Tryz.ntmps132
    go_wp2_with (at_builtin; refine Kd.R_append_rows kC (w0 := w) 0 rfl _ _ 133 192 (.agg #[.string ⟨#[]⟩, .int .i64 0]) 24 rfl Tryz.underlying133 info192 rfl (by decide) (by decide) _ [] xs (some ad) xs.length c (fun _ => True) (fun k => some k ≠ (Value.slice (some ⟨w.heap.size, 0, none⟩) 0 0).ownBlock) rfl rfl (lit_empty _ _ _) (Kd.C_alloc H.out _) (fun _ _ h => h) (fun _ hk => ⟨trivial, hk⟩) (fun _ _ => trivial) ?c1 (Nat.zero_le _) ?c2 ?_)
    case c1 => exact (((Fr.refl [] w).alloc _).below (Nat.zero_le _) (by simp))
    case c2 => simp; omega
    intro v1 w1 r1 b1 g1 a1
    go_wp2
    go_ret
    have := Cloned.mk (ad := ad) (v := v1) r1 b1 g1 a1
    exact this
set_option maxRecDepth 100000 in
theorem clone_ints (xs : List Int) (h : kI.C w A xs.length xs) (hl : xs.length ≤ 17592186044416) :
    Calls Tryz.prog 133 #[.slice A xs.length c] w (Cloned kI 3 A xs w) := by
  have H := hid h
  clear h
  cases A with
  | none =>
    obtain rfl : xs = [] := nil_of_C H.out
    go_enter Tryz.func133, Tryz.ntmps133
    go_wp2
    go_ret
    exact ⟨_, rfl, Kd.R_nil _ _ _ _ _, Fr.refl _ _, fun k hk => by simp [Value.ownBlock] at hk, fun _ => rfl⟩
  | some ad =>
    go_enter Tryz.func133, Tryz.ntmps133
    go_wp2_with (at_builtin; refine Kd.R_append_rows kI (w0 := w) 0 rfl _ _ 122 3 (.int .i64 0) 8 rfl Tryz.underlying122 info_int rfl (by decide) (by decide) _ [] xs (some ad) xs.length c (fun _ => True) (fun k => some k ≠ (Value.slice (some ⟨w.heap.size, 0, none⟩) 0 0).ownBlock) rfl rfl (lit_empty _ _ _) (Kd.C_alloc H.out _) (fun _ _ h => h) (fun _ hk => ⟨trivial, hk⟩) (fun _ _ => trivial) ?c1 (Nat.zero_le _) ?c2 ?_)
    case c1 => exact (((Fr.refl [] w).alloc _).below (Nat.zero_le _) (by simp))
    case c2 => simp; omega
    intro v1 w1 r1 b1 g1 a1
    go_wp2
    go_ret
    have := Cloned.mk (ad := ad) (v := v1) r1 b1 g1 a1
    exact this
end
instance : Inhabited EN := ⟨z278⟩
instance : Inhabited ST := ⟨z183⟩
def isBase (name : ByteArray) (x : EN) : Bool := decide (x.f0.f2.toList = []) && (decide (x.f0.f1.toList = name.toList) && (x.f0.f8 == 0))
def baseIx (es : List EN) (name : ByteArray) : Option Nat := es.findIdx? (isBase name)
def isTable (home : Int) (name : ByteArray) (x : EN) : Bool := (x.f1 == home) && (decide (x.f0.f2.toList = name.toList) && (x.f0.f8 == 0))
def tableIx (es : List EN) (home : Int) (name : ByteArray) : Option Nat := es.findIdx? (isTable home name)
def idOf (es : List EN) (i : Nat) : Int := (es.getD i z278).f0.f0
def inIx (es : List EN) (b : Option Nat) (name : ByteArray) : Option Nat := match b with
  | none => none
  | some i => tableIx es (idOf es i) name
def findIx (es : List EN) (base table : ByteArray) : Option Nat := if table.toList = [] then baseIx es base else inIx es (baseIx es base) table
structure Dr where
  commit : Int
  time : Int
  times : List Int
def setE (es : List EN) (i : Nat) (f : EN → EN) : List EN := es.set i (f (es.getD i z278))
def tabs (home : Int) (f : EN → EN) (x : EN) : EN := if x.f1 = home then f x else x
def upTo (k : Nat) (f : EN → EN) (es : List EN) : List EN := (es.take k).map f ++ es.drop k
theorem upTo_zero (f : EN → EN) (es : List EN) : upTo 0 f es = es := by simp [upTo]
theorem upTo_all (f : EN → EN) (es : List EN) (k : Nat) (h : es.length ≤ k) : upTo k f es = es.map f := by simp [upTo, List.take_of_length_le h, List.drop_eq_nil_of_le h]
theorem upTo_len (k : Nat) (f : EN → EN) (es : List EN) : (upTo k f es).length = es.length := by simp [upTo]; omega
theorem upTo_at {k : Nat} {f : EN → EN} {es : List EN} {x : EN} (h : es[k]? = some x) : (upTo k f es)[k]? = some x := by
  have hk := (List.getElem?_eq_some_iff.1 h).1
  unfold upTo
  rw [List.getElem?_append_right (by simp; omega), List.getElem?_drop]
  simp only [List.length_map, List.length_take, Nat.min_eq_left (Nat.le_of_lt hk), Nat.sub_self, Nat.add_zero]
  exact h
theorem upTo_step {k : Nat} {f : EN → EN} {es : List EN} {x : EN} (h : es[k]? = some x) : upTo (k + 1) f es = (upTo k f es).set k (f x) := by
  obtain ⟨hk, he⟩ := List.getElem?_eq_some_iff.1 h
  unfold upTo
  rw [List.take_succ_eq_append_getElem hk, List.map_append, List.set_append_right _ _ (by simp; omega), List.drop_eq_getElem_cons hk]
  simp [Nat.min_eq_left (Nat.le_of_lt hk), he]
theorem upTo_same {k : Nat} {f : EN → EN} {es : List EN} {x : EN} (h : es[k]? = some x) (hx : f x = x) : upTo (k + 1) f es = upTo k f es := by
  rw [upTo_step h, hx]
  apply List.ext_getElem?
  intro j
  by_cases hj : j = k
  · subst hj
    rw [upTo_at h, List.getElem?_set_self (by rw [upTo_len]; exact (List.getElem?_eq_some_iff.1 h).1)]
  · rw [List.getElem?_set_ne (by omega)]
def ent0 (d : Dr) (es : List EN) (x : DE) (home : Int) : EN := ⟨⟨es.length + 1, x.f1, x.f2, x.f4, [], x.f5, d.commit, d.commit, 0⟩, home, 0⟩
def create (d : Dr) (es : List EN) (x : DE) : Int × List EN :=
  if x.f2.toList = [] then
    (if (baseIx es x.f1).isSome then (5, es) else (0, es ++ [ent0 d es x 0]))
  else match baseIx es x.f1 with
    | none => (4, es)
    | some b => if (tableIx es (idOf es b) x.f2).isSome then (5, es) else (0, es ++ [ent0 d es x (idOf es b)])
def gone1 (c : Int) (x : EN) : EN := ⟨{ x.f0 with f8 := c }, x.f1, x.f2⟩
def goneT (c : Int) (x : EN) : EN := if x.f0.f8 = 0 then ⟨{ x.f0 with f8 := c }, x.f1, c⟩ else x
def drop (d : Dr) (es : List EN) (x : DE) : Int × List EN := match findIx es x.f1 x.f2 with
  | none => (4, es)
  | some i => (0, let es1 := setE es i (gone1 d.commit)
      if x.f2.toList = [] then es1.map (tabs (idOf es i) (goneT d.commit)) else es1)
def dropStep (p : EN → Bool) (acc : Option (Nat × Int)) (i : Nat) (x : EN) : Option (Nat × Int) :=
  if decide (0 < x.f0.f8) && (p x && (match acc with | none => true | some o => decide (o.2 ≤ x.f0.f8))) then some (i, x.f0.f8) else acc
def dropUpTo (p : EN → Bool) (es : List EN) : Nat → Option (Nat × Int)
  | 0 => none
  | k + 1 => dropStep p (dropUpTo p es k) k (es.getD k z278)
def dropped (es : List EN) (p : EN → Bool) : Option Nat := (dropUpTo p es es.length).map (·.1)
theorem dropStep_or (p : EN → Bool) (acc : Option (Nat × Int)) (i : Nat) (x : EN) : dropStep p acc i x = some (i, x.f0.f8) ∨ dropStep p acc i x = acc :=
  (Classical.em _).elim (fun h => .inl (if_pos h)) (fun h => .inr (if_neg h))
theorem dropUpTo_at {p : EN → Bool} {es : List EN} : ∀ {k j : Nat} {g : Int}, dropUpTo p es k = some (j, g) → j < k ∧ (es.getD j z278).f0.f8 = g
  | 0, j, g, h => by simp [dropUpTo] at h
  | k + 1, j, g, h => by
    unfold dropUpTo at h
    rcases dropStep_or p (dropUpTo p es k) k (es.getD k z278) with e | e
    · rw [e] at h
      injection h with h
      injection h with h1 h2
      subst h1
      exact ⟨by omega, h2⟩
    · rw [e] at h
      have := dropUpTo_at h
      exact ⟨by omega, this.2⟩
def atTime (d : Dr) (commit : Int) : Int := if commit < d.times.length then d.times.getD commit.toNat 0 else d.time
def withIt (x : DE) (gone : Int) (t : EN) : Bool := decide (x.f2.toList = []) && (t.f0.f8 == gone) && (t.f2 == gone)
def keepStep (x : DE) (home gone : Int) (k : Int) (t : EN) : Int := if t.f1 = home then (if withIt x gone t then min k t.f0.f5 else k) else k
def backT (x : DE) (gone : Int) (t : EN) : EN := if withIt x gone t then ⟨{ t.f0 with f8 := 0, f1 := x.f1 }, t.f1, 0⟩ else t
def back1 (x : DE) (t : EN) : EN := ⟨{ t.f0 with f8 := 0, f1 := x.f1 }, t.f1, 0⟩
def ofDeed (x : DE) (bid : Int) (y : EN) : Bool := decide (y.f0.f2.toList = x.f2.toList) && (if x.f2.toList = [] then decide (y.f0.f1.toList = x.f1.toList) else (y.f1 == bid))
def undropAt (d : Dr) (es : List EN) (x : DE) (bid : Int) : Int × List EN :=
  match dropped es (ofDeed x bid) with
    | none => (6, es)
    | some i =>
      if (findIx es x.f1 x.f2).isSome then (5, es)
      else
        let e := es.getD i z278
        if wrap64 (atTime d e.f0.f8 + es.foldl (keepStep x e.f0.f0 e.f0.f8) e.f0.f5) < d.time then (9, es)
        else (0, (setE es i (back1 x)).map (tabs e.f0.f0 (backT x e.f0.f8)))
def undrop (d : Dr) (es : List EN) (x : DE) : Int × List EN :=
  if x.f2.toList = [] then undropAt d es x 0
  else match baseIx es x.f1 with
    | none => (4, es)
    | some b => undropAt d es x (idOf es b)
def base1 (s : ByteArray) (x : EN) : EN := ⟨{ x.f0 with f1 := s }, x.f1, x.f2⟩
def baseT (s : ByteArray) (x : EN) : EN := if x.f0.f8 = 0 then base1 s x else x
def names1 (b t : ByteArray) (x : EN) : EN := ⟨{ x.f0 with f1 := b, f2 := t }, x.f1, x.f2⟩
def rename (es : List EN) (x : DE) : Int × List EN := match findIx es x.f1 x.f2 with
  | none => (4, es)
  | some i =>
    if x.f2.toList = [] then
      (if (baseIx es x.f3).isSome then (5, es) else (0, (setE es i (names1 x.f3 x.f2)).map (tabs (idOf es i) (baseT x.f3))))
    else if (findIx es x.f1 x.f3).isSome then (5, es) else (0, setE es i (names1 x.f1 x.f3))
def table1 (t : ByteArray) (x : EN) : EN := ⟨{ x.f0 with f2 := t }, x.f1, x.f2⟩
def swap (es : List EN) (x : DE) : Int × List EN :=
  match inIx es (baseIx es x.f1) x.f2, inIx es (baseIx es x.f1) x.f3 with
    | some i, some k => (0, setE (setE es i (table1 (es.getD k z278).f0.f2)) k (table1 (es.getD i z278).f0.f2))
    | _, _ => (4, es)
def lay1 (d : Dr) (x : DE) (y : EN) : EN := ⟨{ y.f0 with f3 := x.f4, f4 := x.f6, f7 := d.commit }, y.f1, y.f2⟩
def lay (d : Dr) (es : List EN) (x : DE) : Int × List EN := match findIx es x.f1 x.f2 with
  | none => (4, es)
  | some i => (0, setE es i (lay1 d x))
def keep1 (k : Int) (y : EN) : EN := ⟨{ y.f0 with f5 := k }, y.f1, y.f2⟩
def keepIt (es : List EN) (x : DE) : Int × List EN := match findIx es x.f1 x.f2 with
  | none => (4, es)
  | some i => (0, setE es i (keep1 x.f5))
def kCreate : ByteArray := ⟨#[99, 114, 101, 97, 116, 101]⟩
def kDrop : ByteArray := ⟨#[100, 114, 111, 112]⟩
def kUndrop : ByteArray := ⟨#[117, 110, 100, 114, 111, 112]⟩
def kRename : ByteArray := ⟨#[114, 101, 110, 97, 109, 101]⟩
def kSwap : ByteArray := ⟨#[115, 119, 97, 112]⟩
def kLay : ByteArray := ⟨#[108, 97, 121]⟩
def kKeep : ByteArray := ⟨#[107, 101, 101, 112]⟩
def deedBy (d : Dr) (es : List EN) (x : DE) : Int × List EN :=
  if x.f0 = kCreate then create d es x else if x.f0 = kDrop then drop d es x else if x.f0 = kUndrop then undrop d es x
  else if x.f0 = kRename then rename es x else if x.f0 = kSwap then swap es x else if x.f0 = kLay then lay d es x else keepIt es x
def isOp (s : ByteArray) : Bool := decide (s = kCreate) || (decide (s = kDrop) || (decide (s = kUndrop) || (decide (s = kRename) || (decide (s = kSwap) || (decide (s = kLay) || decide (s = kKeep))))))
def doneBy (d : Dr) : List EN → List DE → Int × List EN
  | es, [] => if 4000 < es.length then (2, es) else (0, es)
  | es, x :: r => let p := deedBy d es x; if p.1 = 0 then doneBy d p.2 r else p
abbrev Cat := List ST
def Cat.new : Cat := [⟨0, [], []⟩]
def lastOf (c : Cat) : ST := c.getLast?.getD z183
def checkTime (c : Cat) (time : Int) : Int := if time < 0 ∨ 1000000000 < time ∨ time < (lastOf c).f0 then 9 else 0
def force (c : Cat) (l : List DE) (time : Int) : (Int × Int) × Cat :=
  if checkTime c time ≠ 0 then ((0, 9), c)
  else if 4000 < c.length then ((0, 2), c)
  else let p := doneBy ⟨c.length, time, c.map (·.f0)⟩ (lastOf c).f2 l
    if p.1 ≠ 0 then ((0, p.1), c) else ((c.length, 0), c ++ [⟨time, l, p.2⟩])
set_option maxRecDepth 100000 in
theorem made_yes (g : Nat) (A : Option Addr) (n c : Nat) (w : World) (h : w.cell? ⟨g, 0, none⟩ = some (.slice A n c)) (hn : 0 < n) :
    Calls Tryz.prog 127 #[.pointer (some ⟨g, 0, none⟩)] w fun e w' => e = .returned (.bool true) ∧ w = w' := by
  have hn2 : (0 : Int) < (n : Int) := by omega
  go_enter Tryz.func127, Tryz.ntmps127
  go_wp2
  go_ret
  exact ⟨rfl, rfl⟩
set_option maxRecDepth 100000 in
theorem count_yes (g : Nat) (A : Option Addr) (n c : Nat) (w : World) (h : w.cell? ⟨g, 0, none⟩ = some (.slice A n c)) (hn : 0 < n) (hm : n ≤ 9223372036854775807) :
    Calls Tryz.prog 73 #[.pointer (some ⟨g, 0, none⟩)] w fun e w' => e = .returned (.int .i64 ((n : Int) - 1)) ∧ w = w' := by
  go_enter Tryz.func73, Tryz.ntmps73
  go_wp2_with (go_at_call 127; refine (made_yes _ _ _ _ _ h hn).mono ?_; rintro e w' ⟨rfl, rfl⟩)
  go_ret
  have e : wrap64 ((n : Int) - 1) = (n : Int) - 1 := by rw [← i64_w]; exact IntWalk.i64_in _ (by omega)
  first | exact ⟨rfl, rfl⟩ | exact ⟨by rw [e], rfl⟩
structure EnC (w : World) (g i : Nat) (x : EN) : Prop where
  id : w.cell? ⟨g, i * 11, none⟩ = some (.int .i64 x.f0.f0)
  base : w.cell? ⟨g, i * 11 + 1, none⟩ = some (.string x.f0.f1)
  table : w.cell? ⟨g, i * 11 + 2, none⟩ = some (.string x.f0.f2)
  keep : w.cell? ⟨g, i * 11 + 5, none⟩ = some (.int .i64 x.f0.f5)
  born : w.cell? ⟨g, i * 11 + 6, none⟩ = some (.int .i64 x.f0.f6)
  laid : w.cell? ⟨g, i * 11 + 7, none⟩ = some (.int .i64 x.f0.f7)
  gone : w.cell? ⟨g, i * 11 + 8, none⟩ = some (.int .i64 x.f0.f8)
  home : w.cell? ⟨g, i * 11 + 9, none⟩ = some (.int .i64 x.f1)
  with_ : w.cell? ⟨g, i * 11 + 10, none⟩ = some (.int .i64 x.f2)
structure Ens (w : World) (A : Option Addr) (n : Nat) (es : List EN) : Prop where
  len : es.length = n
  small : n ≤ 1000000
  get : ∀ i x, es[i]? = some x → ∃ g, A = some ⟨g, 0, none⟩ ∧ EnC w g i x
def ptrAt (A : Option Addr) : Option Nat → Value
  | none => .pointer none
  | some i => .pointer (A.map (fun ad => ⟨ad.block, ad.off + i * 11, none⟩))
theorem find_at {α : Type} {p : α → Bool} : ∀ {l : List α} {k : Nat} {x : α}, (∀ j y, j < k → l[j]? = some y → p y = false) → l[k]? = some x → p x = true → l.findIdx? p = some k
  | [], k, x, _, h, _ => by simp at h
  | a :: r, 0, x, _, h, hp => by simp at h; subst h; simp [List.findIdx?_cons, hp]
  | a :: r, k + 1, x, hb, h, hp => by
    have ha : p a = false := hb 0 a (by omega) (by simp)
    have ih := find_at (l := r) (k := k) (x := x) (fun j y hj hy => hb (j + 1) y (by omega) (by simpa using hy)) (by simpa using h) hp
    simp [List.findIdx?_cons, ha, ih]
theorem find_no {α : Type} {p : α → Bool} {l : List α} (h : ∀ j y, j < l.length → l[j]? = some y → p y = false) : l.findIdx? p = none := by
  rw [List.findIdx?_eq_none_iff]
  intro y hy
  obtain ⟨j, hj⟩ := List.mem_iff_getElem?.1 hy
  exact h j y (List.getElem?_eq_some_iff.1 hj).1 hj
theorem upto_step {α : Type} {p : α → Bool} {l : List α} {k : Nat} {x : α} (h : ∀ j y, j < k → l[j]? = some y → p y = false) (hx : l[k]? = some x) (hp : p x = false) : ∀ j y, j < k + 1 → l[j]? = some y → p y = false := by
  intro j y hj hy
  by_cases e : j = k
  · subst e; rw [hx] at hy; cases hy; exact hp
  · exact h j y (by omega) hy
set_option maxRecDepth 100000 in
set_option maxHeartbeats 1000000 in
theorem base_any (db : Nat) (A : Option Addr) (n c : Nat) (es : List EN) (name : ByteArray) (w : World) (h : w.cell? ⟨db, 3, none⟩ = some (.slice A n c)) (he : Ens w A n es) :
    Calls Tryz.prog 226 #[.pointer (some ⟨db, 0, none⟩), .string name] w fun e w' => e = .returned (ptrAt A (baseIx es name)) ∧ w = w' := by
  have HE := hid he
  have hsm := he.small
  clear he
  go_enter Tryz.func226, Tryz.ntmps226
  go_wp2
  go_loopw [12] (fun i wr => ∃ k : Nat, i = .int .i64 k ∧ k ≤ n ∧ (∀ j x, j < k → es[j]? = some x → isBase name x = false) ∧ wr = w) (fun i _ => n - (intOf i).toNat)
  case atStart => exact ⟨0, rfl, Nat.zero_le _, fun j x hj => absurd hj (Nat.not_lt_zero _), rfl⟩
  case round =>
    obtain ⟨k, rfl, hk, hb, rfl⟩ := hrel
    have HB := hid hb
    clear hb
    by_cases hlt : k < n
    · obtain ⟨x, hx⟩ : ∃ x, es[k]? = some x := ⟨_, List.getElem?_eq_getElem (by rw [HE.out.len]; exact hlt)⟩
      obtain ⟨g, rfl, hc⟩ := HE.out.get k x hx
      have d1 := hc.base
      have d2 := hc.table
      have d8 := hc.gone
      have hm0 : (0 : Int) ≤ (k : Int) := by omega
      have hm1 : (k : Int) < (n : Int) := by omega
      clear hc
      go_wp2
      all_goals first
        | (go_ret
           refine ⟨?_, rfl⟩
           rw [show baseIx es name = some k from find_at HB.out hx (by simp_all [isBase])]
           simp [ptrAt])
        | (go_roundw
           case rel => exact ⟨k + 1, by go_num, by omega, upto_step HB.out hx (by simp_all [isBase]), rfl⟩
           case measure => simp [intOf]; omega)
        | (refine ⟨⟨k + 1, by go_num, by omega, upto_step HB.out hx (by simp_all [isBase]), trivial⟩, by simp [intOf]; omega⟩)
    · go_wp2
      go_ret
      have e : k = n := by omega
      rw [show baseIx es name = none from find_no (fun j y hj hy => HB.out j y (by have := HE.out.len; omega) hy)]
      exact ⟨rfl, rfl⟩
set_option maxRecDepth 100000 in
set_option maxHeartbeats 1000000 in
theorem table_some (db : Nat) (g n c : Nat) (es : List EN) (i0 : Nat) (x0 : EN) (name : ByteArray) (w : World) (h : w.cell? ⟨db, 3, none⟩ = some (.slice (some ⟨g, 0, none⟩) n c)) (he : Ens w (some ⟨g, 0, none⟩) n es) (h0 : es[i0]? = some x0) :
    Calls Tryz.prog 237 #[.pointer (some ⟨db, 0, none⟩), .pointer (some ⟨g, i0 * 11, none⟩), .string name] w fun e w' => e = .returned (ptrAt (some ⟨g, 0, none⟩) (tableIx es x0.f0.f0 name)) ∧ ∃ q, w' = w.drewN q := by
  have HE := hid he
  have hsm := he.small
  obtain ⟨g', e, hc0⟩ := he.get i0 x0 h0
  cases e
  have z0 := hc0.id
  clear he hc0
  go_enter Tryz.func237, Tryz.ntmps237
  go_wp2
  go_loopw [14] (fun i wr => ∃ k : Nat, i = .int .i64 k ∧ k ≤ n ∧ (∀ j x, j < k → es[j]? = some x → isTable x0.f0.f0 name x = false) ∧ ∃ q, wr = w.drewN q) (fun i _ => n - (intOf i).toNat)
  case atStart => exact ⟨0, rfl, Nat.zero_le _, fun j x hj => absurd hj (Nat.not_lt_zero _), 0, rfl⟩
  case round =>
    obtain ⟨k, rfl, hk, hb, q, rfl⟩ := hrel
    have HB := hid hb
    clear hb
    by_cases hlt : k < n
    · obtain ⟨x, hx⟩ : ∃ x, es[k]? = some x := ⟨_, List.getElem?_eq_getElem (by rw [HE.out.len]; exact hlt)⟩
      obtain ⟨g2, e2, hc⟩ := HE.out.get k x hx
      cases e2
      have d2 := hc.table
      have d8 := hc.gone
      have d9 := hc.home
      have hm0 : (0 : Int) ≤ (k : Int) := by omega
      have hm1 : (k : Int) < (n : Int) := by omega
      clear hc
      generalize hA : (x.f1 == x0.f0.f0) = tA
      generalize hT : (x.f0.f2.toList == name.toList) = tT
      generalize hG : (x.f0.f8 == 0) = tG
      cases tA <;> cases tT <;> cases tG
      all_goals go_wp2_with fail
      all_goals go_quiet (fail)
      all_goals go_wp2
      all_goals first
        | (go_ret
           refine ⟨?_, _, World.drewN_drewN ..⟩
           rw [show tableIx es x0.f0.f0 name = some k from find_at HB.out hx (by simp_all [isTable])]
           show Ending.returned (.pointer (some ⟨g, k * 11, none⟩)) = _
           simp [ptrAt])
        | (go_roundw
           case rel => exact ⟨k + 1, by go_num, by omega, upto_step HB.out hx (by simp_all [isTable]), _, rfl⟩
           case measure => simp [intOf]; omega)
    · go_wp2
      go_ret
      have e : k = n := by omega
      rw [show tableIx es x0.f0.f0 name = none from find_no (fun j y hj hy => HB.out j y (by have := HE.out.len; omega) hy)]
      exact ⟨rfl, q, rfl⟩
set_option maxRecDepth 100000 in
set_option maxHeartbeats 1000000 in
theorem table_nil (db : Nat) (A : Option Addr) (n c : Nat) (es : List EN) (name : ByteArray) (w : World) (h : w.cell? ⟨db, 3, none⟩ = some (.slice A n c)) (he : Ens w A n es) :
    Calls Tryz.prog 237 #[.pointer (some ⟨db, 0, none⟩), .pointer none, .string name] w fun e w' => e = .returned (.pointer none) ∧ ∃ q, w' = w.drewN q := by
  have HE := hid he
  have hsm := he.small
  clear he
  go_enter Tryz.func237, Tryz.ntmps237
  go_wp2
  go_loopw [14] (fun i wr => ∃ k : Nat, i = .int .i64 k ∧ k ≤ n ∧ ∃ q, wr = w.drewN q) (fun i _ => n - (intOf i).toNat)
  case atStart => exact ⟨0, rfl, Nat.zero_le _, 0, rfl⟩
  case round =>
    obtain ⟨k, rfl, hk, q, rfl⟩ := hrel
    by_cases hlt : k < n
    · obtain ⟨x, hx⟩ : ∃ x, es[k]? = some x := ⟨_, List.getElem?_eq_getElem (by rw [HE.out.len]; exact hlt)⟩
      obtain ⟨g2, rfl, hc⟩ := HE.out.get k x hx
      have hm0 : (0 : Int) ≤ (k : Int) := by omega
      have hm1 : (k : Int) < (n : Int) := by omega
      clear hc
      go_wp2_with fail
      go_quiet (fail)
      go_wp2
      go_roundw
      case rel => exact ⟨k + 1, by go_num, by omega, _, rfl⟩
      case measure => simp [intOf]; omega
    · go_wp2
      go_ret
      exact ⟨rfl, q, rfl⟩
def deedV (x : DE) (A4 : Option Addr) (c4 : Nat) (A6 : Option Addr) (c6 : Nat) : Value := .agg #[.string x.f0, .string x.f1, .string x.f2, .string x.f3, .slice A4 x.f4.length c4, .int .i64 x.f5, .slice A6 x.f6.length c6]
theorem base_lt {es : List EN} {s : ByteArray} {i : Nat} (h : baseIx es s = some i) : i < es.length := by
  unfold baseIx at h
  exact (List.findIdx?_eq_some_iff_getElem.1 h).1
theorem table_lt {es : List EN} {b : Int} {s : ByteArray} {i : Nat} (h : tableIx es b s = some i) : i < es.length := by
  unfold tableIx at h
  exact (List.findIdx?_eq_some_iff_getElem.1 h).1
theorem find_lt {es : List EN} {b s : ByteArray} {i : Nat} (h : findIx es b s = some i) : i < es.length := by
  unfold findIx at h
  split at h
  · exact base_lt h
  · unfold inIx at h
    split at h
    · cases h
    · exact table_lt h
theorem Ens.drewN {w : World} {A : Option Addr} {n : Nat} {es : List EN} (h : Ens w A n es) (q : Nat) : Ens (w.drewN q) A n es := ⟨h.len, h.small, fun i x hx => by
  obtain ⟨g, e, hc⟩ := h.get i x hx
  exact ⟨g, e, ⟨hc.id, hc.base, hc.table, hc.keep, hc.born, hc.laid, hc.gone, hc.home, hc.with_⟩⟩⟩
theorem ptr_none (A : Option Addr) : ptrAt A none = .pointer none := rfl
theorem ptr_some (g i : Nat) : ptrAt (some ⟨g, 0, none⟩) (some i) = .pointer (some ⟨g, i * 11, none⟩) := by simp [ptrAt]
theorem table_any (db : Nat) (A : Option Addr) (n c : Nat) (es : List EN) (b : Option Nat) (hb : ∀ i, b = some i → i < es.length) (name : ByteArray) (w : World) (h : w.cell? ⟨db, 3, none⟩ = some (.slice A n c)) (he : Ens w A n es) :
    Calls Tryz.prog 237 #[.pointer (some ⟨db, 0, none⟩), ptrAt A b, .string name] w fun e w' => e = .returned (ptrAt A (inIx es b name)) ∧ ∃ q, w' = w.drewN q := by
  cases b with
  | none => exact table_nil db A n c es name w h he
  | some i =>
    have hi := hb i rfl
    obtain ⟨g, rfl, -⟩ := he.get i _ (List.getElem?_eq_getElem hi)
    have e : idOf es i = es[i].f0.f0 := by simp [idOf, List.getD_eq_getElem?_getD, List.getElem?_eq_getElem hi]
    have := table_some db g n c es i es[i] name w h he (List.getElem?_eq_getElem hi)
    rw [← e] at this
    rw [ptr_some]
    exact this
theorem Ens.fr {w w' : World} {A : Option Addr} {n : Nat} {es : List EN} {S : List Nat} (h : Ens w A n es) (hf : Fr S w w') (hS : ∀ g, A = some ⟨g, 0, none⟩ → g ∉ S) : Ens w' A n es := ⟨h.len, h.small, fun i x hx => by
  obtain ⟨g, e, hc⟩ := h.get i x hx
  exact ⟨g, e, ⟨hf.cellE hc.id (hS g e), hf.cellE hc.base (hS g e), hf.cellE hc.table (hS g e), hf.cellE hc.keep (hS g e), hf.cellE hc.born (hS g e), hf.cellE hc.laid (hS g e), hf.cellE hc.gone (hS g e), hf.cellE hc.home (hS g e), hf.cellE hc.with_ (hS g e)⟩⟩⟩
theorem Ens.fr0 {w w' : World} {A : Option Addr} {n : Nat} {es : List EN} (h : Ens w A n es) (hf : Fr [] w w') : Ens w' A n es := h.fr hf (by simp)
set_option maxRecDepth 100000 in
theorem find_any (db : Nat) (A : Option Addr) (n c : Nat) (es : List EN) (x : DE) (A4 : Option Addr) (c4 : Nat) (A6 : Option Addr) (c6 : Nat) (w : World) (h : w.cell? ⟨db, 3, none⟩ = some (.slice A n c)) (he : Ens w A n es) :
    Calls Tryz.prog 227 #[.pointer (some ⟨db, 0, none⟩), deedV x A4 c4 A6 c6] w fun e w' => e = .returned (ptrAt A (findIx es x.f1 x.f2)) ∧ Fr [] w w' := by
  have F1 := hid (((Fr.refl [] w).alloc (.cells #[.string x.f0, .string x.f1, .string x.f2, .string x.f3, .slice A4 x.f4.length c4, .int .i64 x.f5, .slice A6 x.f6.length c6] 135)))
  have cB := hid (base_any db A n c es x.f1 _ (F1.out.cell0 h) (he.fr0 F1.out))
  have cT := hid (table_any db A n c es (baseIx es x.f1) (fun i hi => base_lt hi) x.f2 _ (F1.out.cell0 h) (he.fr0 F1.out))
  clear he h
  unfold deedV
  by_cases ht : x.f2.toList = []
  · have hF : Hid (findIx es x.f1 x.f2 = baseIx es x.f1) := by unfold findIx; exact if_pos ht
    go_enter Tryz.func227, Tryz.ntmps227
    go_wp2_with (go_at_call 226; refine cB.out.mono ?_; rintro e w' ⟨rfl, rfl⟩)
    go_ret
    rw [hF.out]
    exact ⟨rfl, F1.out⟩
  · have ht2 : x.f2.toList.isEmpty = false := by simpa using ht
    have hF : Hid (findIx es x.f1 x.f2 = inIx es (baseIx es x.f1) x.f2) := by unfold findIx; exact if_neg ht
    go_enter Tryz.func227, Tryz.ntmps227
    go_wp2_with (first
      | (go_at_call 226; refine cB.out.mono ?_; rintro e w' ⟨rfl, rfl⟩)
      | (go_at_call 237; refine cT.out.mono ?_; rintro e w' ⟨rfl, q, rfl⟩))
    go_ret
    rw [hF.out]
    exact ⟨rfl, F1.out.drewN _⟩
theorem find_nil (db : Nat) (A : Option Addr) (n c : Nat) (es : List EN) (x : DE) (A4 : Option Addr) (c4 : Nat) (A6 : Option Addr) (c6 : Nat) (w : World) (h : w.cell? ⟨db, 3, none⟩ = some (.slice A n c)) (he : Ens w A n es) (hr : findIx es x.f1 x.f2 = none) :
    Calls Tryz.prog 227 #[.pointer (some ⟨db, 0, none⟩), deedV x A4 c4 A6 c6] w fun e w' => e = .returned (.pointer none) ∧ Fr [] w w' := by
  have := find_any db A n c es x A4 c4 A6 c6 w h he
  rwa [hr] at this
theorem find_yes (db : Nat) (g n c : Nat) (es : List EN) (x : DE) (A4 : Option Addr) (c4 : Nat) (A6 : Option Addr) (c6 : Nat) (w : World) (h : w.cell? ⟨db, 3, none⟩ = some (.slice (some ⟨g, 0, none⟩) n c)) (he : Ens w (some ⟨g, 0, none⟩) n es) {i : Nat} (hr : findIx es x.f1 x.f2 = some i) :
    Calls Tryz.prog 227 #[.pointer (some ⟨db, 0, none⟩), deedV x A4 c4 A6 c6] w fun e w' => e = .returned (.pointer (some ⟨g, i * 11, none⟩)) ∧ Fr [] w w' := by
  have := find_any db (some ⟨g, 0, none⟩) n c es x A4 c4 A6 c6 w h he
  rwa [hr, ptr_some] at this
def wchar (i : Nat) (c : UInt8) : Bool := (decide (97 ≤ (c.toNat : Int)) && decide ((c.toNat : Int) ≤ 122)) || (decide (0 < i) && ((decide (48 ≤ (c.toNat : Int)) && decide ((c.toNat : Int) ≤ 57)) || ((c.toNat : Int) == 95)))
def wfrom : Nat → List UInt8 → Bool
  | _, [] => true
  | i, c :: r => wchar i c && wfrom (i + 1) r
def wordB (s : ByteArray) : Bool := wfrom 0 s.data.toList && (decide (0 < s.size) && decide (s.size ≤ 24))
theorem wfrom_at {s : ByteArray} {k : Nat} (h : k < s.size) : wfrom k (s.data.toList.drop k) = (wchar k s[k] && wfrom (k + 1) (s.data.toList.drop (k + 1))) := by
  rw [List.drop_eq_getElem_cons (by simpa using h)]
  rfl
theorem word_no {s : ByteArray} {k : Nat} (h : k < s.size) (H : wfrom 0 s.data.toList = wfrom k (s.data.toList.drop k)) (hc : wchar k s[k] = false) : wordB s = false := by
  unfold wordB
  rw [H, wfrom_at h, hc]
  rfl
set_option maxRecDepth 100000 in
theorem word_any (s : ByteArray) (hs : s.size ≤ maxLen) (w : World) :
    Calls Tryz.prog 34 #[.string s] w fun e w' => e = .returned (.bool (wordB s)) ∧ Drawn0 w w' := by
  unfold maxLen at hs
  go_enter Tryz.func34, Tryz.ntmps34
  go_wp2
  go_loop [7] (fun i => ∃ k : Nat, k ≤ s.size ∧ i = .int .i64 k ∧ Hid (wfrom 0 s.data.toList = wfrom k (s.data.toList.drop k))) (fun i => s.size - (intOf i).toNat)
  case atStart => exact ⟨0, Nat.zero_le _, rfl, rfl⟩
  case round =>
    obtain ⟨k, hk, rfl, H⟩ := hrel
    by_cases hlt : k < s.size
    · by_cases h1 : 97 ≤ (s[k].toNat : Int)
      · by_cases h2 : (s[k].toNat : Int) ≤ 122
        · go_wp2
          go_round
          case rel => exact ⟨k + 1, by omega, by go_num, by rw [H.out, wfrom_at hlt, show wchar k s[k] = true by unfold wchar; simp [*]]; rfl⟩
          case measure => simp [intOf]; omega
        · have h2b : decide ((s[k].toNat : Int) ≤ 122) = false := decide_eq_false h2
          by_cases hz : 0 < k
          · have hz1 : (0 : Int) < (k : Int) := by omega
            by_cases h3 : 48 ≤ (s[k].toNat : Int)
            · by_cases h4 : (s[k].toNat : Int) ≤ 57
              · go_wp2
                go_round
                case rel => exact ⟨k + 1, by omega, by go_num, by rw [H.out, wfrom_at hlt, show wchar k s[k] = true by unfold wchar; simp [*]]; rfl⟩
                case measure => simp [intOf]; omega
              · have h4b : decide ((s[k].toNat : Int) ≤ 57) = false := decide_eq_false h4
                cases h5 : ((s[k].toNat : Int) == 95) with
                | true =>
                  go_wp2
                  go_round
                  case rel => exact ⟨k + 1, by omega, by go_num, by rw [H.out, wfrom_at hlt, show wchar k s[k] = true by unfold wchar; simp [*]]; rfl⟩
                  case measure => simp [intOf]; omega
                | false =>
                  go_wp2
                  go_ret
                  exact ⟨by rw [word_no hlt H.out (by unfold wchar; simp [*])]; rfl, Drawn0.refl _⟩
            · have h3b : decide (48 ≤ (s[k].toNat : Int)) = false := decide_eq_false h3
              cases h5 : ((s[k].toNat : Int) == 95) with
              | true =>
                go_wp2
                go_round
                case rel => exact ⟨k + 1, by omega, by go_num, by rw [H.out, wfrom_at hlt, show wchar k s[k] = true by unfold wchar; simp [*]]; rfl⟩
                case measure => simp [intOf]; omega
              | false =>
                go_wp2
                go_ret
                exact ⟨by rw [word_no hlt H.out (by unfold wchar; simp [*])]; rfl, Drawn0.refl _⟩
          · obtain rfl : k = 0 := by omega
            go_wp2
            go_ret
            exact ⟨by rw [word_no hlt H.out (by unfold wchar; simp [*])]; rfl, Drawn0.refl _⟩
      · have h1b : decide (97 ≤ (s[k].toNat : Int)) = false := decide_eq_false h1
        by_cases hz : 0 < k
        · have hz1 : (0 : Int) < (k : Int) := by omega
          by_cases h3 : 48 ≤ (s[k].toNat : Int)
          · by_cases h4 : (s[k].toNat : Int) ≤ 57
            · go_wp2
              go_round
              case rel => exact ⟨k + 1, by omega, by go_num, by rw [H.out, wfrom_at hlt, show wchar k s[k] = true by unfold wchar; simp [*]]; rfl⟩
              case measure => simp [intOf]; omega
            · have h4b : decide ((s[k].toNat : Int) ≤ 57) = false := decide_eq_false h4
              cases h5 : ((s[k].toNat : Int) == 95) with
              | true =>
                go_wp2
                go_round
                case rel => exact ⟨k + 1, by omega, by go_num, by rw [H.out, wfrom_at hlt, show wchar k s[k] = true by unfold wchar; simp [*]]; rfl⟩
                case measure => simp [intOf]; omega
              | false =>
                go_wp2
                go_ret
                exact ⟨by rw [word_no hlt H.out (by unfold wchar; simp [*])]; rfl, Drawn0.refl _⟩
          · have h3b : decide (48 ≤ (s[k].toNat : Int)) = false := decide_eq_false h3
            cases h5 : ((s[k].toNat : Int) == 95) with
            | true =>
              go_wp2
              go_round
              case rel => exact ⟨k + 1, by omega, by go_num, by rw [H.out, wfrom_at hlt, show wchar k s[k] = true by unfold wchar; simp [*]]; rfl⟩
              case measure => simp [intOf]; omega
            | false =>
              go_wp2
              go_ret
              exact ⟨by rw [word_no hlt H.out (by unfold wchar; simp [*])]; rfl, Drawn0.refl _⟩
        · obtain rfl : k = 0 := by omega
          go_wp2
          go_ret
          exact ⟨by rw [word_no hlt H.out (by unfold wchar; simp [*])]; rfl, Drawn0.refl _⟩
    · obtain rfl : k = s.size := by omega
      have hw := hid (show wordB s = (decide (0 < s.size) && decide (s.size ≤ 24)) by
        unfold wordB
        rw [H.out, List.drop_eq_nil_of_le (by simp)]
        rfl)
      by_cases h0 : 0 < s.size
      · have he : s.toList.isEmpty = false := by
          rw [List.isEmpty_eq_false_iff]
          intro e
          rw [ByteArray.toList_eq] at e
          have h2 : s.data.toList.length = 0 := by rw [e]; rfl
          have h3 : s.data.toList.length = s.size := Array.length_toList
          omega
        by_cases h24 : s.size ≤ 24
        · go_wp2
          go_ret
          exact ⟨by rw [hw.out]; simp [*]; omega, Drawn0.refl _⟩
        · go_wp2
          go_ret
          exact ⟨by rw [hw.out]; simp [*]; omega, Drawn0.refl _⟩
      · have he : s.toList.isEmpty = true := by
          rw [List.isEmpty_iff, ByteArray.toList_eq]
          apply List.eq_nil_of_length_eq_zero
          have h3 : s.data.toList.length = s.size := Array.length_toList
          omega
        go_wp2
        go_ret
        exact ⟨by rw [hw.out]; simp [*], Drawn0.refl _⟩
end Go.Proofs.YtkolnoadeihmoaaGreat
