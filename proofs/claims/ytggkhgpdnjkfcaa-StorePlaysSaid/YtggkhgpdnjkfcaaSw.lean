/-
  Words on memory for a store: the map of files, the struct, and what a call leaves alone.
-/
import Derived.Test.YtggkhgpdnjkfcaaRows
import Derived.Test.YtggkhgpdnjkfcaaSm
import Derived.WalkKit
import Derived.WalkSpells
import Derived.WalkLawsBesides
import Derived.Maps.OwnSet
import Derived.Maps.StringElems
import Derived.RegionTactic
import Derived.Deep.QuietTactic
import Derived.BigQuiet
import Derived.BigRegion
import Derived.Outline
import Derived.Lib.ConvBytes
import Derived.Laws.BytesArg
namespace Go.Proofs.Ytggkhgpdnjkfcaa
open Go.RowKit Go.Maps

theorem hid {p : Prop} (h : p) : Hid p := h

/-- w' is w but for the blocks of S and new blocks. -/
structure Fr (S : List Nat) (w w' : World) : Prop where
  os : w'.os = w.os
  tape : w'.tape = w.tape
  output : w'.output = w.output
  size : w.heap.size ≤ w'.heap.size
  block : ∀ k, k < w.heap.size → k ∉ S → w'.heap[k]? = w.heap[k]?
theorem Fr.refl (S : List Nat) (w : World) : Fr S w w := ⟨rfl, rfl, rfl, Nat.le_refl _, fun _ _ _ => rfl⟩
theorem Fr.drew {S : List Nat} {w w' : World} (h : Fr S w w') : Fr S w w'.drew := ⟨h.os, h.tape, h.output, h.size, h.block⟩
theorem Fr.drewN {S : List Nat} {w w' : World} (h : Fr S w w') (n : Nat) : Fr S w (w'.drewN n) := ⟨h.os, h.tape, h.output, h.size, h.block⟩
theorem Fr.mono {S S' : List Nat} {w w' : World} (h : Fr S w w') (hs : ∀ x, x ∈ S → x ∈ S' ∨ w.heap.size ≤ x) : Fr S' w w' :=
  ⟨h.os, h.tape, h.output, h.size, fun k hk hS => h.block k hk (fun hx => by rcases hs k hx with h1 | h1; exact hS h1; omega)⟩
theorem Fr.trans {S S' : List Nat} {a b c : World} (h : Fr S a b) (k : Fr S' b c) (hs : ∀ x, x ∈ S' → x ∈ S ∨ a.heap.size ≤ x) : Fr S a c :=
  ⟨k.os.trans h.os, k.tape.trans h.tape, k.output.trans h.output, Nat.le_trans h.size k.size, fun i hi hS =>
    (k.block i (Nat.lt_of_lt_of_le hi h.size) (fun hx => by rcases hs i hx with h1 | h1; exact hS h1; omega)).trans (h.block i hi hS)⟩
theorem Fr.then {S : List Nat} {a b c : World} (h : Fr S a b) (k : Fr S b c) : Fr S a c := h.trans k (fun _ hx => .inl hx)
theorem Fr.of_below {S : List Nat} {w w' : World} (h : Below w.heap.size w w') : Fr S w w' := ⟨h.os, h.tape, h.output, h.size, fun k hk _ => h.block k hk⟩
theorem Fr.below {S : List Nat} {w w' : World} (h : Fr S w w') {B : Nat} (hB : B ≤ w.heap.size) (hs : ∀ x, x ∈ S → B ≤ x) : Below B w w' :=
  ⟨h.os, h.tape, h.output, h.size, fun k hk => h.block k (by omega) (fun hx => by have := hs k hx; omega)⟩
theorem Fr.below0 {w w' : World} (h : Fr [] w w') : Below w.heap.size w w' := h.below (Nat.le_refl _) (by simp)
theorem Fr.alloc {S : List Nat} {w w' : World} (h : Fr S w w') (o : Obj) : Fr S w (w'.alloc o) :=
  ⟨h.os, h.tape, h.output, by have := h.size; simp; omega, fun k hk hS => (Below.heap_alloc w' o k (by have := h.size; omega)).trans (h.block k hk hS)⟩
theorem Fr.setCell {S : List Nat} {w w' : World} (h : Fr S w w') {p : Addr} (hp : p.block ∈ S ∨ w.heap.size ≤ p.block) (u : Value) : Fr S w (w'.setCell p u) :=
  ⟨h.os, h.tape, h.output, by have := h.size; simp [World.setCell]; omega, fun k hk hS =>
    (Below.heap_setCell w' p u k (by rintro rfl; rcases hp with h1 | h1; exact hS h1; omega)).trans (h.block k hk hS)⟩
theorem Fr.grown {S : List Nat} {w w' w2 : World} {row : Option Nat} (h : Fr S w w') (hg : w'.grownBy w2 row) (hr : ∀ k, row = some k → k ∈ S ∨ w.heap.size ≤ k) : Fr S w w2 :=
  ⟨hg.os.trans h.os, hg.tape.trans h.tape, hg.output.trans h.output, Nat.le_trans h.size hg.size, fun k hk hS =>
    (hg.block k (by have := h.size; omega) (fun e => by rcases hr k e.symm with h1 | h1; exact hS h1; omega)).trans (h.block k hk hS)⟩
theorem Fr.turned {S : List Nat} {w w' w2 : World} {b : Nat} (h : Fr S w w') (hg : w'.mapTurned w2 b) (hb : b ∈ S ∨ w.heap.size ≤ b) : Fr S w w2 :=
  h.grown hg.grown (fun k e => by cases e; exact hb)
theorem Fr.cell {S : List Nat} {w w' : World} (h : Fr S w w') {p : Addr} (hp : p.block < w.heap.size) (hS : p.block ∉ S) : w'.cell? p = w.cell? p := World.cell?_of_block (w := w) (h.block p.block hp hS)

/-! ### the map of files -/
theorem law3 : Keyed Try.prog 3 := int_keyed Try.underlying3
theorem zero9 (w : World) : (zeroValue 9).run Try.prog w = .ok (.string ⟨#[]⟩) w := by kernel_rfl
def MapF (w : World) (mb : Nat) (l : FL) : Prop := w.ownsMap (H := Unit) Try.prog 3 (plainElem Try.prog 9) mb l.length (dm l)
theorem own_tight {w : World} {mb n : Nat} {l : FL} (h : w.ownsMap (H := Unit) Try.prog 3 (plainElem Try.prog 9) mb n (dm l)) : MapF w mb l := by
  obtain ⟨es, clock, hb, F, hs, hD⟩ := h
  refine ⟨es, clock, hb, F, ?_, hD⟩
  have e : Maps.size (dm (H := Unit) l) = es.size := by rw [hD]; simp [Maps.size, length_sorted]
  rw [dm_size] at e
  omega
theorem MapF.lt {w : World} {mb : Nat} {l : FL} (h : MapF w mb l) : mb < w.heap.size := World.ownsMap.lt h
theorem MapF.isMap {w : World} {mb : Nat} {l : FL} (h : MapF w mb l) : ∃ es clock, w.heap[mb]? = some (.map es clock) := let ⟨es, clock, hb, _⟩ := h; ⟨es, clock, hb⟩
theorem MapF.of_block {w w' : World} {mb : Nat} {l : FL} (h : MapF w mb l) (hb : w'.heap[mb]? = w.heap[mb]?) : MapF w' mb l := by
  obtain ⟨es, clock, h0, r⟩ := h
  exact ⟨es, clock, hb.trans h0, r⟩
theorem MapF.fr {S : List Nat} {w w' : World} {mb : Nat} {l : FL} (h : MapF w mb l) (hf : Fr S w w') (hS : mb ∉ S) : MapF w' mb l := h.of_block (hf.block mb h.lt hS)
theorem dat_inj {v u : ByteArray} (h : (dat v : DataW Unit) = .lit (.string u.data.toList)) : v = u := by
  unfold dat at h
  simp only [DataW.lit.injEq, Lit.string.injEq, Array.toList_inj] at h
  exact ByteArray.ext h
theorem MapF.look {w : World} {mb : Nat} {l : FL} (h : MapF w mb l) {k : Int} (hk : (Lit.int .i64 k).wf = true) :
    (Instr.lookup 51 (.map (some mb)) (.int .i64 k) true).run Try.prog w = .ok (.tuple #[.string ((lget l k).getD ⟨#[]⟩), .bool (lget l k).isSome]) w := by
  obtain ⟨v, ps, hrun, hv⟩ := World.ownsMap.look_ok h law3 Try.underlying51 (zero9 w) (plainElem_string Try.underlying9 (by decide)) (keyOf_int_mk Try.underlying3 hk)
  rw [hrun]
  obtain ⟨s, rfl, he, _⟩ := plainElem_string_inv Try.underlying9 hv
  have e1 := congrArg Prod.fst he
  simp only at e1
  change (dm l).atKey (litk k) _ = _ at e1
  rw [dm_at] at e1
  have e2 : Maps.has (dm (H := Unit) l) (.int .i64 k) = (lget l k).isSome := dm_has l k
  rw [e2]
  cases hg : lget l k with
  | none =>
    rw [hg] at e1
    have : (⟨#[]⟩ : ByteArray) = s := dat_inj e1
    simp [this]
  | some u =>
    rw [hg] at e1
    have : u = s := dat_inj e1
    simp [this]
theorem MapF.store {w : World} {mb : Nat} {l : FL} (h : MapF w mb l) {k : Int} (hk : (Lit.int .i64 k).wf = true) (hl : l.length < maxLen) {v : ByteArray} (hv : v.size ≤ maxLen) :
    ∃ w', (Instr.mapUpdate 51 (.map (some mb)) (.int .i64 k) (.string v)).run Try.prog w = .ok () w' ∧ MapF w' mb (lput l k v) ∧ w.mapTurned w' mb := by
  obtain ⟨w', hrun, hown, ht⟩ := World.ownsMap.store h law3 Try.underlying51 hl (keyOf_int_mk Try.underlying3 hk) (plainElem_string Try.underlying9 hv)
  refine ⟨w', hrun, own_tight (n := l.length + 1) ?_, ht⟩
  rw [← dm_put]; exact hown
theorem MapF.drop {w : World} {mb : Nat} {l : FL} (h : MapF w mb l) {k : Int} (hk : (Lit.int .i64 k).wf = true) (ty : TypeId) :
    ∃ w', (Builtin.delete_ #[51, 3] ty #[.map (some mb), .int .i64 k]).run Try.prog w = .ok (.tuple #[]) w' ∧ MapF w' mb (ldel l k) ∧ w.mapTurned w' mb := by
  obtain ⟨w', hrun, hown, ht⟩ := World.ownsMap.drop h law3 Try.underlying51 (keyOf_int_mk Try.underlying3 hk) ty
  refine ⟨w', hrun, own_tight (n := l.length) ?_, ht⟩
  rw [← dm_del]; exact hown

/-! ### the struct -/
structure StoreAt (w : World) (b mb : Nat) (s : St) : Prop where
  blk : w.heap[b]? = some (.cells #[.map (some mb), .int .i64 s.most] 53 (0, 0))
  map : MapF w mb s.files
  ok : s.Ok
theorem StoreAt.lt {w : World} {b mb : Nat} {s : St} (h : StoreAt w b mb s) : b < w.heap.size := (Array.getElem?_eq_some_iff.1 h.blk).1
theorem StoreAt.ne {w : World} {b mb : Nat} {s : St} (h : StoreAt w b mb s) : b ≠ mb := by
  obtain ⟨es, clock, e⟩ := h.map.isMap
  intro e1; have := h.blk; rw [e1, e] at this; cases this
theorem StoreAt.ne_map {w : World} {b mb : Nat} {s : St} (h : StoreAt w b mb s) {mb' : Nat} {l : FL} (h' : MapF w mb' l) : b ≠ mb' := by
  obtain ⟨es, clock, e⟩ := h'.isMap
  intro e1; have := h.blk; rw [e1, e] at this; cases this
theorem StoreAt.c0 {w : World} {b mb : Nat} {s : St} (h : StoreAt w b mb s) : w.cell? ⟨b, 0, none⟩ = some (.map (some mb)) := cell_of_row w b 0 _ _ _ h.blk
theorem StoreAt.c1 {w : World} {b mb : Nat} {s : St} (h : StoreAt w b mb s) : w.cell? ⟨b, 1, none⟩ = some (.int .i64 s.most) := cell_of_row w b 1 _ _ _ h.blk
theorem StoreAt.f1 {w : World} {b mb : Nat} {s : St} (h : StoreAt w b mb s) (i : Nat) : w.frozen? ⟨b, i, none⟩ = false := by simp [World.frozen?, h.blk]
theorem StoreAt.fr {S : List Nat} {w w' : World} {b mb : Nat} {s : St} (h : StoreAt w b mb s) (hf : Fr S w w') (h1 : b ∉ S) (h2 : mb ∉ S) : StoreAt w' b mb s :=
  ⟨(hf.block b h.lt h1).trans h.blk, h.map.fr hf h2, h.ok⟩
theorem blk_setCell {w : World} {g : Nat} {t : TypeId} {cs : Array Value} (h : w.heap[g]? = some (.cells cs t (0, 0))) (i : Nat) (u : Value) :
    (w.setCell ⟨g, i, none⟩ u).heap[g]? = some (.cells (cs.setIfInBounds i u) t (0, 0)) := by
  have hlt := (Array.getElem?_eq_some_iff.1 h).1
  simp only [World.setCell, Array.getElem?_modify, if_true, h]
  rfl

end Go.Proofs.Ytggkhgpdnjkfcaa
