/-
  The acts that come in, opened.
-/
import Derived.Test.YtggkhgpdnjkfcaaSk
import Derived.ProofKit
import Derived.OpenShut
import Derived.ShutString
import Derived.SizedLaws
import Derived.Deep.Slices
namespace Go.Proofs.Ytggkhgpdnjkfcaa
open Go.ChangeShapes Go.WideShapes Go.ChangeAt Go.RowKit Go.Deep

theorem cells_string : Try.prog.cellsOf 9 = 1 := by kernel_rfl
theorem cells_bool : Try.prog.cellsOf 4 = 1 := by kernel_rfl
theorem cells_int : Try.prog.cellsOf 3 = 1 := by kernel_rfl
theorem cells_ints : Try.prog.cellsOf 32 = 1 := by kernel_rfl
theorem cells_act : Try.prog.cellsOf 34 = 7 := by kernel_rfl
theorem own : ownKnob Try.prog.godebug = none := by kernel_rfl
theorem laidOut : laidOutB Try.prog = true := by kernel_rfl

instance : Inhabited Ac := ⟨⟨⟨#[]⟩, false, ⟨#[]⟩, 0, 0, 0, .slice none 0 0, []⟩⟩
theorem list7 {l : List Value} (h : l.length = 7) : ∃ a b c d e f g, l = [a, b, c, d, e, f, g] := by
  match l, h with
  | [a, b, c, d, e, f, g], _ => exact ⟨a, b, c, d, e, f, g, rfl⟩
theorem spot_none {w : World} {a : Addr} {v : Value} (h : w.cell? a = some v) : a.spot = none := by
  unfold World.cell? at h
  split at h
  · cases hs : a.spot with
    | none => rfl
    | some _ => rw [hs] at h; simp at h
  · cases h
theorem addr_plain {a : Addr} (h : a.spot = none) : a = ⟨a.block, a.off, none⟩ := by cases a; simp_all
theorem add_mk (b o n : Nat) : (⟨b, o, none⟩ : Addr).add n = ⟨b, o + n, none⟩ := by unfold Addr.add; split <;> simp_all

section
variable {H : Type} {enc : TypeId × Value → H} {W : World}

theorem open_intsR {fuel : Nat} {v : Value} {y : DataW H × List MemPlace} (h : DataW.trod enc Try.prog W 0 (fun _ => true) true fuel 32 [v] = some y) :
    ∃ nums, IntsR W v nums ∧ (∀ b off n c, v = .slice (some ⟨b, off, none⟩) n c → 0 < n → b < W.heap.size) ∧ ∀ z ∈ nums, (Lit.int .i64 z).wf = true := by
  rcases open_ints Try.underlying32 Try.underlying3 cells_int h with ⟨hcs, _⟩ | ⟨a, len, cap, zs, hcs, _, hl, hm, hz, _, hc, hw⟩
  · simp at hcs; subst hcs
    exact ⟨[], ⟨none, 0, rfl, by simp, by simp, by simp⟩, fun _ _ _ _ e => (by cases e), by simp⟩
  · simp at hcs; subst hcs
    simp only [if_true] at hz
    have hlen : (zs.take len).length = len := by simp; omega
    unfold maxLen at hm
    refine ⟨zs.take len, ⟨some a, cap, by rw [hlen], by omega, by omega, fun h0 => ?_⟩, fun b off n c e h0 => ?_, fun z hz => hw z (List.mem_of_mem_take hz)⟩
    · have h1 : len ≤ zs.length := by omega
      have s0 := spot_none (hc 0 (by omega))
      have hsp : a.spot = none := by simpa [Addr.add] using s0
      refine ⟨a.block, a.off, congrArg some (addr_plain hsp), fun i hi => ?_⟩
      have := hc i (by omega)
      rw [addr_plain hsp, add_mk] at this
      rw [this]
      simp [List.getD_eq_getElem?_getD, show i < len by omega]
    · cases e
      have := hc 0 (by omega)
      exact World.block_lt_of_cell? _ _ (by simpa [Addr.add] using this)

theorem open_act {n : Nat} {b off : Nat} {cs : List Value} {y : DataW H × List MemPlace} (hc : ∀ j, j < 7 → W.cell? ⟨b, off + j, none⟩ = cs[j]?) (hb : b < W.heap.size)
    (h : DataW.trod enc Try.prog W 0 (fun _ => true) true n 34 cs = some y) : ∃ x : Ac, b < W.heap.size ∧
    W.cell? ⟨b, off, none⟩ = some (.string x.op) ∧ W.cell? ⟨b, off + 1, none⟩ = some (.bool x.second) ∧ W.cell? ⟨b, off + 2, none⟩ = some (.string x.bytes) ∧
    W.cell? ⟨b, off + 3, none⟩ = some (.int .i64 x.file) ∧ W.cell? ⟨b, off + 4, none⟩ = some (.int .i64 x.at_) ∧ W.cell? ⟨b, off + 5, none⟩ = some (.int .i64 x.by_) ∧
    W.cell? ⟨b, off + 6, none⟩ = some x.lv ∧ x.op.size ≤ maxLen ∧ x.bytes.size ≤ maxLen ∧ (Lit.int .i64 x.file).wf = true ∧ (Lit.int .i64 x.at_).wf = true ∧ (Lit.int .i64 x.by_).wf = true ∧
    (IntsR W x.lv x.nums ∧ (∀ b off n c, x.lv = .slice (some ⟨b, off, none⟩) n c → 0 < n → b < W.heap.size) ∧ ∀ z ∈ x.nums, (Lit.int .i64 z).wf = true) := by
  obtain ⟨xs, m, rfl, _, hl, hx, hf⟩ := DataW.trod_struct Try.underlying34 h
  rw [cells_act] at hl
  obtain ⟨v0, v1, v2, v3, v4, v5, v6, rfl⟩ := list7 hl
  have hx7 : xs.length = 7 := hx
  have e0 := hf 0 _ rfl
  have e1 := hf 1 _ rfl
  have e2 := hf 2 _ rfl
  have e3 := hf 3 _ rfl
  have e4 := hf 4 _ rfl
  have e5 := hf 5 _ rfl
  have e6 := hf 6 _ rfl
  simp only [List.getElem_toArray, List.getElem_cons_zero, List.getElem_cons_succ, cells_string, cells_bool, cells_int, cells_ints, List.drop_zero, List.drop_succ_cons, List.take_succ_cons, List.take_zero] at e0 e1 e2 e3 e4 e5 e6
  rw [List.getElem?_eq_getElem (by omega)] at e0 e1 e2 e3 e4 e5 e6
  obtain ⟨s0, h0, -, w0⟩ := DataW.trod_string Try.underlying9 e0
  obtain ⟨s1, h1, -⟩ := DataW.trod_bool Try.underlying4 e1
  obtain ⟨s2, h2, -, w2⟩ := DataW.trod_string Try.underlying9 e2
  obtain ⟨s3, h3, -, w3⟩ := DataW.trod_int Try.underlying3 e3
  obtain ⟨s4, h4, -, w4⟩ := DataW.trod_int Try.underlying3 e4
  obtain ⟨s5, h5, -, w5⟩ := DataW.trod_int Try.underlying3 e5
  obtain ⟨nums, h6, h7⟩ := open_intsR e6
  simp only [List.cons.injEq, and_true] at h0 h1 h2 h3 h4 h5
  subst h0 h1 h2 h3 h4 h5
  exact ⟨⟨s0, s1, s2, s3, s4, s5, v6, nums⟩, hb, hc 0 (by omega), hc 1 (by omega), hc 2 (by omega), hc 3 (by omega), hc 4 (by omega), hc 5 (by omega), hc 6 (by omega), w0, w2, w3, w4, w5, h6, h7⟩

theorem open_acts {a : Option Addr} {len cap : Nat} {d : DataW H} {p : List MemPlace} (h : DataW.Trod enc Try.prog W 0 (fun _ => true) true 22 (.slice a len cap) d p) : ∃ xs, ActsB W.heap.size W a len xs := by
  obtain ⟨fuel, hf⟩ := h
  rcases open_slice Try.underlying22 hf with ⟨hcs, _⟩ | ⟨a', len', cap', m, nn, D, Pl, hcs, _, hl, hm, hmm, _, hel⟩
  · simp [Value.cells] at hcs
    obtain ⟨rfl, rfl, rfl⟩ := hcs
    exact ⟨[], rfl, by simp, fun i x hx => by simp at hx⟩
  · simp [Value.cells] at hcs
    obtain ⟨rfl, rfl, rfl⟩ := hcs
    simp only [if_true] at hmm
    subst hmm
    rw [cells_act] at hel
    unfold maxLen at hm
    have key : ∀ i, i < len → ∃ x : Ac, ∃ b off, some a' = some (⟨b, off, none⟩ : Addr) ∧ b < W.heap.size ∧
      W.cell? ⟨b, off + i * 7, none⟩ = some (.string x.op) ∧ W.cell? ⟨b, off + i * 7 + 1, none⟩ = some (.bool x.second) ∧ W.cell? ⟨b, off + i * 7 + 2, none⟩ = some (.string x.bytes) ∧
      W.cell? ⟨b, off + i * 7 + 3, none⟩ = some (.int .i64 x.file) ∧ W.cell? ⟨b, off + i * 7 + 4, none⟩ = some (.int .i64 x.at_) ∧ W.cell? ⟨b, off + i * 7 + 5, none⟩ = some (.int .i64 x.by_) ∧
      W.cell? ⟨b, off + i * 7 + 6, none⟩ = some x.lv ∧ x.op.size ≤ maxLen ∧ x.bytes.size ≤ maxLen ∧ (Lit.int .i64 x.file).wf = true ∧ (Lit.int .i64 x.at_).wf = true ∧ (Lit.int .i64 x.by_).wf = true ∧
      (IntsR W x.lv x.nums ∧ (∀ b off n c, x.lv = .slice (some ⟨b, off, none⟩) n c → 0 < n → b < W.heap.size) ∧ ∀ z ∈ x.nums, (Lit.int .i64 z).wf = true) := by
      intro i hi
      obtain ⟨c0, g1, g2⟩ := hel 0 (by omega)
      obtain ⟨_, g3, g4⟩ := World.cells?_some g1
      have q0 := g4 0 (by omega)
      rw [List.getElem?_eq_getElem (by omega)] at q0
      have hsp : a'.spot = none := by simpa [Addr.add] using spot_none q0
      have hblk : a'.block < W.heap.size := by
        have := World.block_lt_of_cell? _ _ q0
        simpa [Addr.add] using this
      obtain ⟨cs, k1, k2⟩ := hel i (by omega)
      obtain ⟨_, k3, k4⟩ := World.cells?_some k1
      rw [addr_plain hsp, add_mk] at k4
      obtain ⟨x, hx⟩ := open_act (b := a'.block) (off := a'.off + i * 7) (fun j hj => by have := k4 j hj; rw [add_mk] at this; exact this) hblk k2
      exact ⟨x, a'.block, a'.off, congrArg some (addr_plain hsp), hx⟩
    obtain ⟨f, hf'⟩ := choose_lt key
    refine ⟨(List.range len).map f, by simp, by omega, fun i x hx => ?_⟩
    have hi : i < len := by
      have := (List.getElem?_eq_some_iff.1 hx).1
      simpa using this
    simp [hi] at hx
    subst hx
    exact hf' i hi

end
end Go.Proofs.Ytggkhgpdnjkfcaa
