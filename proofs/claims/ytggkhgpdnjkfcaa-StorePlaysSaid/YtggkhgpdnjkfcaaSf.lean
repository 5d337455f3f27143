/-
  Walks: package store at a nil store and at one that New did not return; SameInts.
-/
import Derived.Test.YtggkhgpdnjkfcaaSe
namespace Go.Proofs.Ytggkhgpdnjkfcaa
open Go.RowKit Go.Maps

set_option maxRecDepth 100000 in
theorem put_nil (x : ByteArray) (w : World) :
    Calls Try.prog 12 #[.pointer none, .string x] w fun e w' => e = .returned (.tuple #[.int .i64 0, .int .i64 7]) ∧ w = w' := by
  go_enter Try.func12, Try.ntmps12
  go_wp2_with (go_at_call 24; refine (made_nil _).mono ?_; rintro e w' ⟨rfl, rfl⟩)
  go_ret2
  exact ⟨rfl, rfl⟩
set_option maxRecDepth 100000 in
theorem get_zero (b : Nat) (k : Int) (w : World) (c0 : w.cell? ⟨b, 0, none⟩ = some (.map none)) :
    Calls Try.prog 13 #[.pointer (some ⟨b, 0, none⟩), .int .i64 k] w fun e w' => e = .returned (.tuple #[.string ⟨#[]⟩, .int .i64 7]) ∧ w = w' := by
  go_enter Try.func13, Try.ntmps13
  go_wp2_with (go_at_call 24; refine (made_zero _ _ c0).mono ?_; rintro e w' ⟨rfl, rfl⟩)
  go_ret2
  exact ⟨rfl, rfl⟩
set_option maxRecDepth 100000 in
theorem files_nil (w : World) :
    Calls Try.prog 14 #[.pointer none] w fun e w' => e = .returned (.slice none 0 0) ∧ w = w' := by
  go_enter Try.func14, Try.ntmps14
  go_wp2_with (go_at_call 24; refine (made_nil _).mono ?_; rintro e w' ⟨rfl, rfl⟩)
  go_ret
  exact ⟨rfl, rfl⟩
set_option maxRecDepth 100000 in
theorem most_zero (b : Nat) (w : World) (c0 : w.cell? ⟨b, 0, none⟩ = some (.map none)) :
    Calls Try.prog 11 #[.pointer (some ⟨b, 0, none⟩)] w fun e w' => e = .returned (.int .i64 0) ∧ w = w' := by
  go_enter Try.func11, Try.ntmps11
  go_wp2_with (go_at_call 24; refine (made_zero _ _ c0).mono ?_; rintro e w' ⟨rfl, rfl⟩)
  go_ret
  exact ⟨rfl, rfl⟩
set_option maxRecDepth 100000 in
theorem copy_zero (b mb b2 : Nat) (k : Int) (w : World) (c0 : w.cell? ⟨b, 0, none⟩ = some (.map (some mb))) (c2 : w.cell? ⟨b2, 0, none⟩ = some (.map none)) :
    Calls Try.prog 15 #[.pointer (some ⟨b, 0, none⟩), .pointer (some ⟨b2, 0, none⟩), .int .i64 k] w fun e w' => e = .returned (.int .i64 3) ∧ w = w' := by
  go_enter Try.func15, Try.ntmps15
  go_wp2_with fail
  refine (made_yes _ _ _ c0).mono ?_
  rintro e w' ⟨rfl, rfl⟩
  go_wp2_with fail
  refine (made_zero _ _ c2).mono ?_
  rintro e w' ⟨rfl, rfl⟩
  go_wp2_with fail
  go_ret
  exact ⟨rfl, rfl⟩
set_option maxRecDepth 100000 in
theorem clone_nil (w : World) :
    Calls Try.prog 17 #[.pointer none] w fun e w' => e = .returned (.pointer none) ∧ w = w' := by
  go_enter Try.func17, Try.ntmps17
  go_wp2_with (go_at_call 24; refine (made_nil _).mono ?_; rintro e w' ⟨rfl, rfl⟩)
  go_ret
  exact ⟨rfl, rfl⟩

/-- A slice of ints that can be read. -/
def IntsR (w : World) (v : Value) (xs : List Int) : Prop :=
  ∃ a c, v = .slice a xs.length c ∧ xs.length ≤ 9223372036854775807 ∧ xs.length ≤ c ∧ (0 < xs.length → ∃ b off, a = some ⟨b, off, none⟩ ∧ ∀ i, i < xs.length → w.cell? ⟨b, off + i, none⟩ = some (.int .i64 (xs.getD i 0)))
theorem IntsR.of_own {w : World} {base e n : Nat} {v : Value} {xs : List Int} (h : w.ownsRow base e 1 v n (xs.map (Value.int .i64))) (hn : xs.length = n) (hl : xs.length ≤ 9223372036854775807) : IntsR w v xs := by
  subst hn
  rcases h.2 with ⟨rfl, h0⟩ | ⟨g, cap, cur, rfl, hbase, hgb, r1, r2, r3, r4⟩
  · have : xs = [] := List.eq_nil_of_length_eq_zero h0
    subst this
    exact ⟨none, 0, rfl, by simp, by simp, fun h => absurd h (by simp)⟩
  · refine ⟨_, cap, rfl, hl, by omega, fun _ => ⟨g, 0, rfl, fun i hi => ?_⟩⟩
    have hc := h.cells (g := g) rfl i (.int .i64 (xs.getD i 0)) (by simp [List.getElem?_eq_getElem hi, List.getD_eq_getElem?_getD])
    have ha : (⟨g, 0, none⟩ : Addr).add i = ⟨g, 0 + i, none⟩ := by unfold Addr.add; split <;> simp_all
    rwa [ha] at hc
theorem IntsR.fr {S : List Nat} {w w' : World} {v : Value} {xs : List Int} (h : IntsR w v xs) (hf : Fr S w w') (hS : ∀ b off n c, v = .slice (some ⟨b, off, none⟩) n c → b ∉ S) : IntsR w' v xs := by
  obtain ⟨a, c, rfl, h1, h2, h3⟩ := h
  refine ⟨a, c, rfl, h1, h2, fun h0 => ?_⟩
  obtain ⟨b, off, rfl, hc⟩ := h3 h0
  refine ⟨b, off, rfl, fun i hi => ?_⟩
  rw [hf.cell (World.block_lt_of_cell? _ _ (hc i hi)) (hS b off _ _ rfl)]
  exact hc i hi

theorem take_eq_all {xs ys : List Int} (hl : xs.length = ys.length) {k : Nat} (hk : xs.length ≤ k) (h : xs.take k = ys.take k) : xs = ys := by
  rw [List.take_of_length_le hk, List.take_of_length_le (by omega)] at h; exact h
theorem take_ne {xs ys : List Int} {k : Nat} (h : xs.getD k 0 ≠ ys.getD k 0) : xs ≠ ys := fun e => h (by rw [e])
theorem take_more {xs ys : List Int} {k : Nat} (hx : k < xs.length) (hy : k < ys.length) (h : xs.take k = ys.take k) (e : xs.getD k 0 = ys.getD k 0) : xs.take (k + 1) = ys.take (k + 1) := by
  rw [List.take_succ_eq_append_getElem hx, List.take_succ_eq_append_getElem hy, h]
  simp [List.getD_eq_getElem?_getD, List.getElem?_eq_getElem hx, List.getElem?_eq_getElem hy] at e
  rw [e]

set_option maxRecDepth 100000 in
theorem same_any (va vb : Value) (xs ys : List Int) (w : World) (ha : IntsR w va xs) (hb : IntsR w vb ys) :
    Calls Try.prog 16 #[va, vb] w fun e w' => e = .returned (.bool (decide (xs = ys))) ∧ Fr [] w w' := by
  obtain ⟨a, c, rfl, h1, h2, h3⟩ := ha
  obtain ⟨a', c', rfl, k1, k2, k3⟩ := hb
  by_cases hl : xs.length = ys.length
  · have hlb : (((xs.length : Nat) : Int) != ((ys.length : Nat) : Int)) = false := by simp [hl]
    have HL := hid hl
    have H3 := hid h3
    have K3 := hid k3
    clear hl h3 k3
    go_enter Try.func16, Try.ntmps16
    go_wp2
    go_loopw [5] (fun i wr => ∃ k : Nat, i = .int .i64 k ∧ k ≤ xs.length ∧ xs.take k = ys.take k ∧ ∃ q, wr = w.drewN q) (fun i _ => xs.length - (intOf i).toNat)
    case atStart => exact ⟨0, rfl, Nat.zero_le _, rfl, 0, rfl⟩
    case round =>
      obtain ⟨k, rfl, hk, ht, q, rfl⟩ := hrel
      have HT := hid ht
      clear ht
      by_cases hlt : k < xs.length
      · obtain ⟨b, off, rfl, hc⟩ := H3.out (by omega)
        obtain ⟨b', off', rfl, hc'⟩ := K3.out (by have := HL.out; omega)
        have d1 := hc k hlt
        have d2 := hc' k (by have := HL.out; omega)
        have hlt2 : k < ys.length := by have := HL.out; omega
        clear hc hc'
        generalize hx : xs.getD k 0 = x at d1
        generalize hy : ys.getD k 0 = y at d2
        have HX := hid hx
        have HY := hid hy
        clear hx hy
        go_wp2_with fail
        go_quiet (fail)
        by_cases hxy : x = y
        · have hxb : (x != y) = false := by simp [hxy]
          have HXY := hid hxy
          clear hxy
          go_wp2
          go_roundw
          case rel => exact ⟨k + 1, by go_num, by omega, take_more hlt hlt2 HT.out (by rw [HX.out, HY.out, HXY.out]), _, rfl⟩
          case measure => simp [intOf]; omega
        · have hxb : (x != y) = true := by simp [hxy]
          have HXY := hid hxy
          clear hxy
          go_wp2
          go_ret
          refine ⟨?_, ?_⟩
          · have e0 := decide_eq_false (take_ne (xs := xs) (ys := ys) (k := k) (by rw [HX.out, HY.out]; exact HXY.out))
            show Ending.returned (.bool false) = _
            rw [e0]
          · exact ((Fr.refl [] w).drewN q).drewN _
      · go_wp2
        go_ret
        refine ⟨?_, (Fr.refl [] w).drewN q⟩
        show Ending.returned (.bool true) = _
        rw [decide_eq_true (take_eq_all HL.out (by omega) HT.out)]
  · have hlb : (((xs.length : Nat) : Int) != ((ys.length : Nat) : Int)) = true := by simp; omega
    have hne : decide (xs = ys) = false := decide_eq_false (fun e => hl (by rw [e]))
    rw [hne]
    clear hl h3 k3 hne
    go_enter Try.func16, Try.ntmps16
    go_wp2
    go_ret
    exact ⟨rfl, Fr.refl _ _⟩

end Go.Proofs.Ytggkhgpdnjkfcaa
