/-
  Walk of package store: Missing.
-/
import Derived.Test.YtggkhgpdnjkfcaaSf
import Derived.Test.YtggkhgpdnjkfcaaSt
namespace Go.Proofs.Ytggkhgpdnjkfcaa
open Go.RowKit Go.Maps Go.Sort Go.Shelf

/-- Row g holds the numbers xs from its head on, not frozen. -/
def HoldsL (w : World) (g : Nat) (xs : List Int) : Prop := ∀ j, j < xs.length → w.cell? ⟨g, 0 + j, none⟩ = some (.int .i64 (xs.getD j 0)) ∧ w.frozen? ⟨g, 0 + j, none⟩ = false
theorem HoldsL.holds {w : World} {g : Nat} {xs : List Int} (h : HoldsL w g xs) : Holds (Value.int .i64) w g 0 xs.toArray := fun j hj => by
  have hj' : j < xs.length := by simpa using hj
  rw [getElem!_pos _ j hj]
  have := h j hj'
  rw [List.getD_eq_getElem?_getD, List.getElem?_eq_getElem hj'] at this
  simpa using this
theorem HoldsL.of {w : World} {g : Nat} {xs : List Int} (h : Holds (Value.int .i64) w g 0 xs.toArray) : HoldsL w g xs := fun j hj => by
  have := h j (by simpa using hj)
  rw [getElem!_pos _ j (by simpa using hj)] at this
  rw [List.getD_eq_getElem?_getD, List.getElem?_eq_getElem hj]
  simpa using this
theorem HoldsL.left {w : World} {g : Nat} {xs ys : List Int} (h : HoldsL w g (xs ++ ys)) : HoldsL w g xs := fun j hj => by
  have := h j (by simp; omega)
  rw [List.getD_eq_getElem?_getD, List.getElem?_append_left hj] at this
  rw [List.getD_eq_getElem?_getD]; exact this
theorem HoldsL.put {w : World} {g : Nat} {xs ys : List Int} (h : HoldsL w g xs) (hl : ys.length = xs.length) (q : Nat) : HoldsL (putRow (Value.int .i64) (Sort.ahead w q) g 0 ys.toArray) g ys :=
  HoldsL.of (holds_putRow _ _ g 0 xs.toArray ys.toArray (holds_ahead _ _ _ _ _ _ h.holds) (by simpa using hl))
theorem fr_putRow {α : Type} [Inhabited α] {enc : α → Value} {S : List Nat} {w w' : World} (h : Fr S w w') {g : Nat} (hg : g ∈ S ∨ w.heap.size ≤ g) (q off : Nat) (d : Array α) : Fr S w (putRow enc (Sort.ahead w' q) g off d) := by
  refine ⟨h.os, h.tape, h.output, by rw [size_putRow]; exact h.size, fun k hk hS => ?_⟩
  rw [← h.block k hk hS]
  have hne : k ≠ g := by rintro rfl; rcases hg with h1 | h1; exact hS h1; omega
  show (mapBlock (Sort.ahead w' q) g _).heap[k]? = _
  unfold mapBlock
  simp only [Array.getElem?_modify]
  rw [if_neg (by omega)]; rfl
theorem fr_grow {S : List Nat} {w w' : World} (h : Fr S w w') (os : Array Obj) : Fr S w (Sort.grow w' os) :=
  ⟨h.os, h.tape, h.output, by have := h.size; simp; omega, fun k hk hS => by
    rw [heap_grow_old w' os (Nat.lt_of_lt_of_le hk h.size)]; exact h.block k hk hS⟩

/-- The numbers of the kind. -/
abbrev W64 := { x : Int // (Lit.int .i64 x).wf = true }
instance : Inhabited W64 := ⟨⟨0, by decide⟩⟩
def encW (x : W64) : Value := .int .i64 x.1
theorem holdsW {w : World} {g : Nat} {xs : List W64} (h : HoldsL w g (xs.map (·.1))) : Holds encW w g 0 xs.toArray := fun j hj => by
  have hj' : j < xs.length := by simpa using hj
  have := h j (by simpa using hj')
  rw [getElem!_pos _ j hj]
  rw [List.getD_eq_getElem?_getD, List.getElem?_map, List.getElem?_eq_getElem hj'] at this
  simpa [encW] using this
theorem holdsW' {w : World} {g : Nat} {xs : List W64} (h : Holds encW w g 0 xs.toArray) : HoldsL w g (xs.map (·.1)) := fun j hj => by
  have hj' : j < xs.length := by simpa using hj
  have := h j (by simpa using hj')
  rw [getElem!_pos _ j (by simpa using hj')] at this
  rw [List.getD_eq_getElem?_getD, List.getElem?_map, List.getElem?_eq_getElem hj']
  simpa [encW] using this

/-- The numbers for which there is no file, as Missing gives them. -/
def missL (s : St) (zs : List Int) : List Int := zs.filter fun z => !(lget s.files z).isSome
def missing (s : St) (zs : List Int) : List Int := Lib.compact ((missL s zs).mergeSort fun x y => decide (x ≤ y))

set_option maxRecDepth 100000 in
theorem closure_any (b mb : Nat) (s : St) (B : Nat) (x : Int) (hx : (Lit.int .i64 x).wf = true) (w : World) (h : StoreAt w b mb s) (hB : w.cell? ⟨B, 0, none⟩ = some (.pointer (some ⟨b, 0, none⟩))) :
    Calls Try.prog 39 #[.int .i64 x, .pointer (some ⟨B, 0, none⟩)] w fun e w' => e = .returned (.bool (lget s.files x).isSome) ∧ w' = w := by
  have c0 := h.c0
  have hl := h.map.look hx
  clear h hx
  generalize (lget s.files x).isSome = r at hl ⊢
  go_enter Try.func39, Try.ntmps39
  go_wp2
  go_ret
  exact ⟨rfl, rfl⟩

/-- slices.Clone of a slice that is not nil. -/
theorem clone_ints (ad : Addr) (n c : Nat) (zs : List Int) (w : World) (h : IntsR w (.slice (some ad) n c) zs) (hn : n ≤ 1000) :
    Calls Try.prog 38 #[.slice (some ad) n c] w fun e w' => ∃ g cap, e = .returned (.slice (some ⟨g, 0, none⟩) n cap) ∧ n ≤ cap ∧ w.heap.size ≤ g ∧ g < w'.heap.size ∧ HoldsL w' g zs ∧ Fr [] w w' := by
  obtain ⟨a, c', e, h1, h2, h3⟩ := h
  have hn' : zs.length = n := by injection e with _ e2 _; exact e2.symm
  have key : ∀ (v' : Value) (w' : World), w'.ownsRow w.heap.size 3 1 v' n (zs.map (Value.int .i64)) → v' ≠ .slice none 0 0 → Below w.heap.size w w' →
      ∃ g cap, v' = .slice (some ⟨g, 0, none⟩) n cap ∧ n ≤ cap ∧ w.heap.size ≤ g ∧ g < w'.heap.size ∧ HoldsL w' g zs ∧ Fr [] w w' := by
    intro v' w' hrow hne hb
    have hrow' := hrow
    rcases hrow.2 with ⟨rfl, _⟩ | ⟨g, cap, cur, rfl, hbase, hgb, r1, r2, r3, r4⟩
    · exact absurd rfl hne
    · refine ⟨g, cap, rfl, by omega, hbase, (Array.getElem?_eq_some_iff.1 hgb).1, fun j hj => ?_, Fr.of_below hb⟩
      have hc := hrow'.cells (g := g) rfl j (.int .i64 (zs.getD j 0)) (by simp [List.getElem?_eq_getElem hj, List.getD_eq_getElem?_getD])
      have ha : (⟨g, 0, none⟩ : Addr).add j = ⟨g, 0 + j, none⟩ := by unfold Addr.add; split <;> simp_all
      rw [ha] at hc
      exact ⟨hc, by simp [World.frozen?, hgb]⟩
  by_cases h0 : n = 0
  · subst h0
    have hz : zs = [] := List.eq_nil_of_length_eq_zero hn'
    have hc := Any.slices_Clone_int_zero Try.laysNm215 ad c w
    change Calls Try.prog 38 _ _ _ at hc
    refine hc.mono fun e w' ⟨v', he, hrow, hne, hb⟩ => ?_
    obtain ⟨g, cap, rfl, r⟩ := key v' w' (by rw [hz]; exact hrow) hne hb
    exact ⟨g, cap, he, r⟩
  · obtain ⟨b, off, ea, hcell⟩ := h3 (by omega)
    injection e with e1 e2 e3
    rw [ea] at e1
    injection e1 with e1
    subst e1
    have hc := Any.slices_Clone_int Try.laysNm215 b off n c zs w (by omega) (by omega) hcell
    change Calls Try.prog 38 _ _ _ at hc
    refine hc.mono fun e w' ⟨v', he, hrow, hne, hb⟩ => ?_
    rw [List.take_of_length_le (by omega)] at hrow
    obtain ⟨g, cap, rfl, r⟩ := key v' w' hrow hne hb
    exact ⟨g, cap, he, r⟩

/-- slices.DeleteFunc with the closure. -/
theorem delete_ints (b mb : Nat) (s : St) (B g cap : Nat) (zs : List Int) (hwf : ∀ z ∈ zs, (Lit.int .i64 z).wf = true) (w : World) (h : StoreAt w b mb s) (hB : w.cell? ⟨B, 0, none⟩ = some (.pointer (some ⟨b, 0, none⟩))) (hg : g ≠ b ∧ g ≠ mb ∧ g ≠ B)
    (hz : zs.length ≤ 1000) (hcap : zs.length ≤ cap) (hH : HoldsL w g zs) :
    Calls Try.prog 37 #[.slice (some ⟨g, 0, none⟩) zs.length cap, .func (.func 39) #[] #[.pointer (some ⟨B, 0, none⟩)]] w fun e w' =>
      e = .returned (.slice (some ⟨g, 0, none⟩) (missL s zs).length cap) ∧ HoldsL w' g (missL s zs) ∧ Fr [g] w w' := by
  have eg : ∀ args w, (callFunc 39 args).run Try.prog w = .ok (.enter 39 args) w := enters_of Try.func39 (by kernel_rfl) rfl
  obtain ⟨xs, rfl⟩ : ∃ xs : List W64, zs = xs.map (·.1) := ⟨zs.attach.map fun z => ⟨z.1, hwf z.1 z.2⟩, by simp⟩
  have gives : ∀ (W : World) (x : W64), StoreAt W b mb s → W.cell? ⟨B, 0, none⟩ = some (.pointer (some ⟨b, 0, none⟩)) → FnGives Try.prog 39 #[.pointer (some ⟨B, 0, none⟩)] #[encW x] (.bool (lget s.files x.1).isSome) W := by
    intro W x hS hc
    show Calls Try.prog 39 #[.int .i64 x.1, .pointer (some ⟨B, 0, none⟩)] W _
    refine (closure_any b mb s B x.1 x.2 W hS hc).mono fun e w' ⟨h1, h2⟩ => ⟨h1, 0, h2⟩
  have hBl := World.block_lt_of_cell? _ _ hB
  have hpa : PredAt Try.prog 39 #[.pointer (some ⟨B, 0, none⟩)] encW (fun x => (lget s.files x.1).isSome) w := fun W x hb =>
    gives W x (h.fr (Fr.of_below (S := []) hb) (by simp) (by simp)) ((hb.cell (p := ⟨B, 0, none⟩) hBl).trans hB)
  have hpo : PredOver Try.prog 39 #[.pointer (some ⟨B, 0, none⟩)] encW (fun x => (lget s.files x.1).isSome) g 0 xs.toArray.size w := fun n os dk x _ => by
    have hf : Fr [g] w (sortWorld encW w g 0 n dk os) := by
      unfold sortWorld
      exact fr_grow (fr_putRow (Fr.refl [g] w) (.inl (List.mem_singleton.2 rfl)) n 0 dk) os
    exact gives _ x (h.fr hf (by simp; omega) (by simp; omega)) ((hf.cell (p := ⟨B, 0, none⟩) hBl (by simp; omega)).trans hB)
  have hl : xs.length ≤ 1000 := by simpa using hz
  have hcon := AnyE.slices_DeleteFunc Try.delA encW (fun _ => rfl) (fun x => (lget s.files x.1).isSome) 39 #[.pointer (some ⟨B, 0, none⟩)] eg ⟨0, by decide⟩ (fun w => Try.zeroValue3 w) g 0 cap xs.toArray w hpa hpo (holdsW hH) (by simp; omega) (by simpa using hcap)
  change Calls Try.prog 37 _ _ _ at hcon
  have e1 : xs.toArray.size = (xs.map (·.1)).length := by simp
  rw [← e1]
  have e2 : missL s (xs.map (·.1)) = (xs.filter fun x => !(lget s.files x.1).isSome).map (·.1) := by
    unfold missL; rw [List.filter_map]; rfl
  refine hcon.mono fun e w' ⟨he, q, hw⟩ => ?_
  refine ⟨by rw [he, e2, List.length_map], ?_, by subst hw; exact fr_putRow (Fr.refl [g] w) (.inl (List.mem_singleton.2 rfl)) q 0 _⟩
  subst hw
  have hlen := List.length_filter_le (fun x : W64 => !(lget s.files x.1).isSome) xs
  have := holdsW' (w := putRow encW (Sort.ahead w q) g 0 ((xs.filter fun x => !(lget s.files x.1).isSome) ++ List.replicate (xs.length - (xs.filter fun x => !(lget s.files x.1).isSome).length) (⟨0, by decide⟩ : W64)).toArray)
    (holds_putRow encW _ g 0 xs.toArray _ (holds_ahead _ _ _ _ _ _ (holdsW hH)) (by rw [List.size_toArray, List.length_append, List.length_replicate, List.size_toArray]; omega))
  rw [List.map_append] at this
  rw [e2]
  exact this.left

theorem sort_ints (g cap : Nat) (zs : List Int) (w : World) (hH : HoldsL w g zs) (hg : g < w.heap.size) (hz : zs.length ≤ 1000) :
    Calls Try.prog 40 #[.slice (some ⟨g, 0, none⟩) zs.length cap] w fun e w' => e = .returned (.tuple #[]) ∧ HoldsL w' g (zs.mergeSort fun x y => decide (x ≤ y)) ∧ Fr [g] w w' := by
  have hcon := AnyM.slices_Sort_int Try.sortA g 0 cap zs w hH.holds hg (by omega)
  change Calls Try.prog 40 _ _ _ at hcon
  refine hcon.mono fun e w' ⟨he, q, os, hw⟩ => ⟨he, ?_, ?_⟩
  · subst hw
    have h1 := hH.put (ys := zs.mergeSort fun x y => decide (x ≤ y)) (by simp) q
    intro j hj
    have h2 := h1 j hj
    have hs : g < (putRow (Value.int .i64) (Sort.ahead w q) g 0 (zs.mergeSort fun x y => decide (x ≤ y)).toArray).heap.size := by rw [size_putRow]; exact hg
    rw [cell?_grow _ _ _ (by exact hs), frozen?_grow _ _ _ (by exact hs)]
    exact h2
  · subst hw
    exact fr_grow (fr_putRow (Fr.refl [g] w) (.inl (List.mem_singleton.2 rfl)) q 0 _) os
theorem compact_ints (g cap : Nat) (zs : List Int) (w : World) (hH : HoldsL w g zs) (hz : zs.length ≤ 1000) (hcap : zs.length ≤ cap) :
    Calls Try.prog 41 #[.slice (some ⟨g, 0, none⟩) zs.length cap] w fun e w' => e = .returned (.slice (some ⟨g, 0, none⟩) (Lib.compact zs).length cap) ∧ HoldsL w' g (Lib.compact zs) ∧ Fr [g] w w' := by
  have hcon := Any.slices_Compact_int Try.laysNm220 g 0 cap zs w hH.holds (by omega) hcap
  change Calls Try.prog 41 _ _ _ at hcon
  have hle : (Lib.compact zs).length ≤ zs.length := by
    unfold Lib.compact Lib.compactUpTo
    rw [List.length_map]
    exact Nat.le_trans (List.length_filter_le _ _) (by simp)
  refine hcon.mono fun e w' ⟨he, q, hw⟩ => ⟨he, ?_, ?_⟩
  · subst hw
    exact (hH.put (ys := Lib.compact zs ++ List.replicate (zs.length - (Lib.compact zs).length) 0) (by simp; omega) q).left
  · subst hw
    exact fr_putRow (Fr.refl [g] w) (.inl (List.mem_singleton.2 rfl)) q 0 _

theorem missL_len (s : St) (zs : List Int) : (missL s zs).length ≤ zs.length := List.length_filter_le _ _

set_option maxRecDepth 100000 in
theorem missing_nil (b mb : Nat) (s : St) (c : Nat) (w : World) (h : StoreAt w b mb s) :
    Calls Try.prog 21 #[.pointer (some ⟨b, 0, none⟩), .slice none 0 c] w fun e w' => e = .returned (.slice none 0 0) ∧ Fr [] w w' := by
  have H1 : StoreAt (w.alloc (.cells #[.pointer (some ⟨b, 0, none⟩)] 25)) b mb s := h.fr ((Fr.refl [] w).alloc _) (by simp) (by simp)
  have c0 := H1.c0
  have c1 := Any.slices_Clone_int_nil Try.laysNm215 0 c (w.alloc (.cells #[.pointer (some ⟨b, 0, none⟩)] 25))
  change Calls Try.prog 38 _ _ _ at c1
  have c2 : ∀ fv W, Calls Try.prog 37 #[.slice none 0 0, fv] W fun e w' => e = .returned (.slice none 0 0) ∧ w' = W := by
    intro fv W
    have ci := AnyE.slices_IndexFunc_empty Try.idxA none 0 fv W
    change Calls Try.prog 49 _ _ _ at ci
    go_enter Try.func37, Try.ntmps37
    go_wp2_with (go_at_call 49; refine ci.mono ?_; rintro e w' ⟨rfl, rfl⟩)
    go_ret
    exact ⟨rfl, rfl⟩
  have c3 : ∀ W, Calls Try.prog 40 #[.slice none 0 0] W fun e w' => e = .returned (.tuple #[]) ∧ w' = W := fun W => AnyM.slices_Sort_int_none Try.sortA none 0 W
  have c4 : ∀ W, Calls Try.prog 41 #[.slice none 0 0] W fun e w' => e = .returned (.slice none 0 0) ∧ w' = W := fun W => Any.slices_Compact_int_empty Try.laysNm220 none 0 W
  have C1 := hid c1
  have C2 := hid c2
  have C3 := hid c3
  have C4 := hid c4
  clear h H1 c1 c2 c3 c4
  go_enter Try.func21, Try.ntmps21
  go_wp2_with fail
  refine (made_yes _ _ _ c0).mono ?_
  rintro e w' ⟨rfl, rfl⟩
  go_wp2_with fail
  refine C1.out.mono ?_
  rintro e w' ⟨rfl, rfl⟩
  go_wp2_with fail
  refine (C2.out _ _).mono ?_
  rintro e w' ⟨rfl, rfl⟩
  go_wp2_with fail
  refine (C3.out _).mono ?_
  rintro e w' ⟨rfl, rfl⟩
  go_wp2_with fail
  refine (C4.out _).mono ?_
  rintro e w' ⟨rfl, rfl⟩
  go_wp2_with fail
  go_ret
  exact ⟨rfl, (Fr.refl [] w).alloc _⟩

set_option maxRecDepth 100000 in
theorem missing_some (b mb : Nat) (s : St) (ad : Addr) (n c : Nat) (zs : List Int) (hwf : ∀ z ∈ zs, (Lit.int .i64 z).wf = true) (w : World) (h : StoreAt w b mb s) (hz : IntsR w (.slice (some ad) n c) zs) (hn : n ≤ 1000) :
    Calls Try.prog 21 #[.pointer (some ⟨b, 0, none⟩), .slice (some ad) n c] w fun e w' => ∃ g cap, e = .returned (.slice (some ⟨g, 0, none⟩) (missing s zs).length cap) ∧ w.heap.size ≤ g ∧ HoldsL w' g (missing s zs) ∧ Fr [] w w' := by
  have hl : zs.length = n := by obtain ⟨_, _, e, _⟩ := hz; injection e with _ e2 _; exact e2.symm
  have hf1 : Fr [] w (w.alloc (.cells #[.pointer (some ⟨b, 0, none⟩)] 25)) := (Fr.refl [] w).alloc _
  have H1 : StoreAt (w.alloc (.cells #[.pointer (some ⟨b, 0, none⟩)] 25)) b mb s := h.fr hf1 (by simp) (by simp)
  have hz1 := hz.fr hf1 (by simp)
  have hB : (w.alloc (.cells #[.pointer (some ⟨b, 0, none⟩)] 25)).cell? ⟨w.heap.size, 0, none⟩ = some (.pointer (some ⟨b, 0, none⟩)) := by simp
  have hBs : w.heap.size < (w.alloc (.cells #[.pointer (some ⟨b, 0, none⟩)] 25)).heap.size := by simp
  have c0 := H1.c0
  have hbl := h.lt
  have hml := h.map.lt
  have C1 := hid (clone_ints ad n c zs _ hz1 hn)
  have HF := hid hf1
  have HH := hid H1
  have HW := hid hwf
  have HL := hid hl
  have HBC := hid hB
  have HBS := hid hBs
  clear hz hz1 h H1 hf1 hwf hl hB hBs
  go_enter Try.func21, Try.ntmps21
  go_wp2_with fail
  refine (made_yes _ _ _ c0).mono ?_
  rintro e w' ⟨rfl, rfl⟩
  go_wp2_with fail
  refine C1.out.mono ?_
  rintro e w1 ⟨g, cap, rfl, hcap, hg, hgl, hH, f1⟩
  have S1 := HH.out.fr f1 (by simp) (by simp)
  have hB1 := (f1.cell (p := ⟨w.heap.size, 0, none⟩) HBS.out (by simp)).trans HBC.out
  have F1 := hid (HF.out.then f1)
  have hgw : w.heap.size < g := Nat.lt_of_lt_of_le HBS.out hg
  have C2 := hid (delete_ints b mb s w.heap.size g cap zs HW.out w1 S1 hB1 (by omega) (by rw [HL.out]; exact hn) (by rw [HL.out]; exact hcap) hH)
  rw [HL.out] at C2
  clear S1 hB1 hH f1 C1 HH HF c0 hg
  go_wp2_with fail
  refine C2.out.mono ?_
  rintro e w2 ⟨rfl, hH2, f2⟩
  have hlen := missL_len s zs
  rw [HL.out] at hlen
  have F2 := hid (F1.out.trans f2 (fun z hz => .inr (by simp at hz; omega)))
  have hgl2 := Nat.lt_of_lt_of_le hgl f2.size
  have C3 := hid (sort_ints g cap (missL s zs) w2 hH2 hgl2 (by omega))
  clear hH2 f2 C2 F1 hgl2
  go_wp2_with fail
  refine C3.out.mono ?_
  rintro e w3 ⟨rfl, hH3, f3⟩
  have F3 := hid (F2.out.trans f3 (fun z hz => .inr (by simp at hz; omega)))
  have e3 : (missL s zs).length = ((missL s zs).mergeSort fun x y => decide (x ≤ y)).length := by simp
  have C4 := hid (compact_ints g cap ((missL s zs).mergeSort fun x y => decide (x ≤ y)) w3 hH3 (by omega) (by omega))
  rw [← e3] at C4
  clear e3 hH3 f3 C3 F2
  go_wp2_with fail
  refine C4.out.mono ?_
  rintro e w4 ⟨rfl, hH4, f4⟩
  have F4 := hid (F3.out.trans f4 (fun z hz => .inr (by simp at hz; omega)))
  have HH4 := hid hH4
  clear hH4 f4 C4 F3
  go_wp2_with fail
  go_ret
  exact ⟨g, cap, rfl, by omega, HH4.out, F4.out⟩

theorem HoldsL.reads {w : World} {g cap : Nat} {xs : List Int} (h : HoldsL w g xs) (hl : xs.length ≤ 1000) (hc : xs.length ≤ cap) : IntsR w (.slice (some ⟨g, 0, none⟩) xs.length cap) xs :=
  ⟨_, cap, rfl, by omega, hc, fun _ => ⟨g, 0, rfl, fun i hi => (h i hi).1⟩⟩

end Go.Proofs.Ytggkhgpdnjkfcaa
