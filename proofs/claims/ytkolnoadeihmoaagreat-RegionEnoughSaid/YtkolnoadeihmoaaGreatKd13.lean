/-
  Numbers of files: catalog.files.
-/
import Derived.Test.YtkolnoadeihmoaaGreatKd2
import Derived.Test.YtkolnoadeihmoaaGreatKd11
namespace Go.Proofs.YtkolnoadeihmoaaGreat
open Go.RowKit Go.Sort Go.Shelf Go.Proofs.YtkolnoadeihmoaaGreatW.PrintWords
def HoldsL (w : World) (g : Nat) (xs : List Int) : Prop := ∀ j, j < xs.length → w.cell? ⟨g, 0 + j, none⟩ = some (.int .i64 (xs.getD j 0)) ∧ w.frozen? ⟨g, 0 + j, none⟩ = false
theorem HoldsL.holds {w : World} {g : Nat} {xs : List Int} (h : HoldsL w g xs) : Holds (Value.int .i64) w g 0 xs.toArray := fun j hj => by
  have hj' : j < xs.length := by simpa using hj
  rw [getElem!_pos _ j hj]
  have := h j hj'
  rw [List.getD_eq_getElem?_getD, List.getElem?_eq_getElem hj'] at this
  simpa using this
theorem HoldsL.of {w : World} {g : Nat} {xs : List Int} (h : Holds (Value.int .i64) w g 0 xs.toArray) : HoldsL w g xs := fun j hj => by
  have := h j (by simpa using hj)
  rw [getElem!_pos _ j (by simpa using hj)] at this
  rw [List.getD_eq_getElem?_getD, List.getElem?_eq_getElem hj]
  simpa using this
theorem HoldsL.left {w : World} {g : Nat} {xs ys : List Int} (h : HoldsL w g (xs ++ ys)) : HoldsL w g xs := fun j hj => by
  have := h j (by simp; omega)
  rw [List.getD_eq_getElem?_getD, List.getElem?_append_left hj] at this
  rw [List.getD_eq_getElem?_getD]; exact this
theorem HoldsL.put {w : World} {g : Nat} {xs ys : List Int} (h : HoldsL w g xs) (hl : ys.length = xs.length) (q : Nat) : HoldsL (putRow (Value.int .i64) (Sort.ahead w q) g 0 ys.toArray) g ys :=
  HoldsL.of (holds_putRow _ _ g 0 xs.toArray ys.toArray (holds_ahead _ _ _ _ _ _ h.holds) (by simpa using hl))
theorem fr_putRow {α : Type} [Inhabited α] {enc : α → Value} {S : List Nat} {w w' : World} (h : Fr S w w') {g : Nat} (hg : g ∈ S ∨ w.heap.size ≤ g) (q off : Nat) (d : Array α) : Fr S w (putRow enc (Sort.ahead w' q) g off d) := by
  refine ⟨h.os, h.tape, h.output, by rw [size_putRow]; exact h.size, fun k hk hS => ?_⟩
  rw [← h.block k hk hS]
  have hne : k ≠ g := by rintro rfl; rcases hg with h1 | h1; exact hS h1; omega
  show (mapBlock (Sort.ahead w' q) g _).heap[k]? = _
  unfold mapBlock
  simp only [Array.getElem?_modify]
  rw [if_neg (by omega)]; rfl
theorem fr_grow {S : List Nat} {w w' : World} (h : Fr S w w') (os : Array Obj) : Fr S w (Sort.grow w' os) :=
  ⟨h.os, h.tape, h.output, by have := h.size; simp; omega, fun k hk hS => by
    rw [heap_grow_old w' os (Nat.lt_of_lt_of_le hk h.size)]; exact h.block k hk hS⟩
theorem sort_ints (g cap : Nat) (zs : List Int) (w : World) (hH : HoldsL w g zs) (hg : g < w.heap.size) (hz : zs.length ≤ 17592186044416) :
    Calls Tryz.prog 86 #[.slice (some ⟨g, 0, none⟩) zs.length cap] w fun e w' => e = .returned (.tuple #[]) ∧ HoldsL w' g (zs.mergeSort fun x y => decide (x ≤ y)) ∧ Fr [g] w w' := by
  have hcon := AnyM.slices_Sort_int Tryz.sortA g 0 cap zs w hH.holds hg (by omega)
  change Calls Tryz.prog 86 _ _ _ at hcon
  refine hcon.mono fun e w' ⟨he, q, os, hw⟩ => ⟨he, ?_, ?_⟩
  · subst hw
    have h1 := hH.put (ys := zs.mergeSort fun x y => decide (x ≤ y)) (by simp) q
    intro j hj
    have h2 := h1 j hj
    have hs : g < (putRow (Value.int .i64) (Sort.ahead w q) g 0 (zs.mergeSort fun x y => decide (x ≤ y)).toArray).heap.size := by rw [size_putRow]; exact hg
    rw [cell?_grow _ _ _ (by exact hs), frozen?_grow _ _ _ (by exact hs)]
    exact h2
  · subst hw
    exact fr_grow (fr_putRow (Fr.refl [g] w) (.inl (List.mem_singleton.2 rfl)) q 0 _) os
theorem compact_ints (g cap : Nat) (zs : List Int) (w : World) (hH : HoldsL w g zs) (hz : zs.length ≤ 17592186044416) (hcap : zs.length ≤ cap) :
    Calls Tryz.prog 125 #[.slice (some ⟨g, 0, none⟩) zs.length cap] w fun e w' => e = .returned (.slice (some ⟨g, 0, none⟩) (Lib.compact zs).length cap) ∧ HoldsL w' g (Lib.compact zs ++ List.replicate (zs.length - (Lib.compact zs).length) 0) ∧ Fr [g] w w' := by
  have hcon := Any.slices_Compact_int Tryz.laysNm220 g 0 cap zs w hH.holds (by omega) hcap
  change Calls Tryz.prog 125 _ _ _ at hcon
  have hle : (Lib.compact zs).length ≤ zs.length := by
    unfold Lib.compact Lib.compactUpTo
    rw [List.length_map]
    exact Nat.le_trans (List.length_filter_le _ _) (by simp)
  refine hcon.mono fun e w' ⟨he, q, hw⟩ => ⟨he, ?_, ?_⟩
  · subst hw
    exact (hH.put (ys := Lib.compact zs ++ List.replicate (zs.length - (Lib.compact zs).length) 0) (by simp; omega) q)
  · subst hw
    exact fr_putRow (Fr.refl [g] w) (.inl (List.mem_singleton.2 rfl)) q 0 _
def filesB (l : List Int) : Bool :=
  let s := l.mergeSort fun x y => decide (x ≤ y)
  let t := Lib.compact s ++ List.replicate (l.length - (Lib.compact s).length) 0
  decide ((Lib.compact s).length = l.length) && (decide (l.length = 0) || (decide (1 ≤ t.getD 0 0) && decide (t.getD (l.length - 1) 0 ≤ 4000)))
theorem holds_R {w : World} {v : Value} {xs : List Int} (h : kI.R 3 w 0 (fun _ => True) v xs) (hp : 0 < xs.length) : ∃ g cap, v = .slice (some ⟨g, 0, none⟩) xs.length cap ∧ xs.length ≤ cap ∧ g < w.heap.size ∧ HoldsL w g xs := by
  obtain ⟨A, c, e, hl, hC⟩ := Kd.R_reads h
  subst e
  obtain ⟨ad, rfl, hr⟩ := (Kd.reads_of_C (d := (0 : Int)) hC).2.2 (by omega)
  obtain ⟨g, cap, ef, -, hg, cells, hb⟩ := Kd.R_form h hp
  injection ef with ef1 _ _
  injection ef1 with ef1
  subst ef1
  refine ⟨g, c, rfl, hl, hg, fun j hj => ?_⟩
  have q := hr j hj
  rw [add_mk] at q
  exact ⟨q, by simp [World.frozen?, hb]⟩
set_option maxRecDepth 100000 in
theorem files_any (A : Option Addr) (c : Nat) (xs : List Int) (w : World) (hC : kI.C w A xs.length xs) (hl : xs.length ≤ 17592186044416) :
    Calls Tryz.prog 137 #[.slice A xs.length c] w fun e w' => e = .returned (.bool (filesB xs)) ∧ Fr [] w w' := by
  have HC := hid hC
  clear hC
  by_cases h0 : xs = []
  · subst h0
    have e0 := hid (show filesB [] = true by simp [filesB, Lib.compact, Lib.compactUpTo])
    have C3 := hid (fun A c W => AnyM.slices_Sort_int_none Tryz.sortA A c W)
    have C4 := hid (fun A c W => Any.slices_Compact_int_empty Tryz.laysNm220 A c W)
    go_enter Tryz.func137, Tryz.ntmps137
    go_wp2_with fail
    refine (clone_ints A c w [] HC.out (by simp)).mono ?_
    rintro e w1 ⟨v, rfl, r1, f1, -, -⟩
    obtain ⟨A1, c1, rfl⟩ := Kd.R_slice r1
    simp only [List.length_nil]
    go_wp2_with fail
    refine (C3.out A1 c1 w1).mono ?_
    rintro e w2 ⟨rfl, rfl⟩
    go_wp2_with fail
    refine (C4.out A1 c1 _).mono ?_
    rintro e w3 ⟨rfl, rfl⟩
    go_wp2_with fail
    go_ret
    rw [e0.out]
    exact ⟨rfl, f1⟩
  · have hpos : 0 < xs.length := List.length_pos_iff.2 h0
    obtain ⟨n, hn⟩ : ∃ n, xs.length = n + 1 := ⟨xs.length - 1, by omega⟩
    obtain ⟨s, hs⟩ : ∃ s, s = xs.mergeSort fun x y => decide (x ≤ y) := ⟨_, rfl⟩
    have hsl : s.length = n + 1 := by rw [hs, List.length_mergeSort, hn]
    obtain ⟨m, hm⟩ : ∃ m, m = (Lib.compact s).length := ⟨_, rfl⟩
    obtain ⟨t, ht⟩ : ∃ t, t = Lib.compact s ++ List.replicate (s.length - (Lib.compact s).length) 0 := ⟨_, rfl⟩
    have htl : n + 1 ≤ t.length := by rw [ht]; simp; omega
    have e0 : filesB xs = (decide (m = n + 1) && (decide (1 ≤ t.getD 0 0) && decide (t.getD n 0 ≤ 4000))) := by
      rw [ht, hm, hsl]
      unfold filesB
      rw [← hs, hn]
      simp
    have HS := hid hs
    have HM := hid hm
    have HT := hid ht
    have E0 := hid e0
    have HN := hid hn
    have HSL := hid hsl
    clear h0 e0 hs hm ht
    go_enter Tryz.func137, Tryz.ntmps137
    go_wp2_with fail
    refine (hn ▸ clone_ints A c w xs HC.out (by omega)).mono ?_
    rintro e w1 ⟨v, rfl, r1, f1, o1, -⟩
    obtain ⟨g, cap, rfl, lc, hg, hH⟩ := holds_R r1 (by omega)
    have hgw : w.heap.size ≤ g := o1 g rfl
    have KH := hid hH
    have K1 := hid f1
    clear hH f1 r1 o1
    go_wp2_with fail
    have HSO := sort_ints g cap xs w1 KH.out hg (by omega)
    rw [hn] at HSO
    refine HSO.mono ?_
    rintro e w2 ⟨rfl, h2, f2⟩
    rw [← HS.out] at h2
    have K2 := hid h2
    have J2 := hid f2
    clear h2 f2 HSO
    go_wp2_with fail
    have HCO := compact_ints g cap s w2 K2.out (by omega) (by omega)
    rw [hsl] at HCO
    refine HCO.mono ?_
    rintro e w3 ⟨rfl, h3, f3⟩
    rw [← HM.out]
    rw [← hsl, ← HT.out] at h3
    have c0 := (h3 0 (by omega)).1
    have c9 := (h3 n (by omega)).1
    simp only [Nat.zero_add] at c0 c9
    have F := hid (K1.out.trans (J2.out.trans f3 (fun z hz => .inl hz)) (fun z hz => .inr (by simp at hz; omega)))
    clear h3 f3 HCO
    generalize t.getD 0 0 = t0 at *
    generalize t.getD n 0 = t9 at *
    go_wp2_with fail
    all_goals
      have E1 := E0.out
      go_ret
      refine ⟨?_, F.out⟩
      rw [E1]
      refine congrArg (fun b => Ending.returned (Value.bool b)) ?_
      rw [Bool.eq_iff_iff]
      simp
      omega
end Go.Proofs.YtkolnoadeihmoaaGreat
