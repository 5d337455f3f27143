/-
  Walks of package store: Clone, Files.
-/
import Derived.Test.YtggkhgpdnjkfcaaSd
import Derived.Test.YtggkhgpdnjkfcaaSs
import Derived.Deep.RegionWith
namespace Go.Proofs.Ytggkhgpdnjkfcaa
open Go.RowKit Go.Maps Go.Sort Go.Shelf

theorem clone_map (mb : Nat) (l : FL) (w : World) (h : MapF w mb l) :
    Calls Try.prog 28 #[.map (some mb)] w fun e w' => e = .returned (.map (some w.heap.size)) ∧ ∃ o, w' = w.alloc o ∧ MapF w' w.heap.size l := by
  have hlt := h.lt
  obtain ⟨es, clock, hb, F, hs, hD⟩ := h
  have hc := AnyW.maps_Clone Try.cloneM mb es clock w hb
  change Calls Try.prog 28 _ _ _ at hc
  refine hc.mono fun e w' ⟨h1, h2⟩ => ⟨h1, _, h2, ?_⟩
  subst h2
  exact ⟨es, clock, (MapKept.heap_alloc w _).1, F, hs, hD⟩

set_option maxRecDepth 100000 in
theorem clone_any (b mb : Nat) (s : St) (w : World) (h : StoreAt w b mb s) :
    Calls Try.prog 17 #[.pointer (some ⟨b, 0, none⟩)] w fun e w' => e = .returned (.pointer (some ⟨w.heap.size + 1, 0, none⟩)) ∧ StoreAt w' (w.heap.size + 1) w.heap.size s ∧ Fr [] w w' := by
  have c0 := h.c0; have c1 := h.c1
  have hbl := h.lt
  have HM := hid h.map
  have HO := hid h.ok
  clear h
  go_enter Try.func17, Try.ntmps17
  go_wp2_with (go_at_call 24; refine (made_yes _ _ _ c0).mono ?_; rintro e w' ⟨rfl, rfl⟩)
  go_region_with (go_at_call 28; refine (clone_map mb s.files w.drew HM.out).mono ?_; rintro e w1 ⟨rfl, o, rfl, hm⟩)
  all_goals
    go_wp2
    go_ret
    refine ⟨rfl, ⟨?_, ?_, HO.out⟩, ?_⟩
    · exact heap_alloc2_new w o _
    · exact MapF.of_block (w := w.drew.alloc o) hm (Below.heap_alloc _ _ _ (by simp))
    · exact (((Fr.refl [] w).alloc o).alloc _).drew

/-- The two contracts of the sort, at the fence that asks nothing. -/
theorem sortsA (m : Nat) : AnyZI.SortsIn Try.prog Try.sortedA_ren Fence.wide m :=
  ⟨fun blk off cap ss W hH hblk hsz => callsIn_wide.2 (AnyM.slices_Sort_int Try.sortA blk off cap ss W hH hblk hsz),
   fun p cap W => callsIn_wide.2 (AnyM.slices_Sort_int_none Try.sortA p cap W)⟩

theorem intKeys_dm (l : FL) : intKeys (dm (H := Unit) l) = l.map (·.1) := by
  unfold dm intKeys
  simp [dent, litk, Go.intOf]

set_option maxRecDepth 100000 in
set_option maxHeartbeats 1000000 in
theorem files_any (b mb : Nat) (s : St) (w : World) (h : StoreAt w b mb s) :
    Calls Try.prog 14 #[.pointer (some ⟨b, 0, none⟩)] w fun e w' => ∃ v, e = .returned v ∧ w'.ownsRow w.heap.size 3 1 v s.files.length (s.nums.map encZ) ∧ Fr [] w w' := by
  have c0 := h.c0
  have hlen := h.ok.len
  have hr := h.ok.rise
  have hown : w.ownsMap (H := Unit) Try.prog 3 (plainElem Try.prog 9) mb s.files.length (dm s.files) := h.map
  have hbl := hown.lt
  have hmax : Maps.size (dm (H := Unit) s.files) ≤ maxLen := by rw [dm_size]; unfold maxLen; omega
  have hbytes : Maps.size (dm (H := Unit) s.files) * 8 ≤ 140737488355328 := by rw [dm_size]; omega
  clear h
  refine (callsIn_wide (n := 6)).1 ?_
  have hseq : SeqGives Fence.wide 2 Try.prog 43 #[.pointer (some ⟨w.heap.size, 0, none⟩)] encZ (fun ss => ss.Perm (intKeys (dm (H := Unit) s.files))) (Maps.size (dm (H := Unit) s.files)) (w.alloc (.cells #[.map (some mb)] 51)) :=
    AnyZI.keys_gives (ρ := Try.keysA_ren) { Try.keysA with } Fence.wide _ trivial rfl (by omega) w.heap.size mb s.files.length (dm s.files) _ (by simp) (by simp) (by
      obtain ⟨es, clock, hb, Ft, hs, hD⟩ := hown
      exact ⟨es, clock, (Below.heap_alloc _ _ mb hbl).trans hb, Ft, hs, hD⟩)
  have cK : ∀ m0 W, CallsIn Fence.wide 5 Try.prog 27 #[.map m0] W fun e w' => e = .returned (.func (.func 43) #[] #[.pointer (some ⟨W.heap.size, 0, none⟩)]) ∧ w' = W.alloc (.cells #[.map m0] 51) := fun m0 W => AnyZI.keys_in Try.keysA Fence.wide 5 trivial rfl m0 W
  have cS := AnyZI.sorted_in Try.sortedA Fence.wide 5 trivial trivial trivial trivial rfl (by omega) (sortsA _) (enters_of Try.func40 (by kernel_rfl) rfl) 43 #[.pointer (some ⟨w.heap.size, 0, none⟩)] trivial (enters_of Try.func43 (by kernel_rfl) rfl) _ _ hmax hbytes _ hseq
  change CallsIn _ _ Try.prog 26 _ _ _ at cS
  have cM : CallsIn Fence.wide 5 Try.prog 24 #[.pointer (some ⟨b, 0, none⟩)] w fun e w' => e = .returned (.bool true) ∧ w = w' := callsIn_wide.2 (made_yes _ _ _ c0)
  have hfK : Fence.wide.fn 27 := trivial
  have hfS : Fence.wide.fn 26 := trivial
  have hfM : Fence.wide.fn 24 := trivial
  clear hmax hbytes hown hseq
  have HR := hid hr
  clear hr
  refine callsIn_of_wp Try.func14 rfl trivial ?_ rfl
  simp only [Try.ntmps14, List.size_toArray, List.length_cons, List.length_nil, Nat.reduceAdd, Nat.reduceSub, Array.replicate_succ, Array.replicate_zero, List.push_toArray, List.append_toArray, List.nil_append, List.cons_append]
  gi_wp2_with (first
    | (gi_at_call 24; refine cM.mono ?_; rintro e w' ⟨rfl, rfl⟩)
    | (gi_at_call 27; refine (cK _ _).mono ?_; rintro e w' ⟨rfl, rfl⟩)
    | (gi_at_call 26; refine cS.mono ?_; rintro e w' ⟨v, ss, rfl, hS, hrow, hnil, hb⟩))
  go_ret
  have hsorted : ss.mergeSort (fun x y => decide (x ≤ y)) = s.nums := by
    rw [intKeys_dm] at hS
    have hp := (List.mergeSort_perm ss (fun x y => decide (x ≤ y))).trans hS
    refine List.Perm.eq_of_pairwise (le := fun x y : Int => x ≤ y) (fun a b _ _ h1 h2 => Int.le_antisymm h1 h2) ?_ ?_ hp
    · refine (List.pairwise_mergeSort (le := fun x y : Int => decide (x ≤ y)) ?_ ?_ ss).imp ?_
      · intro a b c h1 h2; simp at *; omega
      · intro a b; simp; omega
      · intro a b hab; simpa using hab
    · unfold St.nums
      rw [List.pairwise_map]
      exact HR.out.imp (fun {p q} hpq => Int.le_of_lt hpq)
  have hll : ss.length = s.files.length := by rw [hS.length_eq, intKeys_dm]; simp
  rw [hsorted, hll] at hrow
  exact ⟨v, rfl, ownsRow_base_a hrow (by simp), Fr.of_below (((Below.refl _ w).alloc (Nat.le_refl _) _).trans (hb.mono (by simp)))⟩

end Go.Proofs.Ytggkhgpdnjkfcaa
