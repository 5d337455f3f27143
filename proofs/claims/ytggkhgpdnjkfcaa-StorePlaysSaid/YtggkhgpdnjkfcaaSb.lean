/-
  Walks of package store: Put, Drop, Copy.
-/
import Derived.Test.YtggkhgpdnjkfcaaSa
namespace Go.Proofs.Ytggkhgpdnjkfcaa
open Go.RowKit Go.Maps

theorem wf_small {n : Int} (h0 : 0 ≤ n) (h1 : n ≤ 1000000000) : (Lit.int .i64 n).wf = true := WalkArith.wf_i64 (by omega)

set_option maxRecDepth 100000 in
theorem put_full (b mb : Nat) (s : St) (x : ByteArray) (w : World) (h : StoreAt w b mb s) (hx : x.size ≤ maxLen) (hf : s.full x = true) :
    Calls Try.prog 12 #[.pointer (some ⟨b, 0, none⟩), .string x] w fun e w' => e = .returned (.tuple #[.int .i64 0, .int .i64 2]) ∧ w = w' := by
  have c0 := h.c0; have c1 := h.c1
  have m0 := h.ok.m0; have m1 := h.ok.m1
  unfold maxLen at hx
  clear h
  by_cases hs : 8388608 < x.size
  · clear hf
    go_enter Try.func12, Try.ntmps12
    go_wp2_with (go_at_call 24; refine (made_yes _ _ _ c0).mono ?_; rintro e w' ⟨rfl, rfl⟩)
    go_ret2
    exact ⟨rfl, rfl⟩
  · have hm : 4000 ≤ s.most := by simp [St.full, hs] at hf; exact hf
    have hd : decide ((1 : Int) ≤ 4000 - s.most) = false := by simp; omega
    clear hf
    go_enter Try.func12, Try.ntmps12
    go_wp2_with (first
      | (go_at_call 24; refine (made_yes _ _ _ c0).mono ?_; rintro e w' ⟨rfl, rfl⟩)
      | (go_at_call 25; refine (room_any _ _ _ _ c1 m0 m1).mono ?_; rintro e w' ⟨rfl, rfl⟩))
    go_ret2
    exact ⟨rfl, rfl⟩

set_option maxRecDepth 100000 in
theorem put_room (b mb : Nat) (s : St) (x : ByteArray) (w : World) (h : StoreAt w b mb s) (hx : x.size ≤ maxLen) (hf : s.full x = false) :
    Calls Try.prog 12 #[.pointer (some ⟨b, 0, none⟩), .string x] w fun e w' => e = .returned (.tuple #[.int .i64 (s.most + 1), .int .i64 0]) ∧ StoreAt w' b mb (s.put x) ∧ Fr [b, mb] w w' := by
  have hok := h.ok.put x
  have hp : s.put x = ⟨lput s.files (s.most + 1) x, s.most + 1⟩ := by simp [St.put, hf]
  rw [hp] at hok ⊢
  have c0 := h.c0; have c1 := h.c1; have f1 := h.f1 1
  have m0 := h.ok.m0; have m1 := h.ok.m1
  have hlen := h.ok.len
  have hne := h.ne
  have hbs := blk_setCell h.blk 1 (.int .i64 (s.most + 1))
  have fr0 : Fr [b, mb] w (w.setCell ⟨b, 1, none⟩ (.int .i64 (s.most + 1))).drew := ((Fr.refl _ w).setCell (.inl (by simp)) _).drew
  have hmap : MapF (w.setCell ⟨b, 1, none⟩ (.int .i64 (s.most + 1))).drew mb s.files := h.map.of_block (Below.heap_setCell w ⟨b, 1, none⟩ _ mb (Ne.symm hne))
  obtain ⟨w2, hrun, hmap2, hturn⟩ := hmap.store (wf_small (n := s.most + 1) (by omega) (by omega)) (by unfold maxLen; omega) hx
  have fr2 := fr0.turned hturn (.inl (by simp))
  have hb2 : w2.heap[b]? = some (.cells #[.map (some mb), .int .i64 (s.most + 1)] 53 (0, 0)) :=
    (hturn.grown.block b (by have := h.lt; simp; exact this) (by simp [hne])).trans hbs
  have d1 : w2.cell? ⟨b, 1, none⟩ = some (.int .i64 (s.most + 1)) := cell_of_row w2 b 1 _ _ _ hb2
  unfold maxLen at hx
  simp [St.full] at hf
  obtain ⟨hf1, hf2⟩ := hf
  have hd : decide ((1 : Int) ≤ 4000 - s.most) = true := by simp; omega
  have HH := hid (And.intro (StoreAt.mk hb2 hmap2 hok) fr2)
  clear fr0 hmap hmap2 hturn fr2 hb2 hok h hp hbs hne hlen
  go_enter Try.func12, Try.ntmps12
  go_wp2_with (first
    | (go_at_call 24; refine (made_yes _ _ _ c0).mono ?_; rintro e w' ⟨rfl, rfl⟩)
    | (go_at_call 25; refine (room_any _ _ _ _ c1 m0 m1).mono ?_; rintro e w' ⟨rfl, rfl⟩))
  go_region
  all_goals go_wp2
  all_goals go_ret2
  all_goals exact ⟨rfl, HH.out⟩

end Go.Proofs.Ytggkhgpdnjkfcaa
