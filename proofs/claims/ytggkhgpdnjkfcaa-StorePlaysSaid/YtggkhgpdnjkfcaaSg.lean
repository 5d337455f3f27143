/-
  The walk of awake: the chapter's examples.
-/
import Derived.Test.YtggkhgpdnjkfcaaSf
namespace Go.Proofs.Ytggkhgpdnjkfcaa
open Go.RowKit Go.Maps

theorem new_store (w : World) :
    Calls Try.prog 9 #[] w fun e w' => ∃ b mb, e = .returned (.pointer (some ⟨b, 0, none⟩)) ∧ StoreAt w' b mb St.empty ∧ Fr [] w w' ∧ w.heap.size ≤ b ∧ w.heap.size ≤ mb := by
  refine (new_any w).mono fun e w' ⟨h1, h2⟩ => ⟨w.heap.size + 1, w.heap.size, h1, ?_, ?_, by omega, by omega⟩
  · subst h2
    refine ⟨heap_alloc2_new w _ _, ?_, St.Ok.emp⟩
    exact (World.ownsMap_made w Try.prog 3 (plainElem Try.prog 9)).alloc _
  · subst h2
    exact ((Fr.refl [] w).alloc _).alloc _
theorem put_num (b mb : Nat) (s : St) (x : ByteArray) (w : World) (h : StoreAt w b mb s) (hx : x.size ≤ maxLen) (n e0 : Int) (s' : St) (hn : s.putN x = n) (he : s.putE x = e0) (hs : s.put x = s') :
    Calls Try.prog 12 #[.pointer (some ⟨b, 0, none⟩), .string x] w fun e w' => e = .returned (.tuple #[.int .i64 n, .int .i64 e0]) ∧ StoreAt w' b mb s' ∧ Fr [b, mb] w w' := by
  rw [← hn, ← he, ← hs]; exact put_any b mb s x w h hx
theorem StoreAt.ne2 {w : World} {b mb b2 mb2 : Nat} {s : St} (h : StoreAt w b mb s) (h1 : w.heap.size ≤ b2) (h2 : w.heap.size ≤ mb2) : b ∉ [b2, mb2] ∧ mb ∉ [b2, mb2] := by
  have := h.lt; have := h.map.lt
  constructor <;> simp <;> omega

def sA1 : St := ⟨[(1, ⟨#[120]⟩)], 1⟩
def sA2 : St := ⟨[(1, ⟨#[120]⟩), (2, ⟨#[121, 122]⟩)], 2⟩
def sA3 : St := ⟨[(1, ⟨#[120]⟩)], 2⟩
def sA4 : St := ⟨[(1, ⟨#[120]⟩), (3, ⟨#[]⟩)], 3⟩
def sB1 : St := ⟨[(3, ⟨#[]⟩)], 3⟩
def sB2 : St := ⟨[(3, ⟨#[]⟩), (4, ⟨#[119]⟩)], 4⟩

set_option maxRecDepth 100000 in
set_option maxHeartbeats 1000000 in
theorem awake_any (w : World) :
    Calls Try.prog 8 #[] w fun e w' => e = .returned (.bool true) ∧ Fr [] w w' := by
  go_enter Try.func8, Try.ntmps8
  go_wp2_with fail
  refine (new_store _).mono ?_
  rintro e w1 ⟨b, mb, rfl, h1, f1, hb, hmb⟩
  have F1 := hid f1; clear f1
  go_wp2_with fail
  refine (put_num b mb _ _ _ h1 (by decide) 1 0 sA1 (by rfl) (by rfl) (by rfl)).mono ?_
  rintro e w2 ⟨rfl, h2, f2⟩
  have F2 := hid (F1.out.trans f2 (by simp; omega)); clear f2 F1 h1
  go_wp2_with fail
  refine (put_num b mb _ _ _ h2 (by decide) 2 0 sA2 (by rfl) (by rfl) (by rfl)).mono ?_
  rintro e w3 ⟨rfl, h3, f3⟩
  have F3 := hid (F2.out.trans f3 (by simp; omega)); clear f3 F2 h2
  go_wp2_with fail
  refine (drop_any b mb sA2 2 (by decide) _ h3).mono ?_
  rintro e w4 ⟨he, h4, f4⟩
  rw [show sA2.getE 2 = 0 from rfl] at he
  subst he
  rw [show sA2.drop 2 = sA3 from rfl] at h4
  have F4 := hid (F3.out.trans f4 (by simp; omega)); clear f4 F3 h3
  go_wp2_with fail
  refine (put_num b mb _ _ _ h4 (by decide) 3 0 sA4 (by rfl) (by rfl) (by rfl)).mono ?_
  rintro e w5 ⟨rfl, h5, f5⟩
  have F5 := hid (F4.out.trans f5 (by simp; omega)); clear f5 F4 h4
  go_wp2_with fail
  refine (new_store _).mono ?_
  rintro e w6 ⟨b2, mb2, rfl, g6, f6, hb2, hmb2⟩
  have hN := h5.ne2 hb2 hmb2
  have h6 := h5.fr f6 (by simp) (by simp)
  have F6 := hid (F5.out.then f6)
  have z2 : w.heap.size ≤ b2 := Nat.le_trans F5.out.size hb2
  have z3 : w.heap.size ≤ mb2 := Nat.le_trans F5.out.size hmb2
  clear f6 F5 h5 hb2 hmb2
  have HN := hid hN; clear hN
  go_wp2_with fail
  refine (copy_any b2 mb2 St.empty b mb sA4 3 (by decide) _ g6 h6).mono ?_
  rintro e w7 ⟨he, g7, f7⟩
  rw [show St.empty.copyE sA4 3 = 0 from rfl] at he
  subst he
  rw [show St.empty.copy sA4 3 = sB1 from rfl] at g7
  have h7 := h6.fr f7 HN.out.1 HN.out.2
  have F7 := hid (F6.out.trans f7 (by simp; omega)); clear f7 F6 h6 g6
  go_wp2_with fail
  refine (put_num b2 mb2 _ _ _ g7 (by decide) 4 0 sB2 (by rfl) (by rfl) (by rfl)).mono ?_
  rintro e w8 ⟨rfl, g8, f8⟩
  have h8 := h7.fr f8 HN.out.1 HN.out.2
  have F8 := hid (F7.out.trans f8 (by simp; omega)); clear f8 F7 h7 g7 g8 HN
  go_wp2_with fail
  refine (put_nil _ _).mono ?_
  rintro e w9 ⟨rfl, rfl⟩
  go_wp2_with fail
  refine (get_zero _ _ _ (by simp)).mono ?_
  rintro e w9 ⟨rfl, rfl⟩
  have h9 : StoreAt (w8.alloc (.cells #[.map none, .int .i64 0] 53)) b mb sA4 := h8.fr ((Fr.refl [] _).alloc _) (by simp) (by simp)
  have F9 : Hid (Fr [] w (w8.alloc (.cells #[.map none, .int .i64 0] 53))) := F8.out.alloc _
  have z9 : (w8.alloc (.cells #[.map none, .int .i64 0] 53)).cell? ⟨w8.heap.size, 0, none⟩ = some (.map none) := by simp
  have z9s : w8.heap.size < (w8.alloc (.cells #[.map none, .int .i64 0] 53)).heap.size := by simp
  generalize w8.alloc (.cells #[.map none, .int .i64 0] 53) = w9 at h9 F9 z9 z9s ⊢
  clear h8 F8
  generalize w8.heap.size = bz at z9 z9s ⊢
  go_wp2_with fail
  refine (most_any b mb sA4 _ h9).mono ?_
  rintro e w10 ⟨rfl, rfl⟩
  go_wp2_with fail
  refine (files_any b mb sA4 _ h9).mono ?_
  rintro e w10 ⟨v, rfl, hv, f10⟩
  have h10 := h9.fr f10 (by simp) (by simp)
  have z10 := (f10.cell (p := ⟨bz, 0, none⟩) z9s (by simp)).trans z9
  have hbz : bz < w10.heap.size := Nat.lt_of_lt_of_le z9s f10.size
  have hI : IntsR w10 v [1, 3] := IntsR.of_own hv rfl (by decide)
  have F10 := hid (F9.out.then f10)
  clear h9 F9 f10 hv z9 z9s
  go_wp2_with fail
  have hL : IntsR (w10.alloc (.cells #[.int .i64 1, .int .i64 3] 3)) (.slice (some ⟨w10.heap.size, 0, none⟩) 2 2) [1, 3] :=
    ⟨_, 2, rfl, by decide, by decide, fun _ => ⟨_, 0, rfl, fun i hi => by
      have hi2 : i < 2 := hi
      have : i = 0 ∨ i = 1 := by omega
      rcases this with rfl | rfl <;> simp⟩⟩
  have h11 := h10.fr ((Fr.refl [] w10).alloc (.cells #[.int .i64 1, .int .i64 3] 3)) (by simp) (by simp)
  have hI11 := hI.fr ((Fr.refl [] w10).alloc (.cells #[.int .i64 1, .int .i64 3] 3)) (by simp)
  have z11 := (((Fr.refl [] w10).alloc (.cells #[.int .i64 1, .int .i64 3] 3)).cell (p := ⟨bz, 0, none⟩) hbz (by simp)).trans z10
  have F11 := hid (F10.out.alloc (.cells #[.int .i64 1, .int .i64 3] 3))
  have hbz1 : bz < (w10.alloc (.cells #[.int .i64 1, .int .i64 3] 3)).heap.size := by simp; omega
  refine (same_any _ _ _ _ _ hI11 hL).mono ?_
  rintro e w12 ⟨he, f12⟩
  rw [show decide (([1, 3] : List Int) = [1, 3]) = true from rfl] at he
  subst he
  have h12 := h11.fr f12 (by simp) (by simp)
  have z12 := (f12.cell (p := ⟨bz, 0, none⟩) hbz1 (by simp)).trans z11
  have F12 := hid (F11.out.then f12)
  have hbz12 := Nat.lt_of_lt_of_le hbz1 f12.size
  clear h10 h11 z10 z11 F10 F11 f12 hI hI11 hL hbz hbz1
  go_wp2_with fail
  refine (used_any b mb sA4 _ h12).mono ?_
  rintro e w13 ⟨he, f13⟩
  rw [show sA4.used = 1 from rfl] at he
  subst he
  have h13 := h12.fr f13 (by simp) (by simp)
  have z13 := (f13.cell (p := ⟨bz, 0, none⟩) hbz12 (by simp)).trans z12
  have F13 := hid (F12.out.then f13)
  clear h12 z12 F12 f13 hbz12
  have c13 := h13.c0
  clear h13
  go_wp2_with fail
  refine (files_nil _).mono ?_
  rintro e w14 ⟨rfl, rfl⟩
  go_wp2_with fail
  refine (most_zero _ _ z13).mono ?_
  rintro e w14 ⟨rfl, rfl⟩
  go_wp2_with fail
  refine (copy_zero b mb bz 1 _ c13 z13).mono ?_
  rintro e w14 ⟨rfl, rfl⟩
  go_wp2_with fail
  refine (clone_nil _).mono ?_
  rintro e w14 ⟨rfl, rfl⟩
  go_wp2_with fail
  go_ret
  exact ⟨rfl, F13.out⟩

end Go.Proofs.Ytggkhgpdnjkfcaa
