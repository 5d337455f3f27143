/-
  Plain: commits of one deed; the law function keeps.
-/
import Derived.Deep.DeepCutAuto
import Derived.Deep.RegionHeld3
import Derived.Test.YtcfgcmjnailndaaKd18
namespace Go.Proofs.Ytcfgcmjnailndaa
open Go.RowKit Go.Proofs.Ytcfgcmjnailndaa.PCatalogKept Go.Proofs.YtcfgcmjnailndaaW.PrintWords Go.Proofs.YtcfgcmjnailndaaW.PrintLast Go.Proofs.YtcfgcmjnailndaaW.PrintMore
theorem commit_force {ss : List ST} {x : DE} {time : Int} (hv : validB x = true) : commitBy ss [x] time = force ss [x] time := by
 unfold commitBy
 rw [bad_one hv]
 simp
theorem commit_late {ss : List ST} {x : DE} {time : Int} (hv : validB x = true) (hc : checkTime ss time ≠ 0) : commitBy ss [x] time = ((0, 9), ss) := by
 rw [commit_force hv]
 unfold force
 rw [if_pos hc]
theorem commit_one {ss : List ST} {x : DE} {time : Int} {es' : List EN} (hv : validB x = true) (hc : checkTime ss time = 0) (hl : ss.length ≤ 4000) (hd : deedBy ⟨ss.length, time, ss.map (·.f0)⟩ (lastOf ss).f2 x = (0, es')) (h4 : es'.length ≤ 4000) :
  commitBy ss [x] time = (((ss.length : Int), 0), ss ++ [(⟨time, [x], es'⟩ : ST)]) := by
 rw [commit_force hv]
 unfold force
 have hdone : doneBy ⟨ss.length, time, ss.map (·.f0)⟩ (lastOf ss).f2 [x] = (0, es') := by
  unfold doneBy
  dsimp only
  rw [hd]
  rw [if_pos rfl]
  unfold doneBy
  rw [if_neg (by dsimp only; omega)]
 rw [if_neg (by rw [hc]; simp), if_neg (by omega), hdone]
 rfl
theorem commit_bad {ss : List ST} {x : DE} {time e : Int} {es' : List EN} (hv : validB x = true) (hc : checkTime ss time = 0) (hl : ss.length ≤ 4000) (hd : deedBy ⟨ss.length, time, ss.map (·.f0)⟩ (lastOf ss).f2 x = (e, es')) (he : e ≠ 0) :
  commitBy ss [x] time = ((0, e), ss) := by
 rw [commit_force hv]
 unfold force
 have hdone : doneBy ⟨ss.length, time, ss.map (·.f0)⟩ (lastOf ss).f2 [x] = (e, es') := by
  unfold doneBy
  dsimp only
  rw [hd]
  rw [if_neg he]
 rw [if_neg (by rw [hc]; simp), if_neg (by omega), hdone]
 dsimp only
 rw [if_pos he]
def dSwap (b t o : ByteArray) : DE := ⟨kSwap, b, t, o, [], 0, []⟩
def dDrop (b t : ByteArray) : DE := ⟨kDrop, b, t, ⟨#[]⟩, [], 0, []⟩
def dBack (b t : ByteArray) : DE := ⟨kUndrop, b, t, ⟨#[]⟩, [], 0, []⟩
theorem in_dSwap {b t o : ByteArray} (hb : b.size ≤ maxLen) (ht : t.size ≤ maxLen) (ho : o.size ≤ maxLen) : DeedIn (dSwap b t o) := ⟨hb, ht, ho, Nat.zero_le _, by simp [dSwap], Nat.zero_le _⟩
theorem in_dDrop {b t : ByteArray} (hb : b.size ≤ maxLen) (ht : t.size ≤ maxLen) : DeedIn (dDrop b t) := ⟨hb, ht, Nat.zero_le _, Nat.zero_le _, by simp [dDrop], Nat.zero_le _⟩
theorem in_dBack {b t : ByteArray} (hb : b.size ≤ maxLen) (ht : t.size ≤ maxLen) : DeedIn (dBack b t) := ⟨hb, ht, Nat.zero_le _, Nat.zero_le _, by simp [dBack], Nat.zero_le _⟩
theorem mk_dDrop (b t : ByteArray) : cirruslaw10_deed.f (dDrop b t).f0 (dDrop b t).f1 (dDrop b t).f2 (dDrop b t).f5 = some ((dDrop b t).f0, (dDrop b t).f1, (dDrop b t).f2, (dDrop b t).f3, (dDrop b t).f4, (dDrop b t).f5, (dDrop b t).f6) := by
 unfold cirruslaw10_deed.f; rw [if_neg (by show ¬ kDrop.toList = _; decide +kernel)]; rfl
theorem mk_dBack (b t : ByteArray) : cirruslaw10_deed.f (dBack b t).f0 (dBack b t).f1 (dBack b t).f2 (dBack b t).f5 = some ((dBack b t).f0, (dBack b t).f1, (dBack b t).f2, (dBack b t).f3, (dBack b t).f4, (dBack b t).f5, (dBack b t).f6) := by
 unfold cirruslaw10_deed.f; rw [if_neg (by show ¬ kUndrop.toList = _; decide +kernel)]; rfl
theorem valid_plain {x : DE} (hf : flagsOf x.f0 = some ⟨false, false, false, false, true, true⟩) (h4 : x.f4 = []) (h5 : x.f5 = 0) (h6 : x.f6 = []) (h3 : x.f3 = ⟨#[]⟩) (hn : nameB x.f1 x.f2 = true) : validB x = true := by
 unfold validB
 rw [hf]
 unfold nameB at hn
 simp only [Bool.and_eq_true, Bool.or_eq_true, decide_eq_true_eq] at hn
 unfold preB restB ofB
 rw [h3, h4, h5, h6]
 by_cases ht : x.f2.toList = []
 ·simp [hn.1, ht]
 ·rcases hn.2 with h | h
  ·exact absurd h ht
  ·simp [hn.1, ht, h]
theorem valid_dDrop {b t : ByteArray} (hn : nameB b t = true) : validB (dDrop b t) = true := valid_plain (by show flagsOf kDrop = _; unfold flagsOf; rw [if_neg (by decide), if_pos rfl]) rfl rfl rfl rfl hn
theorem valid_dBack {b t : ByteArray} (hn : nameB b t = true) : validB (dBack b t) = true := valid_plain (by show flagsOf kUndrop = _; unfold flagsOf; rw [if_neg (by decide), if_neg (by decide), if_pos rfl]) rfl rfl rfl rfl hn
theorem find_ok {ss : List ST} {base table : ByteArray} {a : AE} (hp : 0 < ss.length) (h : findBy ss ((ss.length : Int) - 1) base table = (a, 0)) :
  nameB base table = true ∧ ∃ i y, findIx (lastOf ss).f2 base table = some i ∧ (lastOf ss).f2[i]? = some y ∧ a = y.f0 := by
 have hl := last_at hp
 have e : ss.getD ((ss.length : Int) - 1).toNat z71 = lastOf ss := by
  rw [show ((ss.length : Int) - 1).toNat = ss.length - 1 by omega]
  simp [List.getD_eq_getElem?_getD, hl]
 unfold findBy at h
 rw [e] at h
 split at h
 ·injection h with _ h; cases h
 ·rename_i hn
  split at h
  ·injection h with _ h; cases h
  ·split at h
   ·injection h with _ h; cases h
   ·rename_i i hi
    obtain ⟨y, hy⟩ := find_get hi
    refine ⟨by simpa using hn, i, y, hi, hy, ?_⟩
    injection h with h _
    rw [← h]
    simp [List.getD_eq_getElem?_getD, hy]
theorem find_gone {ss : List ST} {base table : ByteArray} (hp : 0 < ss.length) (hn : nameB base table = true) (h : findIx (lastOf ss).f2 base table = none) : findBy ss ((ss.length : Int) - 1) base table = (AE.zero, 4) := by
 have hl := last_at hp
 have e : ss.getD ((ss.length : Int) - 1).toNat z71 = lastOf ss := by
  rw [show ((ss.length : Int) - 1).toNat = ss.length - 1 by omega]
  simp [List.getD_eq_getElem?_getD, hl]
 unfold findBy
 rw [hn, if_neg (by simp), if_neg (by omega), e, h]
theorem keeps_bd {n : Int} {es : List EN} (h : EInv n es) {y : EN} (hy : y ∈ es) : 0 ≤ keepsBy es y ∧ keepsBy es y ≤ 1000000000 := by
 have key : ∀ (l : List AE), (∀ a ∈ l, 0 ≤ a.f5) → ∀ k : Int, 0 ≤ k ∧ k ≤ 1000000000 → 0 ≤ l.foldl (fun k t => min k t.f5) k ∧ l.foldl (fun k t => min k t.f5) k ≤ 1000000000 := by
  intro l
  induction l with
  | nil => intro _ k hk; exact hk
  | cons a r ih =>
   intro ha k hk
   refine ih (fun b hb => ha b (by simp [hb])) _ ?_
   have := ha a (by simp)
   show 0 ≤ min k a.f5 ∧ min k a.f5 ≤ 1000000000
   omega
 unfold keepsBy
 split
 ·refine key _ (fun a ha => ?_) _ (h.keep y hy)
  obtain ⟨u, hu, rfl, -, -⟩ := in_mem ha
  exact (h.keep u hu).1
 ·exact h.keep y hy
def leastK (l : List AE) (k : Int) (j : Nat) : Int := (l.take j).foldl (fun k t => min k t.f5) k
theorem leastK_step {l : List AE} {k : Int} {j : Nat} {x : AE} (h : l[j]? = some x) : leastK l k (j + 1) = min (leastK l k j) x.f5 := by
 obtain ⟨hj, he⟩ := List.getElem?_eq_some_iff.1 h
 unfold leastK
 rw [List.take_succ_eq_append_getElem hj, he, List.foldl_append]
 rfl
set_option maxRecDepth 100000 in
set_option maxHeartbeats 8000000 in
theorem keeps_any (cb : Nat) (v : Value) (ss : List ST) (y : EN) (A3 : Option Addr) (c3 : Nat) (A4 : Option Addr) (c4 : Nat) (w : World) (h : CatAt w cb v ss) (hE : CatOk ss) (hI : EInv ((ss.length - 1 : Nat) : Int) (lastOf ss).f2) (hy : y ∈ (lastOf ss).f2) (hl : ss.length ≤ 4000) :
  Calls Try.prog 20 #[.pointer (some ⟨cb, 0, none⟩), apiV y.f0 (.slice A3 y.f0.f3.length c3) (.slice A4 y.f0.f4.length c4)] w fun e w' => e = .returned (.int .i64 (keepsBy (lastOf ss).f2 y)) ∧ Fr [] w w' := by
 unfold apiV
 have F0 := hid ((Fr.refl [] w).alloc (.cells #[.int .i64 y.f0.f0, .string y.f0.f1, .string y.f0.f2, .slice A3 y.f0.f3.length c3, .slice A4 y.f0.f4.length c4, .int .i64 y.f0.f5, .int .i64 y.f0.f6, .int .i64 y.f0.f7, .int .i64 y.f0.f8] 49))
 have H := hid (h.fr0 F0.out)
 have hpos := h.pos
 have HL := last_at hpos
 have hents := h.ents
 obtain ⟨g2, cc, hu2, -, -⟩ := h.form
 subst hu2
 by_cases ht : y.f0.f2.toList = []
 ·have ht1 : y.f0.f2.toList.isEmpty = true := by simp [ht]
  have hk := hid (show keepsBy (lastOf ss).f2 y = leastK (picked (isIn y.f0.f0) (lastOf ss).f2) y.f0.f5 (picked (isIn y.f0.f0) (lastOf ss).f2).length by unfold keepsBy leastK; rw [if_pos ht, List.take_length])
  have hw := withinBy_at HL hI hy
  rw [if_pos ht] at hw
  have WI := hid (fun (W : World) (f : Fr [] (w.alloc (.cells #[.int .i64 y.f0.f0, .string y.f0.f1, .string y.f0.f2, .slice A3 y.f0.f3.length c3, .slice A4 y.f0.f4.length c4, .int .i64 y.f0.f5, .int .i64 y.f0.f6, .int .i64 y.f0.f7, .int .i64 y.f0.f8] 49)) W) => within_any cb _ ss ((ss.length - 1 : Nat) : Int) y.f0.f0 W (H.out.fr0 f) hE)
  rw [hw] at WI
  have hci : ((ss.length - 1 : Nat) : Int) = (ss.length : Int) - 1 := by omega
  rw [hci] at WI
  have CN := hid (fun (W : World) (f : Fr [] (w.alloc (.cells #[.int .i64 y.f0.f0, .string y.f0.f1, .string y.f0.f2, .slice A3 y.f0.f3.length c3, .slice A4 y.f0.f4.length c4, .int .i64 y.f0.f5, .int .i64 y.f0.f6, .int .i64 y.f0.f7, .int .i64 y.f0.f8] 49)) W) => count_yes cb _ ss.length cc W (H.out.fr0 f).c0 hpos (by omega))
  have hpl : (picked (isIn y.f0.f0) (lastOf ss).f2).length ≤ 4000 := Nat.le_trans (picked_len _ _) (hents _ (last_mem hpos))
  obtain ⟨L, hL⟩ : ∃ L, L = picked (isIn y.f0.f0) (lastOf ss).f2 := ⟨_, rfl⟩
  rw [← hL] at hk WI hpl
  clear ht hw hci hI hy hE h HL hL hents
  go_enter Try.func20, Try.ntmps20
  go_wp2_with fail
  have B0 := heap_alloc_new w (.cells #[.int .i64 y.f0.f0, .string y.f0.f1, .string y.f0.f2, .slice A3 y.f0.f3.length c3, .slice A4 y.f0.f4.length c4, .int .i64 y.f0.f5, .int .i64 y.f0.f6, .int .i64 y.f0.f7, .int .i64 y.f0.f8] 49)
  obtain ⟨w1, hw1⟩ : ∃ w1, w1 = (w.alloc (.cells #[.int .i64 y.f0.f0, .string y.f0.f1, .string y.f0.f2, .slice A3 y.f0.f3.length c3, .slice A4 y.f0.f4.length c4, .int .i64 y.f0.f5, .int .i64 y.f0.f6, .int .i64 y.f0.f7, .int .i64 y.f0.f8] 49)) := ⟨_, rfl⟩
  rw [← hw1] at F0 H WI CN B0 ⊢
  obtain ⟨eb, heb⟩ : ∃ eb, eb = w.heap.size := ⟨_, rfl⟩
  rw [← heb] at B0 ⊢
  have k0 := cell_of_row w1 eb 0 _ _ _ B0
  simp at k0
  clear B0 hw1 heb
  have S0 := hid k0
  have k0d := (Fr.refl [] w1).drew.cell0 k0
  clear k0
  go_region_held3 (fun w' => w'.cell? ⟨eb, 0, none⟩ = some (.int .i64 y.f0.f0)) ((with_reducible first | exact S0.out | exact k0d | exact S2)) (first
   | (go_at_call 13; refine (CN.out _ (Fr.refl [] w1).drew).mono ?_; rintro e w2 ⟨rfl, rfl⟩)
   | (go_at_call 41; refine (WI.out _ (Fr.refl [] w1).drew).mono ?_; rintro e w2 ⟨u, rfl, hr, f2, -⟩; obtain ⟨U, uc, rfl⟩ := Kd.R_slice hr; have R2 := hid hr; have F2 := hid (F0.out.drew.then f2); have S2 := f2.cell0 k0d; clear hr f2))
  clear S2 k0d
  go_wp2
  go_loop [5, 8] (fun k i => ∃ j : Nat, i = .int .i64 j ∧ j ≤ L.length ∧ k = .int .i64 (leastK L y.f0.f5 j)) (fun _ i => L.length - (intOf i).toNat)
  case atStart => exact ⟨0, rfl, Nat.zero_le _, rfl⟩
  case round =>
   obtain ⟨j, rfl, hj, rfl⟩ := hrel
   by_cases hlt : j < L.length
   ·obtain ⟨x, hx⟩ : ∃ x, L[j]? = some x := ⟨_, List.getElem?_eq_getElem hlt⟩
    obtain ⟨-, -, hC⟩ := Kd.R_reads' R2.out
    obtain ⟨b, o, B3, b3, B4, b4, e, -, -, -, -, -, m5, -, -, -⟩ := entries_at (xs := L) hC hx
    subst e
    have hs := hid (leastK_step (k := y.f0.f5) hx)
    have hj0 : (0 : Int) ≤ (j : Int) := by omega
    have hj1 : (j : Int) < (L.length : Int) := by omega
    obtain ⟨K, hK⟩ : ∃ K, K = leastK L y.f0.f5 j := ⟨_, rfl⟩
    rw [← hK] at hs ⊢
    clear hx hC hK
    go_wp2
    go_round
    case rel => exact ⟨j + 1, by go_num, by omega, by rw [hs.out]⟩
    case measure => simp [intOf]; omega
   ·obtain rfl : j = L.length := by omega
    go_wp2
    go_ret
    exact ⟨by rw [hk.out]; rfl, F2.out⟩
 ·have ht1 : y.f0.f2.toList.isEmpty = false := by simpa using ht
  have hk := hid (show keepsBy (lastOf ss).f2 y = y.f0.f5 by unfold keepsBy; rw [if_neg ht])
  clear ht hI hy hE h HL hents
  go_enter Try.func20, Try.ntmps20
  go_wp2
  go_ret
  exact ⟨by rw [hk.out]; rfl, F0.out⟩
end Go.Proofs.Ytcfgcmjnailndaa
