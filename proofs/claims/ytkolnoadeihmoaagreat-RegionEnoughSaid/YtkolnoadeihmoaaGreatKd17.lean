/-
  Regions: a valid entry.
  Regions: set, fail.
  Regions: fail.
  Plain: a valid entry is well made; regions of well-made entries; what a call leaves.
  What is the same is told to be: numbers, columns, deeds, entries of logs, states.
  Regions: records cloned.
  Regions: ship. (Printed by gen_rj.py.)
-/
import Derived.Test.YtkolnoadeihmoaaGreatKd14
import Derived.Test.YtkolnoadeihmoaaGreatKd16
import Derived.Test.YtkolnoadeihmoaaGreatKd11
namespace Go.Proofs.YtkolnoadeihmoaaGreat
open Go.RowKit Go.Proofs.YtkolnoadeihmoaaGreatW.PrintWords
set_option maxRecDepth 100000 in
theorem valid1_any (HV : ValidSays) (x : DE) (A4 : Option Addr) (c4 : Nat) (A6 : Option Addr) (c6 : Nat) (w : World) (r4 : kC.C w A4 x.f4.length x.f4) (r6 : kI.C w A6 x.f6.length x.f6) (hi : DeedIn x) :
    Calls Tryz.prog 90 #[deedV x A4 c4 A6 c6] w fun e w' => e = .returned (.bool (!validB x)) ∧ Fr [] w w' := by
  have F1 := hid ((((Fr.refl [] w).alloc (.cells #[.string x.f0, .string x.f1, .string x.f2, .string x.f3, .slice A4 x.f4.length c4, .int .i64 x.f5, .slice A6 x.f6.length c6] 135))))
  have HC := hid (HV x A4 c4 A6 c6 _ (Kd.C_below r4 F1.out.below0) (Kd.C_below r6 F1.out.below0) hi)
  unfold deedV at HC ⊢
  clear r4 r6 hi
  go_enter Tryz.func90, Tryz.ntmps90
  go_wp2_with (go_at_call 91; refine HC.out.mono ?_; rintro e w3 ⟨rfl, f3⟩)
  go_ret
  exact ⟨rfl, F1.out.then f3⟩
set_option maxRecDepth 100000 in
theorem vindex_any (HV : ValidSays) (A : Option Addr) (c : Nat) (xs : List DE) (w : World) (hC : Kd.C k135 w A xs.length xs) (hl : xs.length ≤ 9223372036854775807) (hi : ∀ y ∈ xs, DeedIn y) :
    Calls Tryz.prog 134 #[.slice A xs.length c, .func (.func 90) #[] #[]] w fun e w' => e = .returned (.int .i64 (badIx xs)) ∧ Fr [] w w' := by
  have HC := hid hC
  have HI := hid hi
  have HVV := hid HV
  clear hC hi HV
  go_enter Tryz.func134, Tryz.ntmps134
  go_wp2
  go_loopw [8] (fun i wr => ∃ k : Nat, i = .int .i64 k ∧ k ≤ xs.length ∧ (∀ j y, j < k → xs[j]? = some y → validB y = true) ∧ Fr [] w wr) (fun i _ => xs.length - (intOf i).toNat)
  case atStart => exact ⟨0, rfl, Nat.zero_le _, fun j x hj => absurd hj (Nat.not_lt_zero _), Fr.refl _ _⟩
  case round =>
    obtain ⟨k, rfl, hk, hb, hF⟩ := hrel
    have HB := hid hb
    have HF := hid hF
    clear hb hF
    by_cases hlt : k < xs.length
    · obtain ⟨x, hx⟩ : ∃ x, xs[k]? = some x := ⟨_, List.getElem?_eq_getElem hlt⟩
      obtain ⟨b, off, A4, c4, A6, c6, eA, hat⟩ := deeds_at HC.out hx
      have hxi := kDeedIn HI.out hx
      subst eA
      obtain ⟨d0, d1, d2, d3, d4, d5, d6, l4, r4, l6, r6⟩ := hat.fr HF.out
      have HCALL := hid (valid1_any HVV.out x A4 c4 A6 c6 wr r4 r6 hxi)
      unfold deedV at HCALL
      have HX := hid hx
      have hm0 : (0 : Int) ≤ (k : Int) := by omega
      have hm1 : (k : Int) < (xs.length : Int) := by omega
      obtain ⟨vb, hvb⟩ : ∃ vb, vb = validB x := ⟨_, rfl⟩
      rw [← hvb] at HCALL
      have HVB := hid hvb
      clear hat r4 r6 hx hxi hvb
      cases vb with
      | false =>
        go_wp2_with (go_at_call 90; refine HCALL.out.mono ?_; rintro e w3 ⟨rfl, f3⟩)
        go_ret
        refine ⟨?_, HF.out.then f3⟩
        rw [bad_at HB.out HX.out HVB.out.symm]
        rfl
      | true =>
        go_wp2_with (go_at_call 90; refine HCALL.out.mono ?_; rintro e w3 ⟨rfl, f3⟩)
        go_roundw
        case rel =>
          refine ⟨k + 1, by go_num, by omega, fun j y hj hy => ?_, HF.out.then f3⟩
          rcases Nat.lt_succ_iff_lt_or_eq.1 hj with h | rfl
          · exact HB.out j y h hy
          · rw [HX.out] at hy; cases hy; exact HVB.out.symm
        case measure => simp [intOf]; omega
    · obtain rfl : k = xs.length := by omega
      go_wp2
      go_ret
      rw [bad_none HB.out]
      exact ⟨rfl, HF.out⟩
set_option maxRecDepth 100000 in
theorem vcontains_any (HV : ValidSays) (A : Option Addr) (c : Nat) (xs : List DE) (w : World) (hC : Kd.C k135 w A xs.length xs) (hl : xs.length ≤ 9223372036854775807) (hi : ∀ y ∈ xs, DeedIn y) :
    Calls Tryz.prog 89 #[.slice A xs.length c, .func (.func 90) #[] #[]] w fun e w' => e = .returned (.bool (anyBad xs)) ∧ Fr [] w w' := by
  have HCALL := hid (vindex_any HV A c xs w hC hl hi)
  unfold anyBad
  generalize badIx xs = r at HCALL ⊢
  clear HV hC hi
  go_enter Tryz.func89, Tryz.ntmps89
  go_wp2_with (go_at_call 134; refine HCALL.out.mono ?_; rintro e w3 ⟨rfl, f3⟩)
  go_ret
  exact ⟨rfl, f3⟩
def okAt (l : List BL) (i : Nat) : Bool := match l[i]? with
  | some f => decide (1 ≤ f.f0) && decide (f.f0 ≤ 4000) && decide (f.f1.size ≤ 8388608) && (match i with
    | 0 => true
    | j + 1 => match l[j]? with
      | some g => decide (g.f0 < f.f0)
      | none => true)
  | none => true
theorem ok_lo {l : List BL} {i : Nat} {f : BL} (h : l[i]? = some f) (h1 : f.f0 < 1) : okAt l i = false := by
  unfold okAt; rw [h]; have : decide (1 ≤ f.f0) = false := by simp; omega
  simp [this]
theorem ok_hi {l : List BL} {i : Nat} {f : BL} (h : l[i]? = some f) (h1 : 4000 < f.f0) : okAt l i = false := by
  unfold okAt; rw [h]; have : decide (f.f0 ≤ 4000) = false := by simp; omega
  simp [this]
theorem ok_sz {l : List BL} {i : Nat} {f : BL} (h : l[i]? = some f) (h1 : 8388608 < f.f1.size) : okAt l i = false := by
  unfold okAt; rw [h]; have : decide (f.f1.size ≤ 8388608) = false := by simp; omega
  simp [this]
theorem ok_pr {l : List BL} {i : Nat} {f g : BL} (h : l[i + 1]? = some f) (hg : l[i]? = some g) (h1 : f.f0 ≤ g.f0) : okAt l (i + 1) = false := by
  unfold okAt; rw [h]; have : decide (g.f0 < f.f0) = false := by simp; omega
  simp [hg, this]
theorem ok_0 {l : List BL} {f : BL} (h : l[0]? = some f) (h1 : ¬ f.f0 < 1) (h2 : ¬ 4000 < f.f0) (h3 : ¬ 8388608 < f.f1.size) : okAt l 0 = true := by
  unfold okAt; rw [h]; simp; omega
theorem ok_s {l : List BL} {i : Nat} {f g : BL} (h : l[i + 1]? = some f) (hg : l[i]? = some g) (h1 : ¬ f.f0 < 1) (h2 : ¬ 4000 < f.f0) (h3 : ¬ 8388608 < f.f1.size) (h4 : g.f0 < f.f0) : okAt l (i + 1) = true := by
  unfold okAt; rw [h]; simp [hg]; omega
def tailB (x : LO) (bad : Bool) : Bool := decide (1 ≤ x.f0.length) && (decide (x.f0.length ≤ 60) && (!bad && (decide (0 ≤ x.f1) && (decide (x.f1 ≤ 1000000000) && (decide (1 ≤ x.f3) && decide (x.f3 ≤ 1000000001))))))
def logB (x : LO) : Bool := (List.range x.f2.length).all (okAt x.f2) && tailB x (anyBad x.f0)
theorem log_bad {x : LO} {k : Nat} (hk : k < x.f2.length) (h : okAt x.f2 k = false) : logB x = false := by
  unfold logB
  have : (List.range x.f2.length).all (okAt x.f2) = false := by
    rw [List.all_eq_false]
    exact ⟨k, List.mem_range.2 hk, by simp [h]⟩
  rw [this]; rfl
theorem log_good {x : LO} (h : ∀ j, j < x.f2.length → okAt x.f2 j = true) : logB x = tailB x (anyBad x.f0) := by
  unfold logB
  have : (List.range x.f2.length).all (okAt x.f2) = true := by
    rw [List.all_eq_true]
    intro j hj
    exact h j (List.mem_range.1 hj)
  rw [this]; rfl
theorem blob_at {w : World} {A : Option Addr} {n k : Nat} {xs : List BL} {x : BL} (h : Kd.C kB w A n xs) (hx : xs[k]? = some x) :
    ∃ b off, A = some ⟨b, off, none⟩ ∧ w.cell? ⟨b, off + k * 2, none⟩ = some (.int .i64 x.f0) ∧ w.cell? ⟨b, off + k * 2 + 1, none⟩ = some (.string x.f1) := by
  have hk := (List.getElem?_eq_some_iff.1 hx).1
  have hn : xs.length = n := h.1
  obtain ⟨ad, e, h0, h1⟩ := at_T112 h (k : Int) (by omega) (by omega)
  have ex : rd_T112 xs (k : Int) = x := by simp [rd_T112, List.getD_eq_getElem?_getD, hx]
  rw [ex] at h0 h1
  have hsp : ad.spot = none := by
    obtain ⟨ad', e', h0', _⟩ := at_T112 h 0 (by omega) (by omega)
    rw [e] at e'
    cases e'
    have hs := spot_none h0'
    simpa [Addr.add] using hs
  rw [addr_plain hsp] at e
  have ea : ad.add (((k : Int)).toNat * 2) = ⟨ad.block, ad.off + k * 2, none⟩ := by rw [addr_plain hsp, add_mk]; simp
  rw [ea] at h0 h1
  exact ⟨ad.block, ad.off, e, h0, h1⟩
structure LogIn (x : LO) : Prop where
  d : ∀ y ∈ x.f0, DeedIn y
  l0 : x.f0.length ≤ 9223372036854775807
  l2 : x.f2.length ≤ 9223372036854775807
  s2 : ∀ y ∈ x.f2, y.f1.size ≤ maxLen
set_option maxRecDepth 100000 in
set_option maxHeartbeats 4000000 in
theorem valid_any (HV : ValidSays) (x : LO) (A0 : Option Addr) (c0 : Nat) (A2 : Option Addr) (c2 : Nat) (w : World) (h0 : Kd.C k135 w A0 x.f0.length x.f0) (h2 : kB.C w A2 x.f2.length x.f2) (hok : LogIn x) :
    Calls Tryz.prog 53 #[logV x (.slice A0 x.f0.length c0) (.slice A2 x.f2.length c2)] w fun e w' => e = .returned (.bool (logB x)) ∧ Fr [] w w' := by
  have HCON := hid (fun w1 (f : Fr [] w w1) => vcontains_any HV A0 c0 x.f0 w1 (Kd.C_below h0 f.below0) hok.l0 hok.d)
  have H2 := hid h2
  have OK := hid hok
  have F0 := hid ((Fr.refl [] w).alloc (.cells #[.slice A0 x.f0.length c0, .int .i64 x.f1, .slice A2 x.f2.length c2, .int .i64 x.f3] 40))
  have b0 := heap_alloc_new w (.cells #[.slice A0 x.f0.length c0, .int .i64 x.f1, .slice A2 x.f2.length c2, .int .i64 x.f3] 40)
  have B0 := hid b0
  have l2 := hok.l2
  have l0 := hok.l0
  clear h0 h2 hok HV b0
  unfold logV
  go_enter Tryz.func53, Tryz.ntmps53
  go_wp2
  generalize w.alloc (.cells #[.slice A0 x.f0.length c0, .int .i64 x.f1, .slice A2 x.f2.length c2, .int .i64 x.f3] 40) = w1 at F0 B0 ⊢
  go_loopw [8] (fun i wr => ∃ k : Nat, i = .int .i64 k ∧ k ≤ x.f2.length ∧ (∀ j, j < k → okAt x.f2 j = true) ∧ Fr [] w1 wr) (fun i _ => x.f2.length - (intOf i).toNat)
  case atStart => exact ⟨0, rfl, Nat.zero_le _, fun j hj => absurd hj (Nat.not_lt_zero _), Fr.refl _ _⟩
  case round =>
    obtain ⟨k, rfl, hk, hb, hF⟩ := hrel
    have HB := hid hb
    have HF := hid hF
    have br := hF.blk B0.out (by simp)
    have q0 := cell_of_row wr w.heap.size 0 _ _ _ br
    have q1 := cell_of_row wr w.heap.size 1 _ _ _ br
    have q2 := cell_of_row wr w.heap.size 2 _ _ _ br
    have q3 := cell_of_row wr w.heap.size 3 _ _ _ br
    simp at q0 q1 q2 q3
    clear hb hF br
    by_cases hlt : k < x.f2.length
    · obtain ⟨y, hy⟩ : ∃ y, x.f2[k]? = some y := ⟨_, List.getElem?_eq_getElem hlt⟩
      obtain ⟨b, off, eA, e0, e1⟩ := blob_at H2.out hy
      subst eA
      have d0 := (F0.out.then HF.out).cell0 e0
      have d1 := (F0.out.then HF.out).cell0 e1
      have HY := hid hy
      have hm0 : (0 : Int) ≤ (k : Int) := by omega
      have hm1 : (k : Int) < (x.f2.length : Int) := by omega
      clear e0 e1 hy
      by_cases a1 : y.f0 < 1
      · have n1 : decide (y.f0 < 1) = true := by simp; omega
        go_wp2_with fail
        go_quiet (fail)
        go_wp2
        go_ret
        exact ⟨by rw [log_bad hlt (ok_lo HY.out a1)]; rfl, F0.out.then ((HF.out.alloc _).drewN _)⟩
      · have n1 : decide (y.f0 < 1) = false := by simp; omega
        by_cases a2 : 4000 < y.f0
        · have n2 : decide (4000 < y.f0) = true := by simp; omega
          go_wp2_with fail
          go_quiet (fail)
          go_wp2
          go_ret
          exact ⟨by rw [log_bad hlt (ok_hi HY.out a2)]; rfl, F0.out.then ((HF.out.alloc _).drewN _)⟩
        · have n2 : decide (4000 < y.f0) = false := by simp; omega
          by_cases a3 : 8388608 < y.f1.size
          · have n3 : decide ((8388608 : Int) < (y.f1.size : Int)) = true := by simp; omega
            have n3' : (8388608 : Int) < (y.f1.size : Int) := by omega
            go_wp2_with fail
            go_quiet (fail)
            go_wp2
            go_ret
            exact ⟨by rw [log_bad hlt (ok_sz HY.out a3)]; rfl, F0.out.then ((HF.out.alloc _).drewN _)⟩
          · have n3 : decide ((8388608 : Int) < (y.f1.size : Int)) = false := by simp; omega
            by_cases hk0 : k = 0
            · have hk1 : decide ((0 : Int) < (k : Int)) = false := by simp; omega
              have hk1' : decide (0 < k) = false := by simp; omega
              have G := hid (show ∀ i, i = k → okAt x.f2 i = true by
                rintro i rfl
                subst hk0
                exact ok_0 HY.out a1 a2 a3)
              clear hk0
              go_wp2_with fail
              go_quiet (fail)
              go_wp2
              go_roundw
              case rel =>
                refine ⟨k + 1, by go_num, by omega, fun i hi => ?_, (HF.out.alloc _).drewN _⟩
                rcases Nat.lt_succ_iff_lt_or_eq.1 hi with h | h0
                · exact HB.out i h
                · exact G.out i h0
              case measure => simp [intOf]; omega
            · obtain ⟨j, hj⟩ : ∃ j, k = j + 1 := ⟨k - 1, by omega⟩
              obtain ⟨z, hz⟩ : ∃ z, x.f2[j]? = some z := ⟨_, List.getElem?_eq_getElem (by omega)⟩
              obtain ⟨b', off', eA', e0', e1'⟩ := blob_at H2.out hz
              cases eA'
              have d2 := ((F0.out.then HF.out).alloc (.cells #[.int .i64 y.f0, .string y.f1] 112)).cell0 e0'
              have q2a := ((Fr.refl [] wr).alloc (.cells #[.int .i64 y.f0, .string y.f1] 112)).cell0 q2
              have hs0 : decide ((0 : Int) < (k : Int)) = true := by simp; omega
              have hs0n : decide (0 < k) = true := by simp; omega
              have hs0m : 0 < k := by omega
              have hs0' : (0 : Int) < (k : Int) := by omega
              have hs1 : IntKind.i64.wrap ((k : Int) - 1) = (j : Int) := by rw [IntWalk.i64_in _ (by omega)]; omega
              have hs2 : (0 : Int) ≤ (j : Int) := by omega
              have hs3 : (j : Int) < (x.f2.length : Int) := by omega
              by_cases a4 : y.f0 ≤ z.f0
              · have n4 : decide (y.f0 ≤ z.f0) = true := by simp; omega
                have G := hid (show okAt x.f2 k = false by subst hj; exact ok_pr HY.out hz a4)
                clear e0' e1' hz hj hk0
                go_wp2_with fail
                go_quiet (fail)
                go_wp2
                go_ret
                exact ⟨by rw [log_bad hlt (G.out)]; rfl, F0.out.then ((HF.out.alloc _).drewN _)⟩
              · have n4 : decide (y.f0 ≤ z.f0) = false := by simp; omega
                have G := hid (show ∀ i, i = k → okAt x.f2 i = true by
                  rintro i rfl
                  subst hj
                  exact ok_s HY.out hz a1 a2 a3 (by omega))
                clear e0' e1' hz hj hk0
                go_wp2_with fail
                go_quiet (fail)
                go_wp2
                go_roundw
                case rel =>
                  refine ⟨k + 1, by go_num, by omega, fun i hi => ?_, (HF.out.alloc _).drewN _⟩
                  rcases Nat.lt_succ_iff_lt_or_eq.1 hi with h | h0
                  · exact HB.out i h
                  · exact G.out i h0
                case measure => simp [intOf]; omega
    · obtain rfl : k = x.f2.length := by omega
      have G := hid (log_good HB.out)
      obtain ⟨bad, hbad⟩ : ∃ bad, bad = anyBad x.f0 := ⟨_, rfl⟩
      rw [← hbad] at HCON G
      clear hbad hlt HB
      by_cases c0 : x.f0.length < 1
      · have p0 : decide ((1 : Int) ≤ (x.f0.length : Int)) = false := decide_eq_false (by omega)
        have p0n : decide (1 ≤ x.f0.length) = false := decide_eq_false (by omega)
        have p0p : ¬ (1 : Int) ≤ (x.f0.length : Int) := by omega
        have E := hid (show logB x = false by rw [G.out]; unfold tailB; simp; omega)
        go_wp2_with fail
        go_ret
        exact ⟨by rw [E.out]; rfl, F0.out.then HF.out⟩
      · have p0 : decide ((1 : Int) ≤ (x.f0.length : Int)) = true := decide_eq_true (by omega)
        have p0n : decide (1 ≤ x.f0.length) = true := decide_eq_true (by omega)
        have p0p : (1 : Int) ≤ (x.f0.length : Int) := by omega
        by_cases c1 : 60 < x.f0.length
        · have p1 : decide ((x.f0.length : Int) ≤ 60) = false := decide_eq_false (by omega)
          have p1n : decide (x.f0.length ≤ 60) = false := decide_eq_false (by omega)
          have p1p : ¬ (x.f0.length : Int) ≤ 60 := by omega
          have E := hid (show logB x = false by rw [G.out]; unfold tailB; simp; omega)
          go_wp2_with fail
          go_ret
          exact ⟨by rw [E.out]; rfl, F0.out.then HF.out⟩
        · have p1 : decide ((x.f0.length : Int) ≤ 60) = true := decide_eq_true (by omega)
          have p1n : decide (x.f0.length ≤ 60) = true := decide_eq_true (by omega)
          have p1p : (x.f0.length : Int) ≤ 60 := by omega
          cases bad with
          | true =>
            have E := hid (show logB x = false by rw [G.out]; unfold tailB; simp)
            go_wp2_with (go_at_call 89; refine (HCON.out wr (F0.out.then HF.out)).mono ?_; rintro e w3 ⟨rfl, f3⟩; have q1a := f3.cell0 q1; have q3a := f3.cell0 q3; have F3 := hid f3; clear f3)
            go_ret
            exact ⟨by rw [E.out]; rfl, F0.out.then (HF.out.then F3.out)⟩
          | false =>
            by_cases c3 : x.f1 < 0
            · have p3 : decide ((0 : Int) ≤ x.f1) = false := decide_eq_false (by omega)
              have p3p : ¬ (0 : Int) ≤ x.f1 := by omega
              have E := hid (show logB x = false by rw [G.out]; unfold tailB; simp; omega)
              go_wp2_with (go_at_call 89; refine (HCON.out wr (F0.out.then HF.out)).mono ?_; rintro e w3 ⟨rfl, f3⟩; have q1a := f3.cell0 q1; have q3a := f3.cell0 q3; have F3 := hid f3; clear f3)
              go_ret
              exact ⟨by rw [E.out]; rfl, F0.out.then (HF.out.then F3.out)⟩
            · have p3 : decide ((0 : Int) ≤ x.f1) = true := decide_eq_true (by omega)
              have p3p : (0 : Int) ≤ x.f1 := by omega
              by_cases c4 : 1000000000 < x.f1
              · have p4 : decide (x.f1 ≤ (1000000000 : Int)) = false := decide_eq_false (by omega)
                have p4p : ¬ x.f1 ≤ (1000000000 : Int) := by omega
                have E := hid (show logB x = false by rw [G.out]; unfold tailB; simp; omega)
                go_wp2_with (go_at_call 89; refine (HCON.out wr (F0.out.then HF.out)).mono ?_; rintro e w3 ⟨rfl, f3⟩; have q1a := f3.cell0 q1; have q3a := f3.cell0 q3; have F3 := hid f3; clear f3)
                go_ret
                exact ⟨by rw [E.out]; rfl, F0.out.then (HF.out.then F3.out)⟩
              · have p4 : decide (x.f1 ≤ (1000000000 : Int)) = true := decide_eq_true (by omega)
                have p4p : x.f1 ≤ (1000000000 : Int) := by omega
                by_cases c5 : x.f3 < 1
                · have p5 : decide ((1 : Int) ≤ x.f3) = false := decide_eq_false (by omega)
                  have p5p : ¬ (1 : Int) ≤ x.f3 := by omega
                  have E := hid (show logB x = false by rw [G.out]; unfold tailB; simp; omega)
                  go_wp2_with (go_at_call 89; refine (HCON.out wr (F0.out.then HF.out)).mono ?_; rintro e w3 ⟨rfl, f3⟩; have q1a := f3.cell0 q1; have q3a := f3.cell0 q3; have F3 := hid f3; clear f3)
                  go_ret
                  exact ⟨by rw [E.out]; rfl, F0.out.then (HF.out.then F3.out)⟩
                · have p5 : decide ((1 : Int) ≤ x.f3) = true := decide_eq_true (by omega)
                  have p5p : (1 : Int) ≤ x.f3 := by omega
                  by_cases c6 : 1000000001 < x.f3
                  · have p6 : decide (x.f3 ≤ (1000000001 : Int)) = false := decide_eq_false (by omega)
                    have p6p : ¬ x.f3 ≤ (1000000001 : Int) := by omega
                    have E := hid (show logB x = false by rw [G.out]; unfold tailB; simp; omega)
                    go_wp2_with (go_at_call 89; refine (HCON.out wr (F0.out.then HF.out)).mono ?_; rintro e w3 ⟨rfl, f3⟩; have q1a := f3.cell0 q1; have q3a := f3.cell0 q3; have F3 := hid f3; clear f3)
                    go_ret
                    exact ⟨by rw [E.out]; rfl, F0.out.then (HF.out.then F3.out)⟩
                  · have p6 : decide (x.f3 ≤ (1000000001 : Int)) = true := decide_eq_true (by omega)
                    have p6p : x.f3 ≤ (1000000001 : Int) := by omega
                    have E := hid (show logB x = true by rw [G.out]; unfold tailB; simp; omega)
                    go_wp2_with (go_at_call 89; refine (HCON.out wr (F0.out.then HF.out)).mono ?_; rintro e w3 ⟨rfl, f3⟩; have q1a := f3.cell0 q1; have q3a := f3.cell0 q3; have F3 := hid f3; clear f3)
                    go_ret
                    exact ⟨by rw [E.out]; rfl, F0.out.then (HF.out.then F3.out)⟩
def blks (rb : Nat) (us : List (Nat × Value)) : List Nat := rb :: us.flatMap fun a => a.1 :: a.2.ownBlock.toList
def Did (rb mb : Nat) (us : List (Nat × Value)) (R' : RG) (v : Value) (w : World) (e : Ending) (w' : World) : Prop :=
  ∃ us', e = .returned v ∧ RegAt w' rb mb us' R' ∧ Fr (blks rb us) w w' ∧ ∀ k ∈ blks rb us', k ∈ blks rb us ∨ w.heap.size ≤ k
theorem Did.same {rb mb : Nat} {us : List (Nat × Value)} {R : RG} {v : Value} {w w' : World} (h : RegAt w rb mb us R) (f : Fr [] w w') : Did rb mb us R v w (.returned v) w' :=
  ⟨us, rfl, h.fr0 f, f.mono (by simp), fun _ hk => .inl hk⟩
theorem blks_at {rb i : Nat} {us : List (Nat × Value)} {a : Nat × Value} (ha : us[i]? = some a) : a.1 ∈ blks rb us ∧ ∀ k, a.2.ownBlock = some k → k ∈ blks rb us := by
  have hm : a ∈ us := List.mem_iff_getElem?.2 ⟨i, ha⟩
  unfold blks
  exact ⟨List.mem_cons_of_mem _ (List.mem_flatMap.2 ⟨a, hm, by simp⟩), fun k hk => List.mem_cons_of_mem _ (List.mem_flatMap.2 ⟨a, hm, by simp [hk]⟩)⟩
theorem blks_set {rb i : Nat} {us : List (Nat × Value)} {a : Nat × Value} {v' : Value} {k : Nat} (ha : us[i]? = some a) (h : k ∈ blks rb (us.set i (a.1, v'))) : k ∈ blks rb us ∨ v'.ownBlock = some k := by
  unfold blks at h
  rcases List.mem_cons.1 h with rfl | h
  · exact .inl (List.mem_cons_self ..)
  · obtain ⟨b, hb, hk⟩ := List.mem_flatMap.1 h
    rcases List.mem_or_eq_of_mem_set hb with hb | rfl
    · left
      unfold blks
      exact List.mem_cons_of_mem _ (List.mem_flatMap.2 ⟨b, hb, hk⟩)
    · rcases List.mem_cons.1 hk with rfl | hk
      · exact .inl (blks_at ha).1
      · right; simpa using hk
theorem place_up {rb mb i : Nat} {us : List (Nat × Value)} {R : RG} {n : ByteArray} {p : RP} {a : Nat × Value} {w : World} (h : RegAt w rb mb us R) (hn : (R.places.map (·.1)).Nodup) (hi : R.places[i]? = some (n, p)) (ha : us[i]? = some a) (up : Bool) :
    RegAt (w.setCell ⟨a.1, 0, none⟩ (.bool up)) rb mb (us.set i (a.1, a.2)) (R.put n { p with up := up }) ∧ Fr [a.1] w (w.setCell ⟨a.1, 0, none⟩ (.bool up)) := by
  have f : Fr [a.1] w (w.setCell ⟨a.1, 0, none⟩ (.bool up)) := (Fr.refl _ _).setCell (.inl (by simp)) _
  have hp := h.pl i _ a hi ha
  refine ⟨h.put hn hi ha (f.mono (fun k hk => .inl (by simp at hk; subst hk; simp))) ⟨?_, ?_⟩ (fun k hk => .inl hk), f⟩
  · have := blk_setCell hp.blk 0 (.bool up)
    simp only [List.setIfInBounds_toArray, List.set_cons_zero] at this
    exact this
  · refine R_fr2 hp.row f (NoT.one hp.blk (fun q hq => ?_)) (fun k hk hm => ?_)
    · have := kRc_E hq
      simp at this
      rcases this with rfl | rfl | rfl | rfl <;> decide
    · exact hp.own_ne hp.blk (by decide) k hk (by simpa using hm)
set_option maxRecDepth 100000 in
theorem set_any (rb mb : Nat) (us : List (Nat × Value)) (R : RG) (n : ByteArray) (up : Bool) (w : World) (h : RegAt w rb mb us R) (hn : (R.places.map (·.1)).Nodup) (hs : n.size ≤ maxLen) :
    Calls Tryz.prog 37 #[.pointer (some ⟨rb, 0, none⟩), .string n, .bool up] w (Did rb mb us (R.set wordB n up).2 (.int .i64 (R.set wordB n up).1) w) := by
  have H := hid h
  unfold Reg.Rg.set
  cases hf : R.find wordB n with
  | mk o er =>
    cases o with
    | none =>
      have HF := hid (rfind_err rb mb us R n er w h hs hf)
      have he := Reg.find_err hf
      have he' : (er == 0) = false := by simpa using he
      clear h hn hf
      go_enter Tryz.func37, Tryz.ntmps37
      go_wp2_with (go_at_call 49; refine HF.out.mono ?_; rintro e w1 ⟨rfl, f1⟩)
      go_ret
      exact Did.same H.out f1
    | some p =>
      obtain ⟨rfl, hw, hlk⟩ := Reg.find_some hf
      obtain ⟨i, a, hi, ha, hl⟩ := rlook_at hlk h.len (rb := rb) (mb := mb)
      have HF := hid (rfind_yes rb mb us R n w h hs hw a hl)
      have HN := hid hn
      have HI := hid hi
      have HA := hid ha
      clear h hn hf hw hlk hl hi ha
      go_enter Tryz.func37, Tryz.ntmps37
      go_wp2_with (go_at_call 49; refine HF.out.mono ?_; rintro e w1 ⟨rfl, f1⟩; have F1 := hid f1; have hb := ((H.out.fr0 f1).pl i _ a HI.out HA.out).blk; have e0 := cell_of_row w1 a.1 0 _ _ _ hb; have z0 := blk_free hb 0; simp at e0; clear f1 hb)
      go_ret
      obtain ⟨h2, f2⟩ := place_up (H.out.fr0 F1.out) HN.out HI.out HA.out up
      refine ⟨_, rfl, h2, (F1.out.mono (by simp)).then (f2.mono (fun k hk => .inl (by simp at hk; subst hk; exact (blks_at HA.out).1))), fun k hk => ?_⟩
      rcases blks_set HA.out hk with h | h
      · exact .inl h
      · exact .inl ((blks_at HA.out).2 k h)
theorem PlAt.c {w : World} {pb : Nat} {v : Value} {p : RP} (h : PlAt w pb v p) : w.cell? ⟨pb, 0, none⟩ = some (.bool p.up) ∧ w.cell? ⟨pb, 1, none⟩ = some v := by
  have k0 := cell_of_row w pb 0 _ _ _ h.blk
  have k1 := cell_of_row w pb 1 _ _ _ h.blk
  simp at k0 k1
  exact ⟨k0, k1⟩
theorem list_beq {s k : ByteArray} (h : s ≠ k) : (s.toList == k.toList) = false :=
  beq_eq_false_iff_ne.2 fun e => h (ByteArray.ext (Array.toList_inj.1 (by rw [ByteArray.toList_eq, ByteArray.toList_eq] at e; simpa using e)))
theorem fail_end {rb mb : Nat} {us : List (Nat × Value)} {R : RG} {w : World} (h : RegAt w rb mb us R) (n : ByteArray) (ep : Int) :
    RegAt ((w.setCell ⟨rb, 1, none⟩ (.string n)).setCell ⟨rb, 2, none⟩ (.int .i64 ep)) rb mb us { R with primary := n, epoch := ep } ∧ Fr [rb] w ((w.setCell ⟨rb, 1, none⟩ (.string n)).setCell ⟨rb, 2, none⟩ (.int .i64 ep)) := by
  have f : Fr [rb] w ((w.setCell ⟨rb, 1, none⟩ (.string n)).setCell ⟨rb, 2, none⟩ (.int .i64 ep)) := ((Fr.refl [rb] w).setCell (.inl (by simp)) _).setCell (.inl (by simp)) _
  refine ⟨h.head f ?_ rfl, f⟩
  have := blk_setCell (blk_setCell h.blk 1 (.string n)) 2 (.int .i64 ep)
  simp only [List.setIfInBounds_toArray, List.set_cons_succ, List.set_cons_zero] at this
  exact this
set_option maxRecDepth 100000 in
set_option maxHeartbeats 4000000 in
theorem rfail_any (rb mb : Nat) (us : List (Nat × Value)) (R : RG) (n : ByteArray) (w : World) (h : RegAt w rb mb us R) (hi : Reg.Inv R) (hs : n.size ≤ maxLen) (hep : 0 ≤ R.epoch ∧ R.epoch ≤ 1000000) :
    Calls Tryz.prog 26 #[.pointer (some ⟨rb, 0, none⟩), .string n] w (Did rb mb us (R.fail wordB n).2 (.tuple #[.int .i64 (R.fail wordB n).1.1, .int .i64 (R.fail wordB n).1.2]) w) := by
  have H := hid h
  unfold Reg.Rg.fail
  cases hf : R.find wordB n with
  | mk o er =>
    cases o with
    | none =>
      have HF := hid (rfind_err rb mb us R n er w h hs hf)
      have he := Reg.find_err hf
      have he' : (er == 0) = false := by simpa using he
      clear h hi hf
      go_enter Tryz.func26, Tryz.ntmps26
      go_wp2_with (go_at_call 49; refine HF.out.mono ?_; rintro e w1 ⟨rfl, f1⟩)
      go_ret2
      exact Did.same H.out f1
    | some p =>
      obtain ⟨rfl, hw, hlk⟩ := Reg.find_some hf
      obtain ⟨i, a, hpi, hai, hl⟩ := rlook_at hlk h.len (rb := rb) (mb := mb)
      have HF := hid (rfind_yes rb mb us R n w h hs hw a hl)
      obtain ⟨f, hf0⟩ := hi.prim
      obtain ⟨i0, a0, hp0, ha0, hlk0⟩ := rlook_at hf0 h.len (rb := rb) (mb := mb)
      have hfirst := Reg.first_of hf0
      have lf : f.log.length ≤ 4000 := hi.long _ (Reg.look_mem hf0)
      have lp : p.log.length ≤ 4000 := hi.long _ (Reg.look_mem hlk)
      have hple := (Reg.pre_le f.log p.log).1
      have P1 := hid (h.pl i _ a hpi hai)
      have P0 := hid (h.pl i0 _ a0 hp0 ha0)
      have HLK0 := hid hlk0
      have HFST := hid hfirst
      have HEP := hid hep
      have hep2 : IntKind.i64.wrap (R.epoch + 1) = R.epoch + 1 := IntWalk.i64_in _ (by omega)
      obtain ⟨pr, hpr⟩ : ∃ pr, pr = Reg.pre f.log p.log := ⟨_, rfl⟩
      rw [← hpr] at hple
      have hw2 : IntKind.i64.wrap ((f.log.length : Int) - (pr : Int)) = (f.log.length : Int) - (pr : Int) := IntWalk.i64_in _ (by omega)
      have HPR := hid hpr
      have HA := hid hai
      obtain ⟨A1, c1, e1⟩ := Kd.R_slice P0.out.row
      obtain ⟨a01, a02⟩ := a0
      cases e1
      have AG := hid (fun w1 (f1 : Fr [] w w1) => agree_any (.slice A1 f.log.length c1) a.2 f.log p.log w1 (P0.out.fr0 f1).row (P1.out.fr0 f1).row (by omega) (by omega))
      rw [← hpr] at AG
      clear h hi hf hw hlk hl hpi hai hf0 hp0 ha0 hlk0 hfirst hep hpr
      by_cases hup : p.up = false
      · have END : Hid (R.failAt p n = ((0, 15), R)) := hid (by unfold Reg.Rg.failAt; rw [if_pos hup])
        go_enter Tryz.func26, Tryz.ntmps26
        go_wp2_with (go_at_call 49; refine HF.out.mono ?_; rintro e w1 ⟨rfl, f1⟩; have F1 := hid f1; obtain ⟨r0, r1, -, -, -, -⟩ := (H.out.fr0 f1).c; obtain ⟨-, q1⟩ := (P0.out.fr0 f1).c; have hlkq := fun q => HLK0.out _ (H.out.fr0 (f1.drewN q)); clear f1)
        go_quiet (fail)
        rename_i nq
        have F2 := hid (F1.out.drewN nq)
        generalize w1.drewN nq = w2 at F2 ⊢
        obtain ⟨-, s1⟩ := (P1.out.fr0 F2.out).c
        clear r0 r1 q1 hlkq
        go_wp2_with (go_at_call 50; refine (AG.out w2 F2.out).mono ?_; rintro e w3 ⟨rfl, hd⟩; have F3 := hid (F2.out.then (drawn_fr hd)); have R3 := hid (H.out.fr0 F3.out); obtain ⟨-, r1, r2, -, r4, -⟩ := R3.out.c; obtain ⟨s0, -⟩ := (P1.out.fr0 F3.out).c; have z1 := blk_free R3.out.blk 1; have z2 := blk_free R3.out.blk 2; clear hd)
        go_ret2
        rw [END.out]
        exact Did.same H.out F3.out
      · have hup1 : p.up = true := by simpa using hup
        by_cases hnp : n = R.primary
        · have END : Hid (R.failAt p n = ((0, 3), R)) := hid (by unfold Reg.Rg.failAt; rw [if_neg hup, if_pos hnp])
          subst hnp
          go_enter Tryz.func26, Tryz.ntmps26
          go_wp2_with (go_at_call 49; refine HF.out.mono ?_; rintro e w1 ⟨rfl, f1⟩; have F1 := hid f1; obtain ⟨r0, r1, -, -, -, -⟩ := (H.out.fr0 f1).c; obtain ⟨-, q1⟩ := (P0.out.fr0 f1).c; have hlkq := fun q => HLK0.out _ (H.out.fr0 (f1.drewN q)); clear f1)
          go_quiet (fail)
          rename_i nq
          have F2 := hid (F1.out.drewN nq)
          generalize w1.drewN nq = w2 at F2 ⊢
          obtain ⟨-, s1⟩ := (P1.out.fr0 F2.out).c
          clear r0 r1 q1 hlkq
          go_wp2_with (go_at_call 50; refine (AG.out w2 F2.out).mono ?_; rintro e w3 ⟨rfl, hd⟩; have F3 := hid (F2.out.then (drawn_fr hd)); have R3 := hid (H.out.fr0 F3.out); obtain ⟨-, r1, r2, -, r4, -⟩ := R3.out.c; obtain ⟨s0, -⟩ := (P1.out.fr0 F3.out).c; have z1 := blk_free R3.out.blk 1; have z2 := blk_free R3.out.blk 2; clear hd)
          go_ret2
          rw [END.out]
          exact Did.same H.out F3.out
        · have hnp' : (n == R.primary) = false := by
            simp only [bytes_beq]
            simp [hnp]
          have hnp2 := list_beq hnp
          by_cases hac : (pr : Int) < R.acked
          · have END : Hid (R.failAt p n = ((0, 10), R)) := hid (by unfold Reg.Rg.failAt; rw [if_neg hup, if_neg hnp, if_pos (by rw [HFST.out, ← HPR.out]; exact hac)])
            have hac' : decide ((pr : Int) < R.acked) = true := decide_eq_true hac
            go_enter Tryz.func26, Tryz.ntmps26
            go_wp2_with (go_at_call 49; refine HF.out.mono ?_; rintro e w1 ⟨rfl, f1⟩; have F1 := hid f1; obtain ⟨r0, r1, -, -, -, -⟩ := (H.out.fr0 f1).c; obtain ⟨-, q1⟩ := (P0.out.fr0 f1).c; have hlkq := fun q => HLK0.out _ (H.out.fr0 (f1.drewN q)); clear f1)
            go_quiet (fail)
            rename_i nq
            have F2 := hid (F1.out.drewN nq)
            generalize w1.drewN nq = w2 at F2 ⊢
            obtain ⟨-, s1⟩ := (P1.out.fr0 F2.out).c
            clear r0 r1 q1 hlkq
            go_wp2_with (go_at_call 50; refine (AG.out w2 F2.out).mono ?_; rintro e w3 ⟨rfl, hd⟩; have F3 := hid (F2.out.then (drawn_fr hd)); have R3 := hid (H.out.fr0 F3.out); obtain ⟨-, r1, r2, -, r4, -⟩ := R3.out.c; obtain ⟨s0, -⟩ := (P1.out.fr0 F3.out).c; have z1 := blk_free R3.out.blk 1; have z2 := blk_free R3.out.blk 2; clear hd)
            go_ret2
            rw [END.out]
            exact Did.same H.out F3.out
          · have END : Hid (R.failAt p n = (((f.log.length : Int) - pr, 0), { R with primary := n, epoch := R.epoch + 1 })) := hid (by unfold Reg.Rg.failAt; rw [if_neg hup, if_neg hnp, if_neg (by rw [HFST.out, ← HPR.out]; exact hac), HFST.out, ← HPR.out])
            have hac' : decide ((pr : Int) < R.acked) = false := decide_eq_false hac
            go_enter Tryz.func26, Tryz.ntmps26
            go_wp2_with (go_at_call 49; refine HF.out.mono ?_; rintro e w1 ⟨rfl, f1⟩; have F1 := hid f1; obtain ⟨r0, r1, -, -, -, -⟩ := (H.out.fr0 f1).c; obtain ⟨-, q1⟩ := (P0.out.fr0 f1).c; have hlkq := fun q => HLK0.out _ (H.out.fr0 (f1.drewN q)); clear f1)
            go_quiet (fail)
            rename_i nq
            have F2 := hid (F1.out.drewN nq)
            generalize w1.drewN nq = w2 at F2 ⊢
            obtain ⟨-, s1⟩ := (P1.out.fr0 F2.out).c
            clear r0 r1 q1 hlkq
            go_wp2_with (go_at_call 50; refine (AG.out w2 F2.out).mono ?_; rintro e w3 ⟨rfl, hd⟩; have F3 := hid (F2.out.then (drawn_fr hd)); have R3 := hid (H.out.fr0 F3.out); obtain ⟨-, r1, r2, -, r4, -⟩ := R3.out.c; obtain ⟨s0, -⟩ := (P1.out.fr0 F3.out).c; have z1 := blk_free R3.out.blk 1; have z2 := blk_free R3.out.blk 2; clear hd)
            go_ret2
            rw [END.out]
            obtain ⟨h4, f4⟩ := fail_end R3.out n (R.epoch + 1)
            exact ⟨us, rfl, h4, (F3.out.mono (by simp)).then (f4.mono (fun k hk => .inl (by simp at hk; subst hk; exact List.mem_cons_self ..))), fun k hk => .inl hk⟩
theorem rise_len {l : List BL} (h : ∀ j, j < l.length → okAt l j = true) : l.length ≤ 4000 := by
  have key : ∀ (j : Nat) (f : BL), l[j]? = some f → ((j : Int) + 1 ≤ f.f0) ∧ f.f0 ≤ 4000 := by
    intro j
    induction j with
    | zero =>
      intro f hf
      have hl := (List.getElem?_eq_some_iff.1 hf).1
      have := h 0 hl
      unfold okAt at this
      rw [hf] at this
      simp at this
      omega
    | succ j ih =>
      intro f hf
      have hl := (List.getElem?_eq_some_iff.1 hf).1
      obtain ⟨g, hg⟩ : ∃ g, l[j]? = some g := ⟨_, List.getElem?_eq_getElem (by omega)⟩
      have h1 := h (j + 1) hl
      have h2 := ih g hg
      unfold okAt at h1
      rw [hf] at h1
      simp only [hg] at h1
      simp at h1
      omega
  by_cases h0 : l.length = 0
  · omega
  · obtain ⟨f, hf⟩ : ∃ f, l[l.length - 1]? = some f := ⟨_, List.getElem?_eq_getElem (by omega)⟩
    have := key _ f hf
    omega
theorem log_ok {x : LO} (hi : LogIn x) (h : logB x = true) : LogOk x := by
  unfold logB at h
  rw [Bool.and_eq_true, List.all_eq_true] at h
  obtain ⟨h1, h2⟩ := h
  have l2 := rise_len (l := x.f2) (fun j hj => h1 j (List.mem_range.2 hj))
  unfold tailB at h2
  simp only [Bool.and_eq_true, decide_eq_true_eq, Bool.not_eq_true'] at h2
  exact ⟨fun y hy => valid_ok (good_of_any h2.2.2.1 y hy) (hi.d y hy), by omega, by omega⟩
def AllOk (R : RG) : Prop := ∀ p ∈ R.places, ∀ r ∈ p.2.log, LogOk r.1
theorem put_mem2 {n : ByteArray} {q : RP} {l : List (ByteArray × RP)} {x : ByteArray × RP} (h : x ∈ Reg.putIn n q l) : x.2 = q ∨ x ∈ l := by
  induction l with
  | nil => cases h
  | cons a r ih =>
    simp only [Reg.putIn] at h
    split at h
    · rcases List.mem_cons.1 h with rfl | h
      · exact .inl rfl
      · exact .inr (List.mem_cons_of_mem _ h)
    · rcases List.mem_cons.1 h with rfl | h
      · exact .inr (List.mem_cons_self ..)
      · rcases ih h with h | h
        · exact .inl h
        · exact .inr (List.mem_cons_of_mem _ h)
theorem AllOk.put {R : RG} (h : AllOk R) {n : ByteArray} {q : RP} (hq : ∀ r ∈ q.log, LogOk r.1) : AllOk (R.put n q) := by
  intro p hp r hr
  rcases put_mem2 (show p ∈ Reg.putIn n q R.places from hp) with e | hm
  · rw [e] at hr; exact hq r hr
  · exact h p hm r hr
theorem AllOk.look {R : RG} (h : AllOk R) {n : ByteArray} {p : RP} (hl : R.look n = some p) : ∀ r ∈ p.log, LogOk r.1 := fun r hr => h _ (Reg.look_mem hl) r hr
theorem AllOk.same {R R' : RG} (h : AllOk R) (e : R'.places = R.places) : AllOk R' := by
  intro p hp
  rw [e] at hp
  exact h p hp
theorem do_allok {R : RG} (h : AllOk R) (x : Reg.Call LO) (hx : LogIn x.log) : AllOk (Reg.doBy wordB logB R x).2 := by
  unfold Reg.doBy
  split
  · unfold Reg.Rg.record
    split
    · exact h
    · rename_i hv
      have hok := log_ok hx (by simpa using hv)
      split
      · exact h
      · rename_i p _ he
        have hl := (Reg.find_some he).2.2
        unfold Reg.Rg.recordAt
        split
        · exact h
        split
        · exact h
        split
        · exact h
        · refine AllOk.same (h.put (n := x.name) (q := { p with log := p.log ++ [(x.log, R.records + 1)] }) ?_) rfl
          intro r hr
          rcases List.mem_append.1 hr with hr | hr
          · exact h.look hl r hr
          · rw [List.mem_singleton.1 hr]; exact hok
  split
  · unfold Reg.Rg.ship
    split
    · exact h
    · rename_i p _ he
      have hl := (Reg.find_some he).2.2
      split
      · exact h
      · rename_i f hf
        unfold Reg.Rg.shipAt
        split
        · exact h
        split
        · exact h
        split
        · exact h
        · exact AllOk.same (h.put (n := x.name) (q := { p with log := f.log.take _ }) (fun r hr => h.look hf r (List.mem_of_mem_take hr))) rfl
  split
  · unfold Reg.Rg.set
    split
    · exact h
    · rename_i p _ he
      exact h.put (q := { p with up := x.up }) (fun r hr => h.look (Reg.find_some he).2.2 r hr)
  · unfold Reg.Rg.fail
    split
    · exact h
    · unfold Reg.Rg.failAt
      split
      · exact h
      split
      · exact h
      split
      · exact h
      · exact h.same rfl
theorem do_nums (R : RG) (x : Reg.Call LO) : (Reg.doBy wordB logB R x).2.places.length = R.places.length ∧ R.records ≤ (Reg.doBy wordB logB R x).2.records ∧ (Reg.doBy wordB logB R x).2.records ≤ R.records + 1 ∧ R.epoch ≤ (Reg.doBy wordB logB R x).2.epoch ∧ (Reg.doBy wordB logB R x).2.epoch ≤ R.epoch + 1 := by
  have hself : R.places.length = R.places.length ∧ R.records ≤ R.records ∧ R.records ≤ R.records + 1 ∧ R.epoch ≤ R.epoch ∧ R.epoch ≤ R.epoch + 1 := ⟨rfl, by omega, by omega, by omega, by omega⟩
  unfold Reg.doBy
  split
  · unfold Reg.Rg.record
    split
    · exact hself
    split
    · exact hself
    · rename_i p _ he
      unfold Reg.Rg.recordAt
      split
      · exact hself
      split
      · exact hself
      split
      · exact hself
      · refine ⟨?_, ?_, ?_, ?_, ?_⟩
        · exact Reg.put_len _ _ _
        · show R.records ≤ R.records + 1; omega
        · show R.records + 1 ≤ R.records + 1; omega
        · show R.epoch ≤ R.epoch; omega
        · show R.epoch ≤ R.epoch + 1; omega
  split
  · unfold Reg.Rg.ship
    split
    · exact hself
    split
    · exact hself
    · unfold Reg.Rg.shipAt
      split
      · exact hself
      split
      · exact hself
      split
      · exact hself
      · refine ⟨?_, ?_, ?_, ?_, ?_⟩
        · exact Reg.put_len _ _ _
        · show R.records ≤ R.records; omega
        · show R.records ≤ R.records + 1; omega
        · show R.epoch ≤ R.epoch; omega
        · show R.epoch ≤ R.epoch + 1; omega
  split
  · unfold Reg.Rg.set
    split
    · exact hself
    · refine ⟨?_, ?_, ?_, ?_, ?_⟩
      · exact Reg.put_len _ _ _
      · show R.records ≤ R.records; omega
      · show R.records ≤ R.records + 1; omega
      · show R.epoch ≤ R.epoch; omega
      · show R.epoch ≤ R.epoch + 1; omega
  · unfold Reg.Rg.fail
    split
    · exact hself
    · unfold Reg.Rg.failAt
      split
      · exact hself
      split
      · exact hself
      split
      · exact hself
      · refine ⟨rfl, ?_, ?_, ?_, ?_⟩
        · show R.records ≤ R.records; omega
        · show R.records ≤ R.records + 1; omega
        · show R.epoch ≤ R.epoch + 1; omega
        · show R.epoch + 1 ≤ R.epoch + 1; omega
theorem do_names (R : RG) (x : Reg.Call LO) : (Reg.doBy wordB logB R x).2.places.map (·.1) = R.places.map (·.1) := by
  have hput : ∀ (n : ByteArray) (q : RP), (R.put n q).places.map (·.1) = R.places.map (·.1) := fun n q => Reg.put_names n q R.places
  unfold Reg.doBy
  split
  · unfold Reg.Rg.record
    split
    · rfl
    split
    · rfl
    · unfold Reg.Rg.recordAt
      split
      · rfl
      split
      · rfl
      split
      · rfl
      · exact hput _ _
  split
  · unfold Reg.Rg.ship
    split
    · rfl
    split
    · rfl
    · unfold Reg.Rg.shipAt
      split
      · rfl
      split
      · rfl
      split
      · rfl
      · exact hput _ _
  split
  · unfold Reg.Rg.set
    split
    · rfl
    · exact hput _ _
  · unfold Reg.Rg.fail
    split
    · rfl
    · unfold Reg.Rg.failAt
      split
      · rfl
      split
      · rfl
      split
      · rfl
      · rfl
theorem do_nm {R : RG} {Q : ByteArray → Prop} (h : ∀ p ∈ R.places, Q p.1) (x : Reg.Call LO) : ∀ p ∈ (Reg.doBy wordB logB R x).2.places, Q p.1 := by
  intro p hp
  have hm : p.1 ∈ (Reg.doBy wordB logB R x).2.places.map (·.1) := List.mem_map.2 ⟨p, hp, rfl⟩
  rw [do_names R x] at hm
  obtain ⟨p', hp', e'⟩ := List.mem_map.1 hm
  rw [← e']
  exact h p' hp'
structure RLive (w : World) (rb mb : Nat) (us : List (Nat × Value)) (R : RG) (k : Nat) : Prop where
  at_ : RegAt w rb mb us R
  inv : Reg.Inv R
  ok : AllOk R
  pl : R.places.length ≤ 1000
  nr : 0 ≤ R.records ∧ R.records ≤ (k : Int)
  ne : 0 ≤ R.epoch ∧ R.epoch ≤ (k : Int) + 1
  nm : ∀ p ∈ R.places, p.1.size ≤ maxLen
  wd : ∀ p ∈ R.places, wordB p.1 = true
theorem RLive.fr0 {w w' : World} {rb mb k : Nat} {us : List (Nat × Value)} {R : RG} (h : RLive w rb mb us R k) (f : Fr [] w w') : RLive w' rb mb us R k := ⟨h.at_.fr0 f, h.inv, h.ok, h.pl, h.nr, h.ne, h.nm, h.wd⟩
def Did2 (w0 : Nat) (rb mb : Nat) (k : Nat) (R' : RG) (v : Value) (w : World) (e : Ending) (w' : World) : Prop :=
  ∃ us', e = .returned v ∧ RLive w' rb mb us' R' k ∧ (∀ b ∈ blks rb us', w0 ≤ b) ∧ (∀ (S : List Nat) (o : World), Fr S o w → o.heap.size ≤ w0 → Fr S o w')
theorem Did2.of {w0 rb mb k : Nat} {us : List (Nat × Value)} {R : RG} {x : Reg.Call LO} {v : Value} {w : World} {e : Ending} {w' : World} (h : RLive w rb mb us R k) (hx : LogIn x.log) (hb : ∀ b ∈ blks rb us, w0 ≤ b) (h0 : w0 ≤ w.heap.size) (hd : Did rb mb us (Reg.doBy wordB logB R x).2 v w e w') : Did2 w0 rb mb (k + 1) (Reg.doBy wordB logB R x).2 v w e w' := by
  obtain ⟨us', he, hr, hf, hk⟩ := hd
  obtain ⟨n1, n2, n3, n4, n5⟩ := do_nums R x
  have h1 := h.nr
  have h2 := h.ne
  have h3 := h.pl
  refine ⟨us', he, ⟨hr, (Reg.do_keeps h.inv x).inv, do_allok h.ok x hx, by omega, by omega, by omega, do_nm (Q := fun s => s.size ≤ maxLen) h.nm x, do_nm (Q := fun s => wordB s = true) h.wd x⟩, fun b hb' => ?_, fun S o f ho => f.trans hf (fun z hz => .inr ?_)⟩
  · rcases hk b hb' with h | h
    · exact hb b h
    · omega
  · have := hb z hz
    omega
theorem cells_at {α : Type} {d : Kd α} (hs : 0 < d.sz) {w : World} {A : Option Addr} {n k : Nat} {xs : List α} {x : α} (h : Kd.C d w A n xs) (hx : xs[k]? = some x) :
    ∃ b off c, A = some ⟨b, off, none⟩ ∧ d.K w x c ∧ ∀ j u, c[j]? = some u → w.cell? ⟨b, off + k * d.sz + j, none⟩ = some u := by
  have hk := (List.getElem?_eq_some_iff.1 hx).1
  have hn : xs.length = n := h.1
  obtain ⟨ad, c, e, _, hK, hc⟩ := Kd.C_get h x (k : Int) (by omega) (by omega)
  have ex : xs.getD ((k : Int)).toNat x = x := by simp [List.getD_eq_getElem?_getD, hx]
  rw [ex] at hK
  have hl := d.K_len hK
  obtain ⟨u0, hu0⟩ : ∃ u, c[0]? = some u := ⟨_, List.getElem?_eq_getElem (by omega)⟩
  obtain ⟨y, hy⟩ : ∃ y, xs[0]? = some y := ⟨_, List.getElem?_eq_getElem (by omega)⟩
  obtain ⟨ad', c', e', _, hK', hc'⟩ := Kd.C_get h y 0 (by omega) (by omega)
  rw [e] at e'
  cases e'
  have ey : xs.getD (0 : Int).toNat y = y := by simp [List.getD_eq_getElem?_getD, hy]
  rw [ey] at hK'
  have hl' := d.K_len hK'
  obtain ⟨u1, hu1⟩ : ∃ u, c'[0]? = some u := ⟨_, List.getElem?_eq_getElem (by omega)⟩
  have h0 := hc' 0 u1 hu1
  have hsp : ad.spot = none := by
    have hs := spot_none h0
    simpa [Addr.add] using hs
  rw [addr_plain hsp] at e
  refine ⟨ad.block, ad.off, c, e, hK, fun j u hu => ?_⟩
  have := hc j u hu
  rw [addr_plain hsp, add_mk] at this
  simpa [Nat.add_assoc] using this
attribute [local go_sem] nilR
theorem row_take {α : Type} {R : α → List Value → Prop} {sz : Nat} {w : World} {A : Option Addr} {n : Nat} {xs : List α} (h : ReadsRow R sz w A n xs) (k : Nat) (hk : k ≤ n) : ReadsRow R sz w A k (xs.take k) := by
  obtain ⟨h1, h2, h3⟩ := h
  refine ⟨by rw [List.length_take, h1]; omega, by omega, fun hp => ?_⟩
  obtain ⟨ad, e, hj⟩ := h3 (by omega)
  refine ⟨ad, e, fun j p hp' => hj j p ?_⟩
  rw [List.getElem?_take] at hp'
  split at hp'
  · exact hp'
  · cases hp'
set_option maxRecDepth 100000 in
theorem clone_recs (A : Option Addr) (c n k : Nat) (w : World) (xs : List (LO × Int)) (h : kRc.R 108 w 0 (fun _ => True) (.slice A n c) xs) (hk : k ≤ xs.length) (hl : xs.length ≤ 1000000) (c' : Nat) :
    Calls Tryz.prog 45 #[.slice A k c'] w (Cloned kRc 108 A (xs.take k) w) := by
  obtain ⟨rfl, hnc, hC⟩ := Kd.R_reads' h
  cases A with
  | none =>
    obtain rfl : xs = [] := nil_of_C hC
    obtain rfl : k = 0 := by simpa using hk
    clear h hC hnc
    go_enter Tryz.func45, Tryz.ntmps45
    go_wp2
    go_ret
    exact ⟨_, rfl, Kd.R_nil _ _ _ _ _, Fr.refl _ _, fun k hk => by simp [Value.ownBlock] at hk, fun _ => rfl⟩
  | some ad =>
    obtain ⟨ys, hys⟩ : ∃ ys, ys = xs.take k := ⟨_, rfl⟩
    have hyl : ys.length = k := by rw [hys, List.length_take]; omega
    have HR : Hid (ReadsRow (fun x cs => kRc.M (w.alloc (.cells #[] 108)) 0 (fun k => some k ≠ (Value.slice (some ⟨w.heap.size, 0, none⟩) 0 0).ownBlock) x cs) kRc.sz (w.alloc (.cells #[] 108)) (some ad) ys.length ys) := hid (by rw [hyl, hys]; exact row_take (rows_of_R h) k hk)
    rw [← hys]
    subst hyl
    clear h hC hnc hys
    go_enter Tryz.func45, Tryz.ntmps45
    go_wp2_with (at_builtin; refine Kd.R_append_rows kRc (w0 := w) 0 rfl _ _ 93 108 (zRc) 72 rfl Tryz.underlying93 infoR rfl (by decide) (by decide) _ [] ys (some ad) ys.length c' (fun _ => True) (fun k => some k ≠ (Value.slice (some ⟨w.heap.size, 0, none⟩) 0 0).ownBlock) rfl rfl (lit_empty _ _ _) HR.out (fun _ _ h => h) (fun _ hk => ⟨trivial, hk⟩) (fun _ _ => trivial) ?c1 (Nat.zero_le _) ?c2 ?_)
    case c1 => exact (((Fr.refl [] w).alloc _).below (Nat.zero_le _) (by simp))
    case c2 => simp; omega
    intro v1 w1 r1 b1 g1 a1
    go_wp2
    go_ret
    have := Cloned.mk (ad := ad) (v := v1) r1 b1 g1 a1
    exact this
theorem place_log {rb mb i : Nat} {us : List (Nat × Value)} {R : RG} {n : ByteArray} {p : RP} {a : Nat × Value} {w w4 : World} (h : RegAt w rb mb us R) (hn : (R.places.map (·.1)).Nodup) (hi : R.places[i]? = some (n, p)) (ha : us[i]? = some a) (f : Fr a.2.ownBlock.toList w w4)
    (hb : w4.heap[a.1]? = some (.cells #[.bool p.up, a.2] 95 (0, 0))) {v : Value} {l : List (LO × Int)} (hv : kRc.R 108 w4 0 (fun _ => True) v l) (ho : ∀ k, v.ownBlock = some k → a.2.ownBlock = some k ∨ w.heap.size ≤ k) :
    RegAt (w4.setCell ⟨a.1, 1, none⟩ v) rb mb (us.set i (a.1, v)) (R.put n { p with log := l }) ∧ Fr [a.1] w4 (w4.setCell ⟨a.1, 1, none⟩ v) := by
  have g : Fr [a.1] w4 (w4.setCell ⟨a.1, 1, none⟩ v) := (Fr.refl _ _).setCell (.inl (by simp)) _
  refine ⟨h.put hn hi ha ((f.mono (fun k hk => .inl (List.mem_cons_of_mem _ hk))).trans g (fun k hk => .inl (by simp at hk; subst hk; simp))) ⟨?_, ?_⟩ ho, g⟩
  · have := blk_setCell hb 1 v
    simp only [List.setIfInBounds_toArray, List.set_cons_succ, List.set_cons_zero] at this
    exact this
  · refine R_fr2 hv g (NoT.one hb (fun q hq => ?_)) (fun k hk hm => ?_)
    · have := kRc_E hq
      simp at this
      rcases this with rfl | rfl | rfl | rfl <;> decide
    · obtain ⟨cells, hc⟩ := Kd.R_typed hv k hk
      have e : k = a.1 := by simpa using hm
      rw [e, hb] at hc
      injection hc with hc; injection hc with _ hc; exact absurd hc (by decide)
set_option maxRecDepth 100000 in
set_option maxHeartbeats 4000000 in
theorem ship_any (rb mb : Nat) (us : List (Nat × Value)) (R : RG) (n : ByteArray) (most : Int) (w : World) (h : RegAt w rb mb us R) (hi : Reg.Inv R) (hs : n.size ≤ maxLen) (hpl : R.places.length ≤ 1000) :
    Calls Tryz.prog 22 #[.pointer (some ⟨rb, 0, none⟩), .string n, .int .i64 most] w (Did rb mb us (R.ship wordB n most).2 (.tuple #[.int .i64 (R.ship wordB n most).1.1, .int .i64 (R.ship wordB n most).1.2]) w) := by
  have H := hid h
  unfold Reg.Rg.ship
  cases hf : R.find wordB n with
  | mk o er =>
    cases o with
    | none =>
      have HF := hid (rfind_err rb mb us R n er w h hs hf)
      have he := Reg.find_err hf
      have he' : (er == 0) = false := by simpa using he
      clear h hi hf
      go_enter Tryz.func22, Tryz.ntmps22
      go_wp2_with (go_at_call 49; refine HF.out.mono ?_; rintro e w1 ⟨rfl, f1⟩)
      go_ret2
      exact Did.same H.out f1
    | some p =>
      obtain ⟨rfl, hw, hlk⟩ := Reg.find_some hf
      obtain ⟨i, a, hpi, hai, hl⟩ := rlook_at hlk h.len (rb := rb) (mb := mb)
      have HF := hid (rfind_yes rb mb us R n w h hs hw a hl)
      obtain ⟨f, hf0⟩ := hi.prim
      obtain ⟨i0, a0, hp0, ha0, hlk0⟩ := rlook_at hf0 h.len (rb := rb) (mb := mb)
      have lf : f.log.length ≤ 4000 := hi.long _ (Reg.look_mem hf0)
      have lp : p.log.length ≤ 4000 := hi.long _ (Reg.look_mem hlk)
      have hple := (Reg.pre_le f.log p.log).1
      have P1 := hid (h.pl i _ a hpi hai)
      have P0 := hid (h.pl i0 _ a0 hp0 ha0)
      have HLK0 := hid hlk0
      have HI := hid hi
      have HLK := hid hlk
      have HN := hid hi.names
      have HPI := hid hpi
      obtain ⟨pr, hpr⟩ : ∃ pr, pr = Reg.pre f.log p.log := ⟨_, rfl⟩
      rw [← hpr] at hple
      have hw2 : IntKind.i64.wrap ((f.log.length : Int) - (pr : Int)) = (f.log.length : Int) - (pr : Int) := IntWalk.i64_in _ (by omega)
      have HPR := hid hpr
      have HA := hid hai
      obtain ⟨A1, c1, e1⟩ := Kd.R_slice P0.out.row
      obtain ⟨a01, a02⟩ := a0
      cases e1
      have hcap : f.log.length ≤ c1 := (Kd.R_reads' P0.out.row).2.1
      obtain ⟨A2, c2, e2⟩ := Kd.R_slice P1.out.row
      obtain ⟨a1, a2⟩ := a
      cases e2
      rw [hf0]
      dsimp only
      clear h hi hf hw hlk hl hpi hai hf0 hp0 ha0 hlk0 hpr
      by_cases hup : p.up = false
      · have END : Hid (R.shipAt p f n most = ((0, 15), R)) := hid (by unfold Reg.Rg.shipAt; rw [if_pos (.inl hup)])
        go_enter Tryz.func22, Tryz.ntmps22
        go_wp2_with (go_at_call 49; refine HF.out.mono ?_; rintro e w1 ⟨rfl, f1⟩; have F1 := hid f1; obtain ⟨r0, r1, -, -, -, -⟩ := (H.out.fr0 f1).c; have hlkq := fun q => HLK0.out _ (H.out.fr0 (f1.drewN q)); clear f1)
        go_quiet (fail)
        rename_i nq
        have F2 := hid (F1.out.drewN nq)
        generalize w1.drewN nq = w2 at F2 ⊢
        have R2 := hid (H.out.fr0 F2.out)
        have Q0 := hid (P0.out.fr0 F2.out)
        have Q1 := hid (P1.out.fr0 F2.out)
        obtain ⟨s0, s1⟩ := Q1.out.c
        obtain ⟨q0, q1⟩ := Q0.out.c
        clear r0 hlkq
        obtain ⟨-, r1, -, -, -, -⟩ := R2.out.c
        go_wp2_with fail
        go_ret2
        rw [END.out]
        exact Did.same H.out F2.out
      · have hup1 : p.up = true := by simpa using hup
        by_cases hfu : f.up = false
        · have END : Hid (R.shipAt p f n most = ((0, 15), R)) := hid (by unfold Reg.Rg.shipAt; rw [if_pos (.inr hfu)])
          go_enter Tryz.func22, Tryz.ntmps22
          go_wp2_with (go_at_call 49; refine HF.out.mono ?_; rintro e w1 ⟨rfl, f1⟩; have F1 := hid f1; obtain ⟨r0, r1, -, -, -, -⟩ := (H.out.fr0 f1).c; have hlkq := fun q => HLK0.out _ (H.out.fr0 (f1.drewN q)); clear f1)
          go_quiet (fail)
          rename_i nq
          have F2 := hid (F1.out.drewN nq)
          generalize w1.drewN nq = w2 at F2 ⊢
          have R2 := hid (H.out.fr0 F2.out)
          have Q0 := hid (P0.out.fr0 F2.out)
          have Q1 := hid (P1.out.fr0 F2.out)
          obtain ⟨s0, s1⟩ := Q1.out.c
          obtain ⟨q0, q1⟩ := Q0.out.c
          clear r0 hlkq
          obtain ⟨-, r1, -, -, -, -⟩ := R2.out.c
          go_wp2_with fail
          go_ret2
          rw [END.out]
          exact Did.same H.out F2.out
        · have hfu1 : f.up = true := by simpa using hfu
          have hor : ¬ (p.up = false ∨ f.up = false) := fun e => e.elim hup hfu
          by_cases hnp : n = R.primary
          · have END : Hid (R.shipAt p f n most = ((0, 7), R)) := hid (by unfold Reg.Rg.shipAt; rw [if_neg hor, if_pos hnp])
            subst hnp
            go_enter Tryz.func22, Tryz.ntmps22
            go_wp2_with (go_at_call 49; refine HF.out.mono ?_; rintro e w1 ⟨rfl, f1⟩; have F1 := hid f1; obtain ⟨r0, r1, -, -, -, -⟩ := (H.out.fr0 f1).c; have hlkq := fun q => HLK0.out _ (H.out.fr0 (f1.drewN q)); clear f1)
            go_quiet (fail)
            rename_i nq
            have F2 := hid (F1.out.drewN nq)
            generalize w1.drewN nq = w2 at F2 ⊢
            have R2 := hid (H.out.fr0 F2.out)
            have Q0 := hid (P0.out.fr0 F2.out)
            have Q1 := hid (P1.out.fr0 F2.out)
            obtain ⟨s0, s1⟩ := Q1.out.c
            obtain ⟨q0, q1⟩ := Q0.out.c
            clear r0 hlkq
            obtain ⟨-, r1, -, -, -, -⟩ := R2.out.c
            go_wp2_with fail
            go_ret2
            rw [END.out]
            exact Did.same H.out F2.out
          · have hnp2 := list_beq hnp
            by_cases hmo : most < 0
            · have END : Hid (R.shipAt p f n most = ((0, 3), R)) := hid (by unfold Reg.Rg.shipAt; rw [if_neg hor, if_neg hnp, if_pos hmo])
              go_enter Tryz.func22, Tryz.ntmps22
              go_wp2_with (go_at_call 49; refine HF.out.mono ?_; rintro e w1 ⟨rfl, f1⟩; have F1 := hid f1; obtain ⟨r0, r1, -, -, -, -⟩ := (H.out.fr0 f1).c; have hlkq := fun q => HLK0.out _ (H.out.fr0 (f1.drewN q)); clear f1)
              go_quiet (fail)
              rename_i nq
              have F2 := hid (F1.out.drewN nq)
              generalize w1.drewN nq = w2 at F2 ⊢
              have R2 := hid (H.out.fr0 F2.out)
              have Q0 := hid (P0.out.fr0 F2.out)
              have Q1 := hid (P1.out.fr0 F2.out)
              obtain ⟨s0, s1⟩ := Q1.out.c
              obtain ⟨q0, q1⟩ := Q0.out.c
              clear r0 hlkq
              obtain ⟨-, r1, -, -, -, -⟩ := R2.out.c
              go_wp2_with fail
              go_ret2
              rw [END.out]
              exact Did.same H.out F2.out
            · obtain ⟨m, hm⟩ : ∃ m : Int, m = min most ((f.log.length : Int) - pr) := ⟨_, rfl⟩
              have hm0 : 0 ≤ m ∧ m ≤ (f.log.length : Int) - pr := by omega
              obtain ⟨k, hk⟩ : ∃ k : Nat, (pr : Int) + m = k := ⟨((pr : Int) + m).toNat, by omega⟩
              have hkl : k ≤ f.log.length := by omega
              have END : Hid (R.shipAt p f n most = ((m, 0), (R.put n { p with log := f.log.take k }).ack)) := hid (by unfold Reg.Rg.shipAt; rw [if_neg hor, if_neg hnp, if_neg hmo, ← HPR.out, ← hm, hk]; simp)
              have hwk : IntKind.i64.wrap ((pr : Int) + m) = (k : Int) := by rw [IntWalk.i64_in _ (by omega)]; exact hk
              have hk0 : (0 : Int) ≤ (k : Int) := by omega
              have hk1 : (k : Int) ≤ (c1 : Int) := by omega
              have hk2 : (k : Int) ≤ (f.log.length : Int) := by omega
              have I0 := hid (inv0_put (q := { p with log := f.log.take k }) HI.out HLK.out (by simp; omega))
              have hmo2 : ¬ most < 0 := hmo
              go_enter Tryz.func22, Tryz.ntmps22
              go_wp2_with (go_at_call 49; refine HF.out.mono ?_; rintro e w1 ⟨rfl, f1⟩; have F1 := hid f1; obtain ⟨r0, r1, -, -, -, -⟩ := (H.out.fr0 f1).c; have hlkq := fun q => HLK0.out _ (H.out.fr0 (f1.drewN q)); clear f1)
              go_quiet (fail)
              rename_i nq
              have F2 := hid (F1.out.drewN nq)
              generalize w1.drewN nq = w2 at F2 ⊢
              have R2 := hid (H.out.fr0 F2.out)
              have Q0 := hid (P0.out.fr0 F2.out)
              have Q1 := hid (P1.out.fr0 F2.out)
              obtain ⟨s0, s1⟩ := Q1.out.c
              obtain ⟨q0, q1⟩ := Q0.out.c
              clear r0 hlkq
              obtain ⟨-, r1, -, -, -, -⟩ := R2.out.c
              go_wp2_with fail
              have CA := hid (fun q => (agree_any (.slice A1 f.log.length c1) (.slice A2 p.log.length c2) f.log p.log (w2.drewN q) (Q0.out.fr0 ((Fr.refl [] w2).drewN q)).row (Q1.out.fr0 ((Fr.refl [] w2).drewN q)).row (by omega) (by omega)).mono (R' := fun e w' => e = .returned (.int .i64 (pr : Nat)) ∧ ∃ m, w' = (w2.drewN q).drewN m) (fun e w' h => ⟨by rw [HPR.out]; exact h.1, h.2.out⟩))
              go_quiet ((go_at_call 50; exact Calls.quiet_of (CA.out _)))
              have F3 := hid (F2.out.drewN nq)
              generalize w2.drewN nq = w3 at F3 ⊢
              have R3 := hid (H.out.fr0 F3.out)
              have Q0 := hid (P0.out.fr0 F3.out)
              have Q1 := hid (P1.out.fr0 F3.out)
              obtain ⟨s0, s1⟩ := Q1.out.c
              obtain ⟨q0, q1⟩ := Q0.out.c
              rw [hm] at hwk
              have HCL := hid (clone_recs A1 c1 f.log.length k w3 f.log Q0.out.row hkl (by omega) c1)
              obtain ⟨ys, hys⟩ : ∃ ys, ys = f.log.take k := ⟨_, rfl⟩
              rw [← hys] at HCL I0 END
              clear hys
              go_wp2_with (first
                | (go_at_call 45; refine HCL.out.mono ?_; rintro e w4 ⟨v4, rfl, r4, f4, o4, -⟩; obtain ⟨A5, c5, rfl⟩ := Kd.R_slice r4; have F4 := hid f4; have R4 := hid r4; have O4 := hid o4; have b4 := f4.blk Q1.out.blk (by simp); have B4 := hid b4; have t1 := cell_of_row w4 a1 1 _ _ _ b4; have z1 := blk_free b4 1; simp at t1; have PL := place_log R3.out HN.out HPI.out HA.out (F4.out.mono (by simp)) B4.out R4.out (fun k hk => .inr (O4.out k hk)); dsimp only at PL; have PL := hid PL; clear f4 r4 o4 b4)
                | (go_at_call 51; (refine (ack_any rb mb _ _ _ PL.out.1 I0.out (by have : (R.put n { p with log := ys }).places.length = R.places.length := Reg.put_len _ _ _; omega)).mono ?_; rintro e w6 ⟨rfl, h6, f6⟩)))
              go_ret2
              rw [END.out]
              have g5 := PL.out.2
              refine ⟨_, ?_, h6, (((F3.out.then F4.out).mono (by simp)).then (g5.mono (fun k hk => .inl (by simp at hk; subst hk; exact (blks_at HA.out).1)))).then (f6.mono (fun k hk => .inl (by simp at hk; subst hk; exact List.mem_cons_self ..))), fun k hk => ?_⟩
              · rw [hm]; rfl
              · rcases blks_set HA.out hk with h | h
                · exact .inl h
                · exact .inr (Nat.le_trans F3.out.size (O4.out k h))
end Go.Proofs.YtkolnoadeihmoaaGreat
