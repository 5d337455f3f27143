/-
  A base: New, Apply of deeds without files, Skip, Count.
  A base: Apply of deeds without files; what a log of one entry leads to.
  A base: Apply, Skip.
  A log of one entry, played.
  What a log of one entry leads to: Replay, Base.
  Regions awake, plain.
-/
import Derived.Deep.RegionHeld3
import Derived.Test.YtkolnoadeihmoaaGreatKd15
import Derived.Test.YtkolnoadeihmoaaGreatKd22
namespace Go.Proofs.YtkolnoadeihmoaaGreat
open Go.RowKit Go.Shelf Go.Proofs.YtkolnoadeihmoaaGreatW.PrintWords
theorem lit_one {α : Type} (d : Kd α) (e : TypeId) (W : World) (x : α) (cs : List Value) (h : d.M W 0 (fun k => some k ≠ some W.heap.size) x cs) :
    d.R e (W.alloc (.cells cs.toArray e)) 0 (fun _ => True) (.slice (some ⟨W.heap.size, 0, none⟩) 1 1) [x] :=
  lit_rows d e W [x] cs (by simp) (by
    have := (Reps.none (d.M W 0 (fun k => some k ≠ some W.heap.size)) d.sz).snoc h (d.K_len (d.K_of_M h))
    simpa using this)
set_option maxRecDepth 100000 in
theorem catnew_any (w : World) :
    Calls Tryz.prog 93 #[] w fun e w' => ∃ cb v, e = .returned (.pointer (some ⟨cb, 0, none⟩)) ∧ CatAt w' cb v Cat.new ∧ Fr [] w w' ∧ w.heap.size ≤ cb ∧ ∀ k, v.ownBlock = some k → w.heap.size ≤ k := by
  have hmk : ∀ w, (Instr.makeSlice 184 (.int .i64 1) (.int .i64 1)).run Tryz.prog w = .ok (.slice (some ⟨w.heap.size, 0, none⟩) 1 1) (w.alloc (.cells #[.int .i64 0, .slice none 0 0, .slice none 0 0] 183)) := fun _ => by kernel_rfl
  go_enter Tryz.func93, Tryz.ntmps93
  go_wp2
  go_ret
  have r := lit_one kS 183 w ⟨0, [], []⟩ [.int .i64 0, .slice none 0 0, .slice none 0 0] (kS_mk _ (ros_empty _ _ _ _ _ _ _) (Kd.R_nil _ _ _ _ _) (fun _ => rfl))
  have hb := heap_alloc_new (w.alloc (.cells #[.int .i64 0, .slice none 0 0, .slice none 0 0] 183)) (.cells #[.slice (some ⟨w.heap.size, 0, none⟩) 1 1] 186)
  rw [World.size_alloc] at hb
  refine ⟨w.heap.size + 1, .slice (some ⟨w.heap.size, 0, none⟩) 1 1, rfl, ⟨hb, Kd.R_alloc r _, by decide, by decide, ?_⟩, ((Fr.refl [] w).alloc _).alloc _, by omega, ?_⟩
  · intro s hs
    simp [Cat.new] at hs
    subst hs
    exact Nat.zero_le _
  · intro k hk
    simp [Value.ownBlock] at hk
    omega
set_option maxRecDepth 100000 in
theorem stonew_any (w : World) :
    Calls Tryz.prog 94 #[] w fun e w' => ∃ sb fm, e = .returned (.pointer (some ⟨sb, 0, none⟩)) ∧ w'.heap[sb]? = some (.cells #[.map (some fm), .int .i64 0] 206 (0, 0)) ∧ Fr [] w w' ∧ w.heap.size ≤ sb := by
  have hmm := @run_makeMap Tryz.prog
  go_enter Tryz.func94, Tryz.ntmps94
  go_wp2
  go_ret
  have hb := heap_alloc_new (w.alloc (.map #[] 0)) (.cells #[.map (some w.heap.size), .int .i64 0] 206)
  rw [World.size_alloc] at hb
  exact ⟨_, _, rfl, hb, ((Fr.refl [] w).alloc _).alloc _, Nat.le_succ _⟩
structure BaseAt (w : World) (tb cb : Nat) (v : Value) (ss : List ST) (sb fm m1 m2 : Nat) (next : Int) : Prop where
  blk : w.heap[tb]? = some (.cells #[.pointer (some ⟨cb, 0, none⟩), .pointer (some ⟨sb, 0, none⟩), .int .i64 next, .int .i64 0, .map (some m1), .map (some m2)] 164 (0, 0))
  cat : CatAt w cb v ss
  sto : w.heap[sb]? = some (.cells #[.map (some fm), .int .i64 0] 206 (0, 0))
theorem BaseAt.fr0 {w w' : World} {tb cb : Nat} {v : Value} {ss : List ST} {sb fm m1 m2 : Nat} {next : Int} (h : BaseAt w tb cb v ss sb fm m1 m2 next) (f : Fr [] w w') : BaseAt w' tb cb v ss sb fm m1 m2 next :=
  ⟨f.blk h.blk (by simp), h.cat.fr0 f, f.blk h.sto (by simp)⟩
def BaseNew (w0 : Nat) (tb cb : Nat) (v : Value) : Prop := w0 ≤ tb ∧ w0 ≤ cb ∧ ∀ k, v.ownBlock = some k → w0 ≤ k
set_option maxRecDepth 100000 in
theorem txnew_any (w : World) :
    Calls Tryz.prog 56 #[] w fun e w' => ∃ tb cb v sb fm m1 m2, e = .returned (.pointer (some ⟨tb, 0, none⟩)) ∧ BaseAt w' tb cb v Cat.new sb fm m1 m2 1 ∧ Fr [] w w' ∧ BaseNew w.heap.size tb cb v := by
  have hmm := @run_makeMap Tryz.prog
  go_enter Tryz.func56, Tryz.ntmps56
  go_wp2_with fail
  refine (catnew_any _).mono ?_
  rintro e w1 ⟨cb, v, rfl, h1, f1, n1, n2⟩
  have H1 := hid h1
  have F1 := hid f1
  have N1 := hid n1
  have N2 := hid n2
  clear h1 f1 n1 n2
  go_wp2_with fail
  refine (stonew_any _).mono ?_
  rintro e w2 ⟨sb, fm, rfl, h2, f2, n3⟩
  have H2 := hid h2
  have F2 := hid f2
  clear h2 f2 n3
  go_wp2
  go_ret
  have f3 : Fr [] w2 (((w2.alloc (.map #[] 0)).alloc (.map #[] 0)).alloc (.cells #[.pointer (some ⟨cb, 0, none⟩), .pointer (some ⟨sb, 0, none⟩), .int .i64 1, .int .i64 0, .map (some w2.heap.size), .map (some (w2.heap.size + 1))] 164)) := (((Fr.refl [] w2).alloc _).alloc _).alloc _
  have hb := heap_alloc_new ((w2.alloc (.map #[] 0)).alloc (.map #[] 0)) (.cells #[.pointer (some ⟨cb, 0, none⟩), .pointer (some ⟨sb, 0, none⟩), .int .i64 1, .int .i64 0, .map (some w2.heap.size), .map (some (w2.heap.size + 1))] 164)
  rw [World.size_alloc, World.size_alloc] at hb
  have hs := F1.out.size
  have hs2 := F2.out.size
  exact ⟨_, cb, v, sb, fm, _, _, rfl, ⟨hb, (H1.out.fr0 F2.out).fr0 f3, f3.blk H2.out (by simp)⟩, (F1.out.then F2.out).then f3, by omega, N1.out, N2.out⟩
section
variable {w : World} {tb cb : Nat} {v : Value} {ss : List ST} {sb fm m1 m2 : Nat} {next : Int}
set_option maxRecDepth 100000 in
theorem tmade_any (h : BaseAt w tb cb v ss sb fm m1 m2 next) : Calls Tryz.prog 65 #[.pointer (some ⟨tb, 0, none⟩)] w fun e w' => e = .returned (.bool true) ∧ w = w' := by
  have c0 := cell_of_row w tb 0 _ _ _ h.blk
  simp at c0
  clear h
  go_enter Tryz.func65, Tryz.ntmps65
  go_wp2
  go_ret
  exact ⟨rfl, rfl⟩
set_option maxRecDepth 100000 in
theorem tcount_any (h : BaseAt w tb cb v ss sb fm m1 m2 next) : Calls Tryz.prog 33 #[.pointer (some ⟨tb, 0, none⟩)] w fun e w' => e = .returned (.int .i64 ((ss.length : Int) - 1)) ∧ w = w' := by
  have H := hid h
  have c0 := cell_of_row w tb 0 _ _ _ h.blk
  simp at c0
  obtain ⟨g, c, e, -, -⟩ := h.cat.form
  have d0 := h.cat.c0
  rw [e] at d0
  have hp := h.cat.pos
  have hsm := h.cat.small
  have hcat : Hid (Calls Tryz.prog 72 #[.pointer (some ⟨tb, 0, none⟩)] w fun e w' => e = .returned (.pointer (some ⟨cb, 0, none⟩)) ∧ w = w') := by
    refine hid ?_
    clear e d0
    go_enter Tryz.func72, Tryz.ntmps72
    go_wp2_with fail
    refine (tmade_any H.out).mono ?_
    rintro e w' ⟨rfl, rfl⟩
    go_wp2
    go_ret
    exact ⟨rfl, rfl⟩
  have D0 := hid d0
  clear h e d0
  go_enter Tryz.func33, Tryz.ntmps33
  go_wp2_with fail
  refine hcat.out.mono ?_
  rintro e w' ⟨rfl, rfl⟩
  go_wp2_with fail
  refine (count_yes cb _ ss.length c _ D0.out hp (by omega)).mono ?_
  rintro e w' ⟨rfl, rfl⟩
  go_wp2
  go_ret
  exact ⟨rfl, rfl⟩
end
set_option maxRecDepth 100000 in
theorem idx0_any (A : Option Addr) (c : Nat) (f : Value) (w : World) : Calls Tryz.prog 240 #[.slice A 0 c, f] w fun e w' => e = .returned (.int .i64 (-1)) ∧ w = w' := by
  go_enter Tryz.func240, Tryz.ntmps240
  go_wp2
  go_loopw [8] (fun i wr => i = .int .i64 0 ∧ w = wr) (fun _ _ => 0)
  case atStart => exact ⟨rfl, rfl⟩
  case round =>
    obtain ⟨rfl, rfl⟩ := hrel
    go_wp2
    go_ret
    exact ⟨rfl, rfl⟩
set_option maxRecDepth 100000 in
theorem del0_any (A : Option Addr) (c : Nat) (f : Value) (w : World) : Calls Tryz.prog 198 #[.slice A 0 c, f] w fun e w' => e = .returned (.slice A 0 c) ∧ w = w' := by
  go_enter Tryz.func198, Tryz.ntmps198
  go_wp2_with fail
  refine (idx0_any A c f _).mono ?_
  rintro e w' ⟨rfl, rfl⟩
  go_wp2
  go_ret
  exact ⟨rfl, rfl⟩
set_option maxRecDepth 100000 in
theorem comp0_any (A : Option Addr) (c : Nat) (w : World) : Calls Tryz.prog 125 #[.slice A 0 c] w fun e w' => e = .returned (.slice A 0 c) ∧ w = w' := by
  go_enter Tryz.func125, Tryz.ntmps125
  go_wp2
  go_ret
  exact ⟨rfl, rfl⟩
theorem sort0_any (A : Option Addr) (c : Nat) (w : World) : Calls Tryz.prog 86 #[.slice A 0 c] w fun e w' => e = .returned (.tuple #[]) ∧ w' = w := AnyM.slices_Sort_int_none Tryz.sortA A c w
set_option maxRecDepth 100000 in
theorem miss0_any (A : Option Addr) (c : Nat) (sb fm : Nat) (w : World) (h : w.heap[sb]? = some (.cells #[.map (some fm), .int .i64 0] 206 (0, 0))) (hC : kI.C w A 0 []) :
    Calls Tryz.prog 144 #[.pointer (some ⟨sb, 0, none⟩), .slice A 0 c] w fun e w' => ∃ A' c', e = .returned (.slice A' 0 c') ∧ Fr [] w w' := by
  have HB := hid h
  have HC := hid hC
  have F1 := hid ((Fr.refl [] w).alloc (.cells #[.pointer (some ⟨sb, 0, none⟩)] 160))
  have hmade : ∀ W, W.cell? ⟨sb, 0, none⟩ = some (.map (some fm)) → Calls Tryz.prog 167 #[.pointer (some ⟨sb, 0, none⟩)] W fun e w' => e = .returned (.bool true) ∧ W = w' := by
    intro W c0
    have hmn := run_neq_map_nil (P := Tryz.prog) W 204 3 9 (some fm) Tryz.underlying204
    go_enter Tryz.func167, Tryz.ntmps167
    go_wp2
    go_ret
    exact ⟨rfl, rfl⟩
  have HM := hid hmade
  have c0 := cell_of_row _ sb 0 _ _ _ (F1.out.blk h (by simp))
  simp at c0
  have C0 := hid c0
  clear h hC hmade c0
  go_enter Tryz.func144, Tryz.ntmps144
  go_wp2_with fail
  refine (HM.out _ C0.out).mono ?_
  rintro e w' ⟨rfl, rfl⟩
  go_wp2_with fail
  refine (clone_ints A c _ [] (Kd.C_below HC.out F1.out.below0) (by simp)).mono ?_
  rintro e w2 ⟨v2, rfl, r2, f2, -⟩
  have F2 := hid (F1.out.then f2)
  obtain ⟨A2, c2, rfl⟩ := Kd.R_slice r2
  clear f2 r2
  simp only [List.length_nil]
  go_wp2_with fail
  refine (del0_any A2 c2 _ _).mono ?_
  rintro e w' ⟨rfl, rfl⟩
  go_wp2_with fail
  refine (sort0_any A2 c2 _).mono ?_
  rintro e w' ⟨rfl, rfl⟩
  go_wp2_with fail
  refine (comp0_any A2 c2 _).mono ?_
  rintro e w' ⟨rfl, rfl⟩
  go_wp2
  go_ret
  exact ⟨A2, c2, rfl, F2.out⟩
end Go.Proofs.YtkolnoadeihmoaaGreat
namespace Go.Proofs.YtkolnoadeihmoaaGreat
open Go.RowKit Go.Shelf Go.Proofs.YtkolnoadeihmoaaGreatW.PrintWords
set_option maxRecDepth 100000 in
theorem apply1_any (HV : ValidSays) (x : DE) (A4 : Option Addr) (c4 : Nat) (A6 : Option Addr) (c6 : Nat) (w : World) (r4 : kC.C w A4 x.f4.length x.f4) (r6 : kI.C w A6 x.f6.length x.f6) (hi : DeedIn x) :
    Calls Tryz.prog 142 #[deedV x A4 c4 A6 c6] w fun e w' => e = .returned (.bool (!validB x)) ∧ Fr [] w w' := by
  have F1 := hid ((((Fr.refl [] w).alloc (.cells #[.string x.f0, .string x.f1, .string x.f2, .string x.f3, .slice A4 x.f4.length c4, .int .i64 x.f5, .slice A6 x.f6.length c6] 135))))
  have HC := hid (HV x A4 c4 A6 c6 _ (Kd.C_below r4 F1.out.below0) (Kd.C_below r6 F1.out.below0) hi)
  unfold deedV at HC ⊢
  clear r4 r6 hi
  go_enter Tryz.func142, Tryz.ntmps142
  go_wp2_with (go_at_call 91; refine HC.out.mono ?_; rintro e w3 ⟨rfl, f3⟩)
  go_ret
  exact ⟨rfl, F1.out.then f3⟩
set_option maxRecDepth 100000 in
theorem aindex_any (HV : ValidSays) (A : Option Addr) (c : Nat) (xs : List DE) (w : World) (hC : Kd.C k135 w A xs.length xs) (hl : xs.length ≤ 9223372036854775807) (hi : ∀ y ∈ xs, DeedIn y) :
    Calls Tryz.prog 134 #[.slice A xs.length c, .func (.func 142) #[] #[]] w fun e w' => e = .returned (.int .i64 (badIx xs)) ∧ Fr [] w w' := by
  have HC := hid hC
  have HI := hid hi
  have HVV := hid HV
  clear hC hi HV
  go_enter Tryz.func134, Tryz.ntmps134
  go_wp2
  go_loopw [8] (fun i wr => ∃ k : Nat, i = .int .i64 k ∧ k ≤ xs.length ∧ (∀ j y, j < k → xs[j]? = some y → validB y = true) ∧ Fr [] w wr) (fun i _ => xs.length - (intOf i).toNat)
  case atStart => exact ⟨0, rfl, Nat.zero_le _, fun j x hj => absurd hj (Nat.not_lt_zero _), Fr.refl _ _⟩
  case round =>
    obtain ⟨k, rfl, hk, hb, hF⟩ := hrel
    have HB := hid hb
    have HF := hid hF
    clear hb hF
    by_cases hlt : k < xs.length
    · obtain ⟨x, hx⟩ : ∃ x, xs[k]? = some x := ⟨_, List.getElem?_eq_getElem hlt⟩
      obtain ⟨b, off, A4, c4, A6, c6, eA, hat⟩ := deeds_at HC.out hx
      have hxi := kDeedIn HI.out hx
      subst eA
      obtain ⟨d0, d1, d2, d3, d4, d5, d6, l4, r4, l6, r6⟩ := hat.fr HF.out
      have HCALL := hid (apply1_any HVV.out x A4 c4 A6 c6 wr r4 r6 hxi)
      unfold deedV at HCALL
      have HX := hid hx
      have hm0 : (0 : Int) ≤ (k : Int) := by omega
      have hm1 : (k : Int) < (xs.length : Int) := by omega
      obtain ⟨vb, hvb⟩ : ∃ vb, vb = validB x := ⟨_, rfl⟩
      rw [← hvb] at HCALL
      have HVB := hid hvb
      clear hat r4 r6 hx hxi hvb
      cases vb with
      | false =>
        go_wp2_with (go_at_call 142; refine HCALL.out.mono ?_; rintro e w3 ⟨rfl, f3⟩)
        go_ret
        refine ⟨?_, HF.out.then f3⟩
        rw [bad_at HB.out HX.out HVB.out.symm]
        rfl
      | true =>
        go_wp2_with (go_at_call 142; refine HCALL.out.mono ?_; rintro e w3 ⟨rfl, f3⟩)
        go_roundw
        case rel =>
          refine ⟨k + 1, by go_num, by omega, fun j y hj hy => ?_, HF.out.then f3⟩
          rcases Nat.lt_succ_iff_lt_or_eq.1 hj with h | rfl
          · exact HB.out j y h hy
          · rw [HX.out] at hy; cases hy; exact HVB.out.symm
        case measure => simp [intOf]; omega
    · obtain rfl : k = xs.length := by omega
      go_wp2
      go_ret
      rw [bad_none HB.out]
      exact ⟨rfl, HF.out⟩
set_option maxRecDepth 100000 in
theorem acontains_any (HV : ValidSays) (A : Option Addr) (c : Nat) (xs : List DE) (w : World) (hC : Kd.C k135 w A xs.length xs) (hl : xs.length ≤ 9223372036854775807) (hi : ∀ y ∈ xs, DeedIn y) :
    Calls Tryz.prog 89 #[.slice A xs.length c, .func (.func 142) #[] #[]] w fun e w' => e = .returned (.bool (anyBad xs)) ∧ Fr [] w w' := by
  have HCALL := hid (aindex_any HV A c xs w hC hl hi)
  unfold anyBad
  generalize badIx xs = r at HCALL ⊢
  clear HV hC hi
  go_enter Tryz.func89, Tryz.ntmps89
  go_wp2_with (go_at_call 134; refine HCALL.out.mono ?_; rintro e w3 ⟨rfl, f3⟩)
  go_ret
  exact ⟨rfl, f3⟩
set_option maxRecDepth 100000 in
set_option maxHeartbeats 4000000 in
theorem apply2_any (x : DE) (hx : x.f6 = []) (A4 : Option Addr) (c4 : Nat) (A6 : Option Addr) (c6 : Nat) (w : World) (bb tb cb : Nat) (v : Value) (ss : List ST) (sb fm m1 m2 : Nat) (next : Int) (h : BaseAt w tb cb v ss sb fm m1 m2 next) (hbb : w.cell? ⟨bb, 0, none⟩ = some (.pointer (some ⟨tb, 0, none⟩))) (r6 : kI.C w A6 0 []) :
    Calls Tryz.prog 143 #[deedV x A4 c4 A6 c6, .pointer (some ⟨bb, 0, none⟩)] w fun e w' => e = .returned (.bool false) ∧ Fr [] w w' := by
  have H := hid h
  have R6 := hid r6
  have F1 := hid ((Fr.refl [] w).alloc (.cells #[.string x.f0, .string x.f1, .string x.f2, .string x.f3, .slice A4 x.f4.length c4, .int .i64 x.f5, .slice A6 0 c6] 135))
  have B1 := hid (heap_alloc_new w (.cells #[.string x.f0, .string x.f1, .string x.f2, .string x.f3, .slice A4 x.f4.length c4, .int .i64 x.f5, .slice A6 0 c6] 135))
  unfold deedV
  rw [hx]
  simp only [List.length_nil]
  have t1 := cell_of_row w tb 1 _ _ _ h.blk
  simp at t1
  have T1 := hid t1
  have BB := hid hbb
  clear h r6 hx hbb t1
  go_enter Tryz.func143, Tryz.ntmps143
  go_wp2_with fail
  generalize w.alloc (.cells #[.string x.f0, .string x.f1, .string x.f2, .string x.f3, .slice A4 x.f4.length c4, .int .i64 x.f5, .slice A6 0 c6] 135) = w1 at F1 B1 ⊢
  have n6 := cell_of_row w1 w.heap.size 6 _ _ _ B1.out
  simp at n6
  have HS := hid (fun w' (f : Fr [] w1 w') => (⟨(F1.out.then f).cell0 BB.out, (F1.out.then f).cell0 T1.out, f.cell0 n6⟩ : (fun w' : World => w'.cell? ⟨bb, 0, none⟩ = some (.pointer (some ⟨tb, 0, none⟩)) ∧ w'.cell? ⟨tb, 1, none⟩ = some (.pointer (some ⟨sb, 0, none⟩)) ∧ w'.cell? ⟨w.heap.size, 6, none⟩ = some (.slice A6 0 c6)) w'))
  have S0 := HS.out _ (Fr.refl [] w1).drew
  clear n6
  go_region_held3 (fun w' : World => w'.cell? ⟨bb, 0, none⟩ = some (.pointer (some ⟨tb, 0, none⟩)) ∧ w'.cell? ⟨tb, 1, none⟩ = some (.pointer (some ⟨sb, 0, none⟩)) ∧ w'.cell? ⟨w.heap.size, 6, none⟩ = some (.slice A6 0 c6)) (with_reducible first | exact S0 | exact S2) (first
    | (go_at_call 144; refine (miss0_any A6 c6 sb fm _ (H.out.fr0 (F1.out.drew)).sto (Kd.C_below R6.out F1.out.drew.below0)).mono ?_; rintro e w2 ⟨A', c', rfl, f2⟩; have F2 := hid ((Fr.refl [] w1).drew.then f2); have S2 := HS.out _ F2.out; clear f2))
  go_wp2
  go_ret
  exact ⟨rfl, F1.out.then F2.out⟩
end Go.Proofs.YtkolnoadeihmoaaGreat
namespace Go.Proofs.YtkolnoadeihmoaaGreat
open Go.RowKit Go.Shelf Go.Proofs.YtkolnoadeihmoaaGreatW.PrintWords
def DeedsIn (S : List Nat) (w : World) (A : Option Addr) (xs : List DE) : Prop := ∀ w', Fr S w w' → Kd.C k135 w' A xs.length xs
theorem DeedsIn.here {S : List Nat} {w : World} {A : Option Addr} {xs : List DE} (h : DeedsIn S w A xs) : Kd.C k135 w A xs.length xs := h w (Fr.refl _ _)
theorem DeedsIn.then {S : List Nat} {w w' : World} {A : Option Addr} {xs : List DE} (h : DeedsIn S w A xs) (f : Fr S w w') : DeedsIn S w' A xs := fun w2 g => h w2 (f.then g)
theorem DeedsIn.fr0 {S : List Nat} {w w' : World} {A : Option Addr} {xs : List DE} (h : DeedsIn S w A xs) (f : Fr [] w w') : DeedsIn S w' A xs := h.then (f.mono (by simp))
section
variable (tb cb : Nat) (v : Value) (ss : List ST) (sb fm m1 m2 : Nat) (next : Int)
set_option maxRecDepth 100000 in
theorem cindex_any (A : Option Addr) (c : Nat) (xs : List DE) (w : World) (bb : Nat) (h : BaseAt w tb cb v ss sb fm m1 m2 next) (hbb : w.cell? ⟨bb, 0, none⟩ = some (.pointer (some ⟨tb, 0, none⟩))) (hC : Kd.C k135 w A xs.length xs) (hl : xs.length ≤ 9223372036854775807) (h6 : ∀ y ∈ xs, y.f6 = []) :
    Calls Tryz.prog 134 #[.slice A xs.length c, .func (.func 143) #[] #[.pointer (some ⟨bb, 0, none⟩)]] w fun e w' => e = .returned (.int .i64 (-1)) ∧ Fr [] w w' := by
  have H := hid h
  have HC := hid hC
  have H6 := hid h6
  have BB := hid hbb
  clear hC h h6 hbb
  go_enter Tryz.func134, Tryz.ntmps134
  go_wp2
  go_loopw [8] (fun i wr => ∃ k : Nat, i = .int .i64 k ∧ k ≤ xs.length ∧ Fr [] w wr) (fun i _ => xs.length - (intOf i).toNat)
  case atStart => exact ⟨0, rfl, Nat.zero_le _, Fr.refl _ _⟩
  case round =>
    obtain ⟨k, rfl, hk, hF⟩ := hrel
    have HF := hid hF
    clear hF
    by_cases hlt : k < xs.length
    · obtain ⟨x, hx⟩ : ∃ x, xs[k]? = some x := ⟨_, List.getElem?_eq_getElem hlt⟩
      obtain ⟨b, off, A4, c4, A6, c6, eA, hat⟩ := deeds_at HC.out hx
      have hx6 := H6.out x (List.mem_iff_getElem?.2 ⟨k, hx⟩)
      subst eA
      obtain ⟨d0, d1, d2, d3, d4, d5, d6, l4, r4, l6, r6⟩ := hat.fr HF.out
      have HCALL := hid (apply2_any x hx6 A4 c4 A6 c6 wr bb tb cb v ss sb fm m1 m2 next (H.out.fr0 HF.out) (HF.out.cell0 BB.out) (by rw [hx6] at r6; exact r6))
      unfold deedV at HCALL
      have hm0 : (0 : Int) ≤ (k : Int) := by omega
      have hm1 : (k : Int) < (xs.length : Int) := by omega
      have HX6 := hid hx6
      clear hat r4 r6 hx hx6
      go_wp2_with (go_at_call 143; refine HCALL.out.mono ?_; rintro e w3 ⟨rfl, f3⟩)
      go_roundw
      case rel => exact ⟨k + 1, by go_num, by omega, HF.out.then f3⟩
      case measure => simp [intOf]; omega
    · obtain rfl : k = xs.length := by omega
      go_wp2
      go_ret
      exact ⟨rfl, HF.out⟩
set_option maxRecDepth 100000 in
theorem ccontains_any (A : Option Addr) (c : Nat) (xs : List DE) (w : World) (bb : Nat) (h : BaseAt w tb cb v ss sb fm m1 m2 next) (hbb : w.cell? ⟨bb, 0, none⟩ = some (.pointer (some ⟨tb, 0, none⟩))) (hC : Kd.C k135 w A xs.length xs) (hl : xs.length ≤ 9223372036854775807) (h6 : ∀ y ∈ xs, y.f6 = []) :
    Calls Tryz.prog 89 #[.slice A xs.length c, .func (.func 143) #[] #[.pointer (some ⟨bb, 0, none⟩)]] w fun e w' => e = .returned (.bool false) ∧ Fr [] w w' := by
  have HCALL := hid (cindex_any tb cb v ss sb fm m1 m2 next A c xs w bb h hbb hC hl h6)
  clear h hbb hC h6
  go_enter Tryz.func89, Tryz.ntmps89
  go_wp2_with (go_at_call 134; refine HCALL.out.mono ?_; rintro e w3 ⟨rfl, f3⟩)
  go_ret
  exact ⟨rfl, f3⟩
def Applied (xs : List DE) (time : Int) (w : World) (e : Ending) (w' : World) : Prop :=
  e = .returned (.tuple #[.int .i64 (commitBy ss xs time).1.1, .int .i64 (commitBy ss xs time).1.2]) ∧ ∃ v', BaseAt w' tb cb v' (commitBy ss xs time).2 sb fm m1 m2 next ∧ Fr (cb :: v.ownBlock.toList) w w' ∧ ∀ k, v'.ownBlock = some k → v.ownBlock = some k ∨ w.heap.size ≤ k
theorem BaseAt.cat_of {w w' : World} {v' : Value} {ss' : List ST} (h : BaseAt w tb cb v ss sb fm m1 m2 next) (f : Fr (cb :: v.ownBlock.toList) w w') (hc : CatAt w' cb v' ss') : BaseAt w' tb cb v' ss' sb fm m1 m2 next := by
  have hne : ∀ (b : Nat) (cs : Array Value) (t : TypeId), w.heap[b]? = some (.cells cs t (0, 0)) → t ≠ 186 → t ≠ 183 → b ∉ cb :: v.ownBlock.toList := by
    intro b cs t hb h1 h2 hm
    rcases List.mem_cons.1 hm with rfl | hm
    · rw [h.cat.blk] at hb
      injection hb with hb; injection hb with _ hb; exact h1 hb.symm
    · obtain ⟨cells', hc'⟩ := Kd.R_typed h.cat.row b (by simpa using hm)
      rw [hc'] at hb
      injection hb with hb; injection hb with _ hb; exact h2 hb.symm
  exact ⟨f.blk h.blk (hne _ _ _ h.blk (by decide) (by decide)), hc, f.blk h.sto (hne _ _ _ h.sto (by decide) (by decide))⟩
set_option maxRecDepth 100000 in
set_option maxHeartbeats 4000000 in
theorem tcommit_any (A : Option Addr) (c : Nat) (xs : List DE) (time : Int) (w : World) (h : BaseAt w tb cb v ss sb fm m1 m2 next) (hR : DeedsIn (cb :: v.ownBlock.toList) w A xs) (hl : xs.length ≤ 100000) (hi : ∀ y ∈ xs, DeedIn y) (h6 : ∀ y ∈ xs, y.f6 = []) :
    Calls Tryz.prog 145 #[.pointer (some ⟨tb, 0, none⟩), .slice A xs.length c, .int .i64 time] w (Applied tb cb v ss sb fm m1 m2 next xs time w) := by
  have H := hid h
  have HR := hid hR
  have HI := hid hi
  have H6 := hid h6
  have t0 := cell_of_row w tb 0 _ _ _ h.blk
  simp at t0
  clear h hR hi h6
  go_enter Tryz.func145, Tryz.ntmps145
  go_wp2_with fail
  refine (committed cb v ss A c xs time w H.out.cat ⟨HR.out.here, hl, HI.out⟩).mono ?_
  rintro e w1 ⟨rfl, v', h1, f1, o1⟩
  have H1 := hid (BaseAt.cat_of tb cb v ss sb fm m1 m2 next H.out f1 h1)
  have R1 := hid (HR.out.then f1)
  have F1 := hid f1
  have O1 := hid o1
  clear h1 f1 o1 t0
  go_wp2
  go_loopw [26] (fun i wr => ∃ k : Nat, i = .int .i64 k ∧ k ≤ xs.length ∧ Fr [] w1 wr) (fun i _ => xs.length - (intOf i).toNat)
  case atStart => exact ⟨0, rfl, Nat.zero_le _, Fr.refl _ _⟩
  case round =>
    obtain ⟨k, rfl, hk, hF⟩ := hrel
    have HF := hid hF
    clear hF
    by_cases hlt : k < xs.length
    · obtain ⟨x, hx⟩ : ∃ x, xs[k]? = some x := ⟨_, List.getElem?_eq_getElem hlt⟩
      obtain ⟨b, off, A4, c4, A6, c6, eA, hat⟩ := deeds_at R1.out.here hx
      have hx6 := H6.out x (List.mem_iff_getElem?.2 ⟨k, hx⟩)
      subst eA
      obtain ⟨d0, d1, d2, d3, d4, d5, d6, l4, r4, l6, r6⟩ := hat.fr HF.out
      have hm0 : (0 : Int) ≤ (k : Int) := by omega
      have hm1 : (k : Int) < (xs.length : Int) := by omega
      rw [hx6] at d6
      simp only [List.length_nil] at d6
      clear hat r4 r6 hx hx6 l6
      go_wp2_with fail
      go_loopw [33] (fun i wq => i = .int .i64 0 ∧ wq = wr.alloc (.cells #[.string x.f0, .string x.f1, .string x.f2, .string x.f3, .slice A4 x.f4.length c4, .int .i64 x.f5, .slice A6 0 c6] 135)) (fun _ _ => 0)
      case atStart => exact ⟨rfl, rfl⟩
      case round =>
        obtain ⟨rfl, rfl⟩ := hrel
        go_wp2
        go_roundw
        case rel => exact ⟨k + 1, by go_num, by omega, HF.out.alloc _⟩
        case measure => simp [intOf]; omega
    · obtain rfl : k = xs.length := by omega
      go_wp2
      go_ret2
      exact ⟨rfl, v', H1.out.fr0 HF.out, F1.out.trans HF.out (by simp), O1.out⟩
set_option maxRecDepth 100000 in
set_option maxHeartbeats 4000000 in
theorem apply_any (A : Option Addr) (c : Nat) (xs : List DE) (time : Int) (w : World) (h : BaseAt w tb cb v ss sb fm m1 m2 next) (hR : DeedsIn (cb :: v.ownBlock.toList) w A xs) (hl : 1 ≤ xs.length ∧ xs.length ≤ 60) (hi : ∀ y ∈ xs, DeedIn y) (hb : anyBad xs = false) (h6 : ∀ y ∈ xs, y.f6 = []) :
    Calls Tryz.prog 98 #[.pointer (some ⟨tb, 0, none⟩), .slice A xs.length c, .int .i64 time] w (Applied tb cb v ss sb fm m1 m2 next xs time w) := by
  have F1 := hid ((Fr.refl [] w).alloc (.cells #[.pointer (some ⟨tb, 0, none⟩)] 67))
  have B1 := hid (heap_alloc_new w (.cells #[.pointer (some ⟨tb, 0, none⟩)] 67))
  have H := hid (h.fr0 F1.out)
  have HR := hid (hR.fr0 F1.out)
  have HI := hid hi
  have H6 := hid h6
  have HA := hid (fun w' (f : Fr [] (w.alloc (.cells #[.pointer (some ⟨tb, 0, none⟩)] 67)) w') => acontains_any validSays A c xs w' (HR.out.fr0 f).here (by omega) hi)
  rw [hb] at HA
  have q1 : decide ((xs.length : Int) < 1) = false := decide_eq_false (by omega)
  have q1p : ¬ (xs.length : Int) < 1 := by omega
  have q2 : decide ((60 : Int) < (xs.length : Int)) = false := decide_eq_false (by omega)
  have q2p : ¬ (60 : Int) < (xs.length : Int) := by omega
  have q2n : ¬ 60 < xs.length := by omega
  clear h hR hi h6 hb
  go_enter Tryz.func98, Tryz.ntmps98
  go_wp2_with fail
  refine (tmade_any H.out).mono ?_
  rintro e w' ⟨rfl, rfl⟩
  go_wp2_with fail
  refine (HA.out _ (Fr.refl _ _)).mono ?_
  rintro e w2 ⟨rfl, f2⟩
  have F2 := hid f2
  clear f2
  go_wp2_with fail
  have b2 := F2.out.blk B1.out (by simp)
  have n0 := cell_of_row w2 w.heap.size 0 _ _ _ b2
  simp at n0
  have N0 := hid n0
  clear b2
  refine (ccontains_any tb cb v ss sb fm m1 m2 next A c xs w2 w.heap.size (H.out.fr0 F2.out) N0.out (HR.out.fr0 F2.out).here (by omega) H6.out).mono ?_
  rintro e w3 ⟨rfl, f3⟩
  have F3 := hid (F2.out.then f3)
  have m0 := f3.cell0 n0
  clear f3 n0
  go_wp2_with fail
  refine (tcommit_any tb cb v ss sb fm m1 m2 next A c xs time w3 (H.out.fr0 F3.out) (HR.out.fr0 F3.out) (by omega) HI.out H6.out).mono ?_
  rintro e w4 ⟨rfl, v', h4, f4, o4⟩
  have H4 := hid h4
  have F4 := hid f4
  have O4 := hid o4
  clear h4 f4 o4
  go_wp2
  go_ret2
  exact ⟨rfl, v', H4.out, ((F1.out.then F3.out).mono (by simp)).then F4.out, fun k hk => (O4.out k hk).imp id (fun h => Nat.le_trans (F1.out.then F3.out).size h)⟩
set_option maxRecDepth 100000 in
theorem skip_any (n : Int) (w : World) (h : BaseAt w tb cb v ss sb fm m1 m2 next) (hn : 1 ≤ n ∧ n ≤ 1000000001) :
    Calls Tryz.prog 99 #[.pointer (some ⟨tb, 0, none⟩), .int .i64 n] w fun e w' => e = .returned (.int .i64 0) ∧ BaseAt w' tb cb v ss sb fm m1 m2 (max next n) ∧ Fr [tb] w w' := by
  have H := hid h
  have t2 := cell_of_row w tb 2 _ _ _ h.blk
  simp at t2
  have z2 := blk_free h.blk 2
  have q1 : decide (n < 1) = false := decide_eq_false (by omega)
  have q1p : ¬ n < 1 := by omega
  have q2 : decide (1000000001 < n) = false := decide_eq_false (by omega)
  have q2p : ¬ 1000000001 < n := by omega
  clear h
  go_enter Tryz.func99, Tryz.ntmps99
  go_wp2_with fail
  refine (tmade_any H.out).mono ?_
  rintro e w' ⟨rfl, rfl⟩
  go_wp2
  go_ret
  have f : Fr [tb] w (w.setCell ⟨tb, 2, none⟩ (.int .i64 (max next n))) := (Fr.refl _ _).setCell (.inl (by simp)) _
  have hne : ∀ (b : Nat) (cs : Array Value) (t : TypeId), w.heap[b]? = some (.cells cs t (0, 0)) → t ≠ 164 → b ∉ [tb] := by
    intro b cs t hb h1 hm
    obtain rfl := List.mem_singleton.1 hm
    rw [H.out.blk] at hb
    injection hb with hb; injection hb with _ hb; exact h1 hb.symm
  refine ⟨rfl, ⟨?_, H.out.cat.fr f (hne _ _ _ H.out.cat.blk (by decide)) (NoT.one H.out.blk (fun q hq => by simp at hq; rcases hq with rfl | rfl | rfl | rfl | rfl <;> decide)), f.blk H.out.sto (hne _ _ _ H.out.sto (by decide))⟩, f⟩
  have := blk_setCell H.out.blk 2 (.int .i64 (max next n))
  simp only [List.setIfInBounds_toArray, List.set_cons_succ, List.set_cons_zero] at this
  exact this
end
end Go.Proofs.YtkolnoadeihmoaaGreat
namespace Go.Proofs.YtkolnoadeihmoaaGreat
open Go.RowKit Go.Shelf Go.Proofs.YtkolnoadeihmoaaGreatW.PrintWords
set_option maxRecDepth 100000 in
theorem laid0_any (A : Option Addr) (c : Nat) (xs : List DE) (w : World) (hC : Kd.C k135 w A xs.length xs) (hl : xs.length ≤ 9223372036854775807) (h6 : ∀ y ∈ xs, y.f6 = []) :
    Calls Tryz.prog 70 #[.slice A xs.length c] w fun e w' => e = .returned (.slice none 0 0) ∧ Fr [] w w' := by
  have HC := hid hC
  have H6 := hid h6
  clear hC h6
  go_enter Tryz.func70, Tryz.ntmps70
  go_wp2
  go_loopw [3, 8] (fun out i wr => ∃ k : Nat, i = .int .i64 k ∧ out = .slice none 0 0 ∧ k ≤ xs.length ∧ Fr [] w wr) (fun _ i _ => xs.length - (intOf i).toNat)
  case atStart => exact ⟨0, rfl, rfl, Nat.zero_le _, Fr.refl _ _⟩
  case round =>
    obtain ⟨k, rfl, rfl, hk, hF⟩ := hrel
    have HF := hid hF
    clear hF
    by_cases hlt : k < xs.length
    · obtain ⟨x, hx⟩ : ∃ x, xs[k]? = some x := ⟨_, List.getElem?_eq_getElem hlt⟩
      obtain ⟨b, off, A4, c4, A6, c6, eA, hat⟩ := deeds_at HC.out hx
      have hx6 := H6.out x (List.mem_iff_getElem?.2 ⟨k, hx⟩)
      subst eA
      obtain ⟨d0, d1, d2, d3, d4, d5, d6, l4, r4, l6, r6⟩ := hat.fr HF.out
      have hm0 : (0 : Int) ≤ (k : Int) := by omega
      have hm1 : (k : Int) < (xs.length : Int) := by omega
      rw [hx6] at d6
      simp only [List.length_nil] at d6
      clear hat r4 r6 hx hx6 l6
      cases A6 with
      | none =>
        go_wp2
        go_roundw
        case rel => exact ⟨k + 1, by go_num, rfl, by omega, HF.out.alloc _⟩
        case measure => simp [intOf]; omega
      | some a6 =>
        go_wp2
        go_roundw
        case rel => exact ⟨k + 1, by go_num, rfl, by omega, HF.out.alloc _⟩
        case measure => simp [intOf]; omega
    · obtain rfl : k = xs.length := by omega
      go_wp2_with fail
      refine (sort0_any none 0 _).mono ?_
      rintro e w' ⟨rfl, rfl⟩
      go_wp2_with fail
      refine (comp0_any none 0 _).mono ?_
      rintro e w' ⟨rfl, rfl⟩
      go_wp2
      go_ret
      exact ⟨rfl, HF.out⟩
theorem cat_ne {w : World} {cb : Nat} {v : Value} {ss : List ST} (h : CatAt w cb v ss) {b : Nat} {cs : Array Value} {t : TypeId} (hb : w.heap[b]? = some (.cells cs t (0, 0))) (h1 : t ≠ 186) (h2 : t ≠ 183) : b ∉ cb :: v.ownBlock.toList := by
  intro hm
  rcases List.mem_cons.1 hm with rfl | hm
  · rw [h.blk] at hb
    injection hb with hb; injection hb with _ hb; exact h1 hb.symm
  · obtain ⟨cells', hc'⟩ := Kd.R_typed h.row b (by simpa using hm)
    rw [hc'] at hb
    injection hb with hb; injection hb with _ hb; exact h2 hb.symm
theorem blk_ne {w : World} {b b' : Nat} {cs cs' : Array Value} {t t' : TypeId} (h : w.heap[b]? = some (.cells cs t (0, 0))) (h' : w.heap[b']? = some (.cells cs' t' (0, 0))) (hne : t ≠ t') : b ∉ [b'] := by
  intro hm
  obtain rfl := List.mem_singleton.1 hm
  rw [h] at h'
  injection h' with h'; injection h' with _ h'; exact hne h'
def Played (tb cb : Nat) (v : Value) (ss : List ST) (sb fm m1 m2 : Nat) (next : Int) (w : World) (e : Ending) (w' : World) : Prop :=
  e = .returned (.int .i64 0) ∧ ∃ v', BaseAt w' tb cb v' ss sb fm m1 m2 next ∧ Fr (tb :: cb :: v.ownBlock.toList) w w' ∧ ∀ k, v'.ownBlock = some k → v.ownBlock = some k ∨ w.heap.size ≤ k
set_option maxRecDepth 100000 in
set_option maxHeartbeats 4000000 in
theorem play_any (pb sm : Nat) (tb cb : Nat) (v : Value) (ss : List ST) (sb fm m1 m2 : Nat) (next : Int) (x : LO) (A0 : Option Addr) (c0 : Nat) (A2 : Option Addr) (c2 : Nat) (w : World) (h : BaseAt w tb cb v ss sb fm m1 m2 next)
    (hp : w.heap[pb]? = some (.cells #[.pointer (some ⟨tb, 0, none⟩), .slice none 0 0, .map (some sm)] 124 (0, 0))) (hR : DeedsIn (cb :: v.ownBlock.toList) w A0 x.f0) (hl : 1 ≤ x.f0.length ∧ x.f0.length ≤ 60) (hi : ∀ y ∈ x.f0, DeedIn y) (hb : anyBad x.f0 = false) (h6 : ∀ y ∈ x.f0, y.f6 = []) (h2 : x.f2 = [])
    (h3 : 1 ≤ x.f3 ∧ x.f3 ≤ 1000000001) (hok : (commitBy ss x.f0 x.f1).1.2 = 0) :
    Calls Tryz.prog 57 #[.pointer (some ⟨pb, 0, none⟩), logV x (.slice A0 x.f0.length c0) (.slice A2 x.f2.length c2)] w (Played tb cb v (commitBy ss x.f0 x.f1).2 sb fm m1 m2 (max next x.f3) w) := by
  have F1 := hid ((Fr.refl [] w).alloc (.cells #[.slice A0 x.f0.length c0, .int .i64 x.f1, .slice A2 0 c2, .int .i64 x.f3] 40))
  have B1 := hid (heap_alloc_new w (.cells #[.slice A0 x.f0.length c0, .int .i64 x.f1, .slice A2 0 c2, .int .i64 x.f3] 40))
  have H := hid (h.fr0 F1.out)
  have HP := hid (F1.out.blk hp (by simp))
  have HR := hid (hR.fr0 F1.out)
  have HI := hid hi
  have HB := hid hb
  have H6 := hid h6
  have OK := hid hok
  unfold logV
  rw [h2]
  simp only [List.length_nil]
  clear h hp hR hi hb h6 hok h2
  go_enter Tryz.func57, Tryz.ntmps57
  go_wp2_with fail
  generalize w.alloc (.cells #[.slice A0 x.f0.length c0, .int .i64 x.f1, .slice A2 0 c2, .int .i64 x.f3] 40) = w1 at F1 B1 H HP HR ⊢
  go_loopw [16] (fun i wq => i = .int .i64 0 ∧ wq = w1) (fun _ _ => 0)
  case atStart => exact ⟨rfl, rfl⟩
  case round =>
    obtain ⟨rfl, ew⟩ := hrel
    have ew' := ew.symm
    subst ew'
    have n2 := cell_of_row w1 w.heap.size 2 _ _ _ B1.out
    simp at n2
    go_wp2_with fail
    go_loopw [32] (fun i wq => i = .int .i64 0 ∧ wq = w1) (fun _ _ => 0)
    case atStart => exact ⟨rfl, rfl⟩
    case round =>
      obtain ⟨rfl, ew⟩ := hrel
      have ew' := ew.symm
      subst ew'
      have n0 := cell_of_row w1 w.heap.size 0 _ _ _ B1.out
      simp at n0
      go_wp2_with fail
      refine (laid0_any A0 c0 x.f0 w1 HR.out.here (by omega) H6.out).mono ?_
      rintro e w2 ⟨rfl, f2⟩
      have F2 := hid f2
      clear f2 n0 n2
      go_wp2_with fail
      go_loopw [44] (fun i wq => i = .int .i64 0 ∧ wq = w2) (fun _ _ => 0)
      case atStart => exact ⟨rfl, rfl⟩
      case round =>
        obtain ⟨rfl, ew⟩ := hrel
        have ew' := ew.symm
        subst ew'
        have HPB := hid (F2.out.blk HP.out (by simp))
        have HXB := hid (F2.out.blk B1.out (by simp))
        have H2 := hid (H.out.fr0 F2.out)
        have HS := hid (fun w' (hp : w'.heap[pb]? = some (.cells #[.pointer (some ⟨tb, 0, none⟩), .slice none 0 0, .map (some sm)] 124 (0, 0))) (hx : w'.heap[w.heap.size]? = some (.cells #[.slice A0 x.f0.length c0, .int .i64 x.f1, .slice A2 0 c2, .int .i64 x.f3] 40 (0, 0))) => (by
          have k0 := cell_of_row w' pb 0 _ _ _ hp
          have k1 := cell_of_row w' w.heap.size 0 _ _ _ hx
          have k2 := cell_of_row w' w.heap.size 1 _ _ _ hx
          have k3 := cell_of_row w' w.heap.size 3 _ _ _ hx
          simp at k0 k1 k2 k3
          exact ⟨k0, k1, k2, k3⟩ : (fun w' : World => w'.cell? ⟨pb, 0, none⟩ = some (.pointer (some ⟨tb, 0, none⟩)) ∧ w'.cell? ⟨w.heap.size, 0, none⟩ = some (.slice A0 x.f0.length c0) ∧ w'.cell? ⟨w.heap.size, 1, none⟩ = some (.int .i64 x.f1) ∧ w'.cell? ⟨w.heap.size, 3, none⟩ = some (.int .i64 x.f3)) w'))
        have S0 := HS.out w2.drew HPB.out HXB.out
        go_wp2_with fail
        go_region_held3 (fun w' : World => w'.cell? ⟨pb, 0, none⟩ = some (.pointer (some ⟨tb, 0, none⟩)) ∧ w'.cell? ⟨w.heap.size, 0, none⟩ = some (.slice A0 x.f0.length c0) ∧ w'.cell? ⟨w.heap.size, 1, none⟩ = some (.int .i64 x.f1) ∧ w'.cell? ⟨w.heap.size, 3, none⟩ = some (.int .i64 x.f3)) (with_reducible first | exact S0 | exact S2) (first
          | (go_at_call 98; refine (apply_any tb cb v ss sb fm m1 m2 next A0 c0 x.f0 x.f1 w2.drew (H2.out.fr0 (Fr.refl [] w2).drew) ((HR.out.fr0 F2.out).fr0 (Fr.refl [] w2).drew) hl HI.out HB.out H6.out).mono ?_; rintro e w3 ⟨rfl, v3, h3', f3, o3⟩; have H3 := hid h3'; have F3 := hid f3; have O3 := hid o3; have P3 := hid (f3.blk (w := w2.drew) HPB.out (cat_ne (w := w2.drew) (H2.out.fr0 (Fr.refl [] w2).drew).cat HPB.out (by decide) (by decide))); have X3 := hid (f3.blk (w := w2.drew) HXB.out (cat_ne (w := w2.drew) (H2.out.fr0 (Fr.refl [] w2).drew).cat HXB.out (by decide) (by decide))); have S2 := HS.out w3 P3.out X3.out; clear h3' f3 o3))
        rename_i hh
        clear hh
        have e0 := OK.out
        rw [e0]
        clear S0 S2
        go_wp2_with fail
        have S3 := HS.out w3.drew P3.out X3.out
        go_region_held3 (fun w' : World => w'.cell? ⟨pb, 0, none⟩ = some (.pointer (some ⟨tb, 0, none⟩)) ∧ w'.cell? ⟨w.heap.size, 0, none⟩ = some (.slice A0 x.f0.length c0) ∧ w'.cell? ⟨w.heap.size, 1, none⟩ = some (.int .i64 x.f1) ∧ w'.cell? ⟨w.heap.size, 3, none⟩ = some (.int .i64 x.f3)) (with_reducible first | exact S3 | exact S4) (first
          | (go_at_call 99; refine (skip_any tb cb v3 (commitBy ss x.f0 x.f1).2 sb fm m1 m2 next x.f3 w3.drew (H3.out.fr0 (Fr.refl [] w3).drew) h3).mono ?_; rintro e w4 ⟨rfl, h4', f4⟩; have H4 := hid h4'; have F4 := hid f4; have S4 := HS.out w4 (f4.blk (w := w3.drew) P3.out (blk_ne (w := w3.drew) P3.out H3.out.blk (by decide))) (f4.blk (w := w3.drew) X3.out (blk_ne (w := w3.drew) X3.out H3.out.blk (by decide))); clear h4' f4))
        go_wp2
        go_ret
        refine ⟨rfl, v3, H4.out, ?_, fun k hk => (O3.out k hk).imp id (fun h => Nat.le_trans (F1.out.then F2.out).size h)⟩
        have g1 : Fr (cb :: v.ownBlock.toList) w w3 := ((F1.out.then F2.out).drew.mono (by simp)).then F3.out
        exact (g1.mono (fun k hk => .inl (List.mem_cons_of_mem _ hk))).trans (Fr.drew (Fr.refl [] w3) |>.mono (S' := [tb]) (by simp) |>.then F4.out) (fun k hk => .inl (by simp at hk; subst hk; simp))
end Go.Proofs.YtkolnoadeihmoaaGreat
namespace Go.Proofs.YtkolnoadeihmoaaGreat
open Go.RowKit Go.Shelf Go.Proofs.YtkolnoadeihmoaaGreatW.PrintWords
set_option maxRecDepth 100000 in
theorem rep1_any (x : LO) (A0 : Option Addr) (c0 : Nat) (A2 : Option Addr) (c2 : Nat) (w : World) (h0 : Kd.C k135 w A0 x.f0.length x.f0) (h2 : kB.C w A2 x.f2.length x.f2) (hx : LogIn x) :
    Calls Tryz.prog 55 #[logV x (.slice A0 x.f0.length c0) (.slice A2 x.f2.length c2)] w fun e w' => e = .returned (.bool (!logB x)) ∧ Fr [] w w' := by
  have F1 := hid ((Fr.refl [] w).alloc (.cells #[.slice A0 x.f0.length c0, .int .i64 x.f1, .slice A2 x.f2.length c2, .int .i64 x.f3] 40))
  have HC := hid (valid_any validSays x A0 c0 A2 c2 _ (Kd.C_below h0 F1.out.below0) (Kd.C_below h2 F1.out.below0) hx)
  unfold logV at HC ⊢
  clear h0 h2 hx
  go_enter Tryz.func55, Tryz.ntmps55
  go_wp2_with (go_at_call 53; refine HC.out.mono ?_; rintro e w3 ⟨rfl, f3⟩)
  go_ret
  exact ⟨rfl, F1.out.then f3⟩
set_option maxRecDepth 100000 in
theorem lindex_any (A : Option Addr) (c : Nat) (xs : List LO) (w : World) (hC : Kd.C k40 w A xs.length xs) (hl : xs.length ≤ 9223372036854775807) (hi : ∀ y ∈ xs, LogIn y ∧ logB y = true) :
    Calls Tryz.prog 92 #[.slice A xs.length c, .func (.func 55) #[] #[]] w fun e w' => e = .returned (.int .i64 (-1)) ∧ Fr [] w w' := by
  have HC := hid hC
  have HI := hid hi
  clear hC hi
  go_enter Tryz.func92, Tryz.ntmps92
  go_wp2
  go_loopw [8] (fun i wr => ∃ k : Nat, i = .int .i64 k ∧ k ≤ xs.length ∧ Fr [] w wr) (fun i _ => xs.length - (intOf i).toNat)
  case atStart => exact ⟨0, rfl, Nat.zero_le _, Fr.refl _ _⟩
  case round =>
    obtain ⟨k, rfl, hk, hF⟩ := hrel
    have HF := hid hF
    clear hF
    by_cases hlt : k < xs.length
    · obtain ⟨x, hx⟩ : ∃ x, xs[k]? = some x := ⟨_, List.getElem?_eq_getElem hlt⟩
      obtain ⟨b, off, A0, c0, A2, c2, eA, d0, d1, d2, d3, r0, r2⟩ := logs_at (Kd.C_below HC.out HF.out.below0) hx
      obtain ⟨hxi, hxb⟩ := HI.out x (List.mem_iff_getElem?.2 ⟨k, hx⟩)
      subst eA
      have HCALL := hid (rep1_any x A0 c0 A2 c2 wr r0 r2 hxi)
      rw [hxb] at HCALL
      unfold logV at HCALL
      have hm0 : (0 : Int) ≤ (k : Int) := by omega
      have hm1 : (k : Int) < (xs.length : Int) := by omega
      clear r0 r2 hx hxi hxb
      go_wp2_with (go_at_call 55; refine HCALL.out.mono ?_; rintro e w3 ⟨rfl, f3⟩)
      go_roundw
      case rel => exact ⟨k + 1, by go_num, by omega, HF.out.then f3⟩
      case measure => simp [intOf]; omega
    · obtain rfl : k = xs.length := by omega
      go_wp2
      go_ret
      exact ⟨rfl, HF.out⟩
set_option maxRecDepth 100000 in
theorem lcontains_any (A : Option Addr) (c : Nat) (xs : List LO) (w : World) (hC : Kd.C k40 w A xs.length xs) (hl : xs.length ≤ 9223372036854775807) (hi : ∀ y ∈ xs, LogIn y ∧ logB y = true) :
    Calls Tryz.prog 54 #[.slice A xs.length c, .func (.func 55) #[] #[]] w fun e w' => e = .returned (.bool false) ∧ Fr [] w w' := by
  have HCALL := hid (lindex_any A c xs w hC hl hi)
  clear hC hi
  go_enter Tryz.func54, Tryz.ntmps54
  go_wp2_with (go_at_call 92; refine HCALL.out.mono ?_; rintro e w3 ⟨rfl, f3⟩)
  go_ret
  exact ⟨rfl, f3⟩
theorem kLo_C {w : World} {A : Option Addr} {n c : Nat} {l : List LO} (h : kLo.R 40 w 0 (fun _ => True) (.slice A n c) l) : n = l.length ∧ l.length ≤ c ∧ Kd.C k40 w A l.length l := by
  obtain ⟨h1, h2, h3⟩ := Kd.R_reads' h
  subst h1
  exact ⟨rfl, h2, h3⟩
theorem logs_deeds {w : World} {A : Option Addr} {c : Nat} {l : List LO} {x : LO} (h : kLo.R 40 w 0 (fun _ => True) (.slice A l.length c) l) {k : Nat} (hx : l[k]? = some x) :
    ∃ b A0 c0 A2 c2, A = some ⟨b, 0, none⟩ ∧ w.cell? ⟨b, k * 4, none⟩ = some (.slice A0 x.f0.length c0) ∧ w.cell? ⟨b, k * 4 + 1, none⟩ = some (.int .i64 x.f1) ∧ w.cell? ⟨b, k * 4 + 2, none⟩ = some (.slice A2 x.f2.length c2) ∧ w.cell? ⟨b, k * 4 + 3, none⟩ = some (.int .i64 x.f3) ∧
      ∀ (S : List Nat) (w' : World), Fr S w w' → NoT w (40 :: kLo.E) S → Kd.C k135 w' A0 x.f0.length x.f0 := by
  obtain ⟨-, -, hC⟩ := kLo_C h
  obtain ⟨b, off, A0, c0, A2, c2, e, d0, d1, d2, d3, -, -⟩ := logs_at hC hx
  have hlen : 0 < l.length := by have := (List.getElem?_eq_some_iff.1 hx).1; omega
  obtain ⟨g, cap, eg, -, hg, -⟩ := Kd.R_form h hlen
  injection eg with eg
  rw [eg] at e
  injection e with e
  injection e with e1 e2
  subst e1
  subst e2
  simp only [Nat.zero_add] at d0 d1 d2 d3
  refine ⟨g, A0, c0, A2, c2, eg, d0, d1, d2, d3, fun S w' f hS => ?_⟩
  have hown : ∀ k, (Value.slice A l.length c).ownBlock = some k → k ∉ S := by
    intro k hk hm
    obtain ⟨cells, hc⟩ := Kd.R_typed h k hk
    exact hS k hm _ (List.mem_cons_self ..) cells hc
  have h' := R_fr2 h f (fun k hk q hq => hS k hk q (List.mem_cons_of_mem _ hq)) hown
  obtain ⟨-, -, hC'⟩ := kLo_C h'
  obtain ⟨b', off', B0, b0, B2, b2, e', q0, -, -, -, r0, -⟩ := logs_at hC' hx
  rw [eg] at e'
  injection e' with e'
  injection e' with e1 e2
  subst e1
  subst e2
  simp only [Nat.zero_add] at q0
  have hgS : g ∉ S := hown g (by rw [eg]; rfl)
  have := f.cellE d0 hgS
  rw [q0] at this
  injection this with this
  injection this with this
  rw [← this]
  exact r0
def Replayed (ss : List ST) (w : World) (e : Ending) (w' : World) : Prop :=
  ∃ tb cb v sb fm m1 m2 next, e = .returned (.tuple #[.pointer (some ⟨tb, 0, none⟩), .int .i64 0]) ∧ BaseAt w' tb cb v ss sb fm m1 m2 next ∧ Fr [] w w'
set_option maxRecDepth 100000 in
set_option maxHeartbeats 4000000 in
theorem replay_any (A : Option Addr) (c : Nat) (x : LO) (w : World) (h : kLo.R 40 w 0 (fun _ => True) (.slice A 1 c) [x]) (hi : LogIn x) (hb : logB x = true) (h6 : ∀ y ∈ x.f0, y.f6 = []) (h2 : x.f2 = []) (hok : (commitBy Cat.new x.f0 x.f1).1.2 = 0) :
    Calls Tryz.prog 27 #[.slice A 1 c] w (Replayed (commitBy Cat.new x.f0 x.f1).2 w) := by
  have H := hid h
  obtain ⟨-, -, hC⟩ := kLo_C h
  have HCON := hid (lcontains_any A c [x] w hC (by simp) (by simpa using ⟨hi, hb⟩))
  have hlb := hb
  unfold logB at hlb
  rw [Bool.and_eq_true] at hlb
  have htl := hlb.2
  unfold tailB at htl
  simp only [Bool.and_eq_true, decide_eq_true_eq, Bool.not_eq_true'] at htl
  obtain ⟨t1, t2, t3, -, -, t4, t5⟩ := htl
  obtain ⟨g, A0, c0, A2, c2, eA, d0, d1, d2, d3, hst⟩ := logs_deeds (l := [x]) h (k := 0) (x := x) rfl
  rw [h2] at d2
  simp only [Nat.zero_mul, Nat.zero_add, List.length_nil] at d0 d1 d2 d3
  subst eA
  have HST := hid hst
  have HI := hid hi
  have H6 := hid h6
  have OK := hid hok
  have T3 := hid t3
  have H2 := hid h2
  have hmm := @run_makeMap Tryz.prog
  have D0 := hid d0
  have D1 := hid d1
  have D2 := hid d2
  have D3 := hid d3
  clear h hC hi hb h6 h2 hok hlb t3 hst d0 d1 d2 d3
  go_enter Tryz.func27, Tryz.ntmps27
  go_wp2_with fail
  refine HCON.out.mono ?_
  rintro e w1 ⟨rfl, f1⟩
  have F1 := hid f1
  clear f1
  go_wp2_with fail
  refine (txnew_any _).mono ?_
  rintro e w2 ⟨tb, cb, v, sb, fm, m1, m2, rfl, hB, f2, hn⟩
  have F2 := hid (F1.out.then f2)
  have HB := hid hB
  have HN := hid hn
  clear f2 hB hn
  go_wp2_with fail
  have f3 : Fr [] w2 ((w2.alloc (.map #[] 0)).alloc (.cells #[.pointer (some ⟨tb, 0, none⟩), .slice none 0 0, .map (some w2.heap.size)] 124)) := ((Fr.refl [] w2).alloc _).alloc _
  have hp := heap_alloc_new (w2.alloc (.map #[] 0)) (.cells #[.pointer (some ⟨tb, 0, none⟩), .slice none 0 0, .map (some w2.heap.size)] 124)
  rw [World.size_alloc] at hp
  have HP := hid hp
  have HB3 := hid (HB.out.fr0 f3)
  have F3 := hid (F2.out.then f3)
  have HN3 := hid (show w.heap.size ≤ tb ∧ w.heap.size ≤ cb ∧ ∀ k, v.ownBlock = some k → w.heap.size ≤ k from ⟨Nat.le_trans F1.out.size HN.out.1, Nat.le_trans F1.out.size HN.out.2.1, fun k hk => Nat.le_trans F1.out.size (HN.out.2.2 k hk)⟩)
  clear f3 hp HB
  generalize ((w2.alloc (.map #[] 0)).alloc (.cells #[.pointer (some ⟨tb, 0, none⟩), .slice none 0 0, .map (some w2.heap.size)] 124)) = w3 at HP HB3 F3 ⊢
  generalize w2.heap.size + 1 = pb at HP ⊢
  generalize w2.heap.size = sm at HP ⊢
  obtain ⟨SS, hSS⟩ : ∃ SS, SS = (commitBy Cat.new x.f0 x.f1).2 := ⟨_, rfl⟩
  have HSS := hid hSS
  rw [← hSS]
  clear hSS
  go_loopw [23] (fun i wr => ∃ (k : Nat) (v' : Value) (ss' : List ST) (nx : Int), i = .int .i64 k ∧ ((k = 0 ∧ ss' = Cat.new) ∨ (k = 1 ∧ ss' = SS)) ∧ BaseAt wr tb cb v' ss' sb fm m1 m2 nx ∧ wr.heap[pb]? = some (.cells #[.pointer (some ⟨tb, 0, none⟩), .slice none 0 0, .map (some sm)] 124 (0, 0)) ∧ Fr [] w wr ∧ (∀ q, v'.ownBlock = some q → w.heap.size ≤ q)) (fun i _ => 1 - (intOf i).toNat)
  case atStart => exact ⟨0, v, _, 1, rfl, .inl ⟨rfl, rfl⟩, HB3.out, HP.out, F3.out, HN3.out.2.2⟩
  case round =>
    obtain ⟨k, v', ss', nx, rfl, hk, hB, hp, hF, hO⟩ := hrel
    have HB := hid hB
    have HPB := hid hp
    have HF := hid hF
    have HO := hid hO
    clear hB hp hF hO
    rcases hk with ⟨rfl, rfl⟩ | ⟨rfl, rfl⟩
    · have y0 := HF.out.cell0 D0.out
      have y1 := HF.out.cell0 D1.out
      have y2 := HF.out.cell0 D2.out
      have y3 := HF.out.cell0 D3.out
      have fb : Fr [] wr (wr.alloc (.cells #[.slice A0 x.f0.length c0, .int .i64 x.f1, .slice A2 0 c2, .int .i64 x.f3] 40)) := (Fr.refl [] wr).alloc _
      have hS : ∀ b ∈ cb :: v'.ownBlock.toList, w.heap.size ≤ b := by
        intro b hb
        rcases List.mem_cons.1 hb with rfl | hb
        · exact HN3.out.2.1
        · exact HO.out b (by simpa using hb)
      have PL := hid (play_any pb sm tb cb v' Cat.new sb fm m1 m2 nx x A0 c0 A2 c2 _ (HB.out.fr0 fb) (fb.blk HPB.out (by simp)) (fun w' f => HST.out _ w' (((HF.out.then fb).mono (by simp)).then f) (fun b hb q hq cells hc => by
        have := hS b hb
        rw [Array.getElem?_eq_none (by omega)] at hc
        cases hc)) ⟨t1, t2⟩ HI.out.d T3.out H6.out H2.out ⟨t4, t5⟩ OK.out)
      have SB := hid hS
      unfold logV at PL
      rw [H2.out] at PL
      simp only [List.length_nil] at PL
      have FB := hid fb
      clear fb hS
      go_wp2_with fail
      refine PL.out.mono ?_
      rintro e w5 ⟨rfl, v5, h5, f5, o5⟩
      have H5 := hid h5
      have O5 := hid o5
      have P5 := hid (f5.blk (FB.out.blk HPB.out (by simp)) (fun hm => by
        rcases List.mem_cons.1 hm with e | hm
        · have h1 := HPB.out
          rw [e, HB.out.blk] at h1
          injection h1 with h1; injection h1 with _ h1; exact absurd h1 (by decide)
        · exact cat_ne HB.out.cat HPB.out (by decide) (by decide) hm))
      have F5 := hid ((HF.out.then FB.out).trans f5 (fun z hz => .inr (by
        rcases List.mem_cons.1 hz with rfl | hz
        · exact HN3.out.1
        · exact SB.out z hz)))
      clear h5 f5 o5
      go_wp2
      go_roundw
      case rel => exact ⟨1, v5, _, _, by go_num, .inr ⟨rfl, HSS.out.symm⟩, H5.out, P5.out, F5.out, fun q hq => by
        rcases O5.out q hq with h | h
        · exact HO.out q h
        · exact Nat.le_trans (HF.out.then FB.out).size h⟩
      case measure => simp [intOf]
    · have k0 := cell_of_row wr pb 0 _ _ _ HPB.out
      have k1 := cell_of_row wr pb 1 _ _ _ HPB.out
      simp at k0 k1
      go_wp2_with fail
      go_loopw [39] (fun i wq => i = .int .i64 0 ∧ wq = wr) (fun _ _ => 0)
      case atStart => exact ⟨rfl, rfl⟩
      case round =>
        obtain ⟨rfl, ew⟩ := hrel
        have ew' := ew.symm
        subst ew'
        go_wp2
        go_ret2
        exact ⟨tb, cb, v', sb, fm, m1, m2, nx, rfl, by rw [← HSS.out]; exact HB.out, HF.out⟩
set_option maxRecDepth 100000 in
set_option maxHeartbeats 4000000 in
theorem rbase_any (rb mb : Nat) (us : List (Nat × Value)) (R : RG) (n : ByteArray) (x : LO) (w : World) (h : RegAt w rb mb us R) (hiv : Reg.Inv R) (hok : AllOk R) (hs : n.size ≤ maxLen) (hx : logAt R n = [x] ∧ (R.find wordB n).2 = 0)
    (hi : LogIn x) (hb : logB x = true) (h6 : ∀ y ∈ x.f0, y.f6 = []) (h2 : x.f2 = []) (hcm : (commitBy Cat.new x.f0 x.f1).1.2 = 0) :
    Calls Tryz.prog 31 #[.pointer (some ⟨rb, 0, none⟩), .string n] w (Replayed (commitBy Cat.new x.f0 x.f1).2 w) := by
  have HL := hid (log_any rb mb us R n w h hiv hok hs)
  rw [hx.1, hx.2] at HL
  have HR := hid (fun A c w' (r : kLo.R 40 w' 0 (fun _ => True) (.slice A 1 c) [x]) => replay_any A c x w' r hi hb h6 h2 hcm)
  clear h hiv hok hx hi hb h6 h2 hcm
  go_enter Tryz.func31, Tryz.ntmps31
  go_wp2_with fail
  refine HL.out.mono ?_
  rintro e w1 ⟨v, rfl, r1, f1, -⟩
  obtain ⟨A, c, rfl⟩ := Kd.R_slice r1
  have R1 := hid r1
  have F1 := hid f1
  clear r1 f1
  go_wp2_with fail
  refine (HR.out A c w1 R1.out).mono ?_
  rintro e w2 ⟨tb, cb, v2, sb, fm, m1, m2, nx, rfl, hB, f2⟩
  have HB := hid hB
  have F2 := hid f2
  clear hB f2
  go_wp2
  go_ret2
  exact ⟨tb, cb, v2, sb, fm, m1, m2, nx, rfl, HB.out, F1.out.then F2.out⟩
end Go.Proofs.YtkolnoadeihmoaaGreat
namespace Go.Proofs.YtkolnoadeihmoaaGreat
open Go.RowKit Go.Proofs.YtkolnoadeihmoaaGreatW.PrintWords
theorem results_row_tmp {P : Program} {fn : Func} {p u : Tmp} {ty : TypeId} (h : fn.results = #[.cell p ty, .tmp u]) (tmps : Array Value) (w : World) (g : Nat) (t : TypeId) (cs : Array Value) (fr : Nat × Nat) (d : TypeDesc)
    (hp : tmps.getD p undef = .pointer (some ⟨g, 0, none⟩)) (hg : w.heap[g]? = some (.cells cs t fr))
    (hu : P.underlying ty = some d) (hd : (match d with | .struct _ | .array _ _ => true | _ => false) = true) (hi : (P.info? ty).map (·.size) = some cs.size) :
    (results fn tmps).run P w = .ok (.tuple #[.agg cs, tmps.getD u undef]) w := by
  rw [results_cell_tmp h, hp]
  simp [asAddr, run_loadVar_row w g t ty cs fr d hg hu hd hi]
set_option maxRecDepth 100000 in
theorem entry_none (n : Int) (w : World) : Calls Tryz.prog 32 #[.pointer none, .int .i64 n] w fun e w' => e = .returned (.tuple #[.agg #[.slice none 0 0, .int .i64 0, .slice none 0 0, .int .i64 0], .int .i64 3]) ∧ Fr [] w w' := by
  have F1 := hid ((Fr.refl [] w).alloc (.cells #[.slice none 0 0, .int .i64 0, .slice none 0 0, .int .i64 0] 40))
  have B1 := hid (heap_alloc_new w (.cells #[.slice none 0 0, .int .i64 0, .slice none 0 0, .int .i64 0] 40))
  have hmade : Hid (∀ W, Calls Tryz.prog 65 #[.pointer none] W fun e w' => e = .returned (.bool false) ∧ W = w') := by
    refine hid fun W => ?_
    go_enter Tryz.func65, Tryz.ntmps65
    go_wp2
    go_ret
    exact ⟨rfl, rfl⟩
  go_enter Tryz.func32, Tryz.ntmps32
  go_wp2_with fail
  refine (hmade.out _).mono ?_
  rintro e w' ⟨rfl, rfl⟩
  go_wp2
  refine bodyPost_ret (results_row_tmp (fn := Tryz.f32) (p := 4) (u := 5) rfl _ _ w.heap.size 40 _ (0, 0) _ rfl B1.out Tryz.underlying40 rfl (by kernel_rfl)) rfl ?_
  exact ⟨rfl, F1.out⟩
def sN : ByteArray := ⟨#[110]⟩
def sM : ByteArray := ⟨#[109]⟩
def sK : ByteArray := ⟨#[107]⟩
def sA : ByteArray := ⟨#[97]⟩
def sB : ByteArray := ⟨#[98]⟩
def sC : ByteArray := ⟨#[99]⟩
def eA : LO := entX sA 1
def eB : LO := entX sB 2
def eC : LO := entX sC 3
def r0 : RG := ⟨[(sN, ⟨true, []⟩), (sM, ⟨true, []⟩), (sK, ⟨true, []⟩)], sN, 1, 2, 0, 0⟩
def r1 : RG := ⟨[(sN, ⟨true, [(eA, 1)]⟩), (sM, ⟨true, []⟩), (sK, ⟨true, []⟩)], sN, 1, 2, 0, 1⟩
def q2 : RG := ⟨[(sN, ⟨true, [(eA, 1)]⟩), (sM, ⟨true, [(eA, 1)]⟩), (sK, ⟨true, []⟩)], sN, 1, 2, 0, 1⟩
def r2 : RG := ⟨[(sN, ⟨true, [(eA, 1)]⟩), (sM, ⟨true, [(eA, 1)]⟩), (sK, ⟨true, []⟩)], sN, 1, 2, 1, 1⟩
def r3 : RG := ⟨[(sN, ⟨true, [(eA, 1), (eB, 2)]⟩), (sM, ⟨true, [(eA, 1)]⟩), (sK, ⟨true, []⟩)], sN, 1, 2, 1, 2⟩
def r4 : RG := ⟨[(sN, ⟨true, [(eA, 1), (eB, 2)]⟩), (sM, ⟨true, [(eA, 1)]⟩), (sK, ⟨true, []⟩)], sM, 2, 2, 1, 2⟩
def r5 : RG := ⟨[(sN, ⟨true, [(eA, 1)]⟩), (sM, ⟨true, [(eA, 1)]⟩), (sK, ⟨true, []⟩)], sM, 2, 2, 1, 2⟩
theorem sort_is {l l' : List Int} (hp : l'.Perm l) (hs : l'.Pairwise (· ≤ ·)) : Reg.sortI l = l' :=
  List.Perm.eq_of_pairwise (le := fun x y : Int => x ≤ y) (fun _ _ _ _ h1 h2 => Int.le_antisymm h1 h2) (Reg.sort_sorted l) hs ((Reg.sort_perm l).trans hp.symm)
theorem ack_is {R R' : RG} {l l' : List Int} (hl : R.agreed = l) (hp : l'.Perm l) (hs : l'.Pairwise (· ≤ ·)) (hk : { R with acked := max R.acked (l'.getD ((R.places.length : Int) - R.need).toNat 0) } = R') : R.ack = R' := by
  rw [← hk]
  unfold Reg.Rg.ack
  rw [hl, sort_is hp hs]
theorem aw_new : Reg.newBy (α := LO) wordB [sN, sM, sK] 2 = (some r0, 0) := by kernel_rfl
theorem aw_bad : Reg.newBy (α := LO) wordB [sN] 2 = (none, 3) := by kernel_rfl
theorem aw_r1 : r0.record wordB (logB eA) sN 1 eA = ((1, 0), r1) := by
  have e : r0.record wordB (logB eA) sN 1 eA = ((1, 0), r1.ack) := by kernel_rfl
  rw [e, ack_is (R' := r1) (l := [1, 0, 0]) (l' := [0, 0, 1]) (by decide +kernel) (by decide) (by decide) (by kernel_rfl)]
theorem aw_r2 : r1.ship wordB sM 1 = ((1, 0), r2) := by
  have e : r1.ship wordB sM 1 = ((1, 0), q2.ack) := by kernel_rfl
  rw [e, ack_is (R' := r2) (l := [1, 1, 0]) (l' := [0, 1, 1]) (by decide +kernel) (by decide) (by decide) (by kernel_rfl)]
theorem aw_r3 : r2.record wordB (logB eB) sN 1 eB = ((2, 0), r3) := by
  have e : r2.record wordB (logB eB) sN 1 eB = ((2, 0), r3.ack) := by kernel_rfl
  rw [e, ack_is (R' := r3) (l := [2, 1, 0]) (l' := [0, 1, 2]) (by decide +kernel) (by decide) (by decide) (by kernel_rfl)]
theorem aw_f3 : r3.fail wordB sK = ((0, 10), r3) := by kernel_rfl
theorem aw_r4 : r3.fail wordB sM = ((1, 0), r4) := by kernel_rfl
theorem aw_c4 : r4.record wordB (logB eC) sN 1 eC = ((0, 7), r4) := by kernel_rfl
theorem aw_r5 : r4.ship wordB sN 5 = ((0, 0), r5) := by
  have e : r4.ship wordB sN 5 = ((0, 0), r5.ack) := by kernel_rfl
  rw [e, ack_is (R' := r5) (l := [1, 1, 0]) (l' := [0, 1, 1]) (by decide +kernel) (by decide) (by decide) (by kernel_rfl)]
theorem aw_log : logAt r5 sN = [eA] ∧ (r5.find wordB sN).2 = 0 := ⟨by kernel_rfl, by kernel_rfl⟩
theorem aw_base : logAt r5 sM = [eA] ∧ (r5.find wordB sM).2 = 0 := ⟨by kernel_rfl, by kernel_rfl⟩
theorem aw_com : (commitBy Cat.new eA.f0 eA.f1).1 = (1, 0) := by decide +kernel
theorem aw_len : (commitBy Cat.new eA.f0 eA.f1).2.length = 2 := by decide +kernel
theorem aw_ok : logB eA = true := by decide +kernel
theorem entIn (n : ByteArray) (hn : n.size ≤ maxLen) (t : Int) : LogIn (entX n t) := by
  refine ⟨?_, by simp [entX], by simp [entX], by simp [entX]⟩
  intro y hy
  simp [entX] at hy
  subst hy
  exact ⟨hn, by show (⟨#[]⟩ : ByteArray).size ≤ maxLen; decide, by show (⟨#[]⟩ : ByteArray).size ≤ maxLen; decide, by simp [entD], by simp [entD], by simp [entD]⟩
theorem r0_live {w : World} {rb mb : Nat} {us : List (Nat × Value)} (h : RegAt w rb mb us r0) : RLive w rb mb us r0 0 := new_live aw_new (by
  intro s hs
  simp at hs
  rcases hs with rfl | rfl | rfl <;> decide) h
end Go.Proofs.YtkolnoadeihmoaaGreat
