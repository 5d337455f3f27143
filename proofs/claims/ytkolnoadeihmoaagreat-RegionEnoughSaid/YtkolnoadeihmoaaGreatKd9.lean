/-
  Catalog: create.
  Catalog: its states in memory; a draft made.
-/
import Derived.IntWalk
import Derived.Test.YtkolnoadeihmoaaGreatKd6
import Derived.Test.YtkolnoadeihmoaaGreatKd8
namespace Go.Proofs.YtkolnoadeihmoaaGreat
open Go.RowKit Go.Proofs.YtkolnoadeihmoaaGreatW.PrintWords
set_option maxRecDepth 100000 in
theorem create_4 (db : Nat) (tv ev : Value) (d : Dr) (es : List EN) (x : DE) (A4 : Option Addr) (c4 : Nat) (A6 : Option Addr) (c6 : Nat) (w : World) (h : DraftAt w db tv ev d es) (ht : x.f2.toList ≠ []) (hb : baseIx es x.f1 = none) :
    Calls Tryz.prog 188 #[.pointer (some ⟨db, 0, none⟩), deedV x A4 c4 A6 c6] w (Deeded db tv ev d (create d es x) w) := by
  obtain ⟨A, c, rfl, hE⟩ := h.open
  have F0 := hid ((Fr.refl [] w).alloc (.cells #[.string x.f0, .string x.f1, .string x.f2, .string x.f3, .slice A4 x.f4.length c4, .int .i64 x.f5, .slice A6 x.f6.length c6] 135))
  have H := hid h
  have cB := hid (base_any db A es.length c es x.f1 _ (F0.out.cell0 h.c3) (hE.fr0 F0.out))
  have e0 := hid (show create d es x = (4, es) by unfold create; rw [if_neg ht, hb])
  rw [hb, ptr_none] at cB
  have ht2 : x.f2.toList.isEmpty = false := by simpa using ht
  unfold deedV
  clear h hE ht hb
  go_enter Tryz.func188, Tryz.ntmps188
  go_wp2_with (go_at_call 226; refine cB.out.mono ?_; rintro e w' ⟨rfl, rfl⟩)
  go_ret
  rw [e0.out]
  exact Deeded.same H.out F0.out
set_option maxRecDepth 100000 in
theorem create_5 (db : Nat) (tv ev : Value) (d : Dr) (es : List EN) (x : DE) (A4 : Option Addr) (c4 : Nat) (A6 : Option Addr) (c6 : Nat) (w : World) (h : DraftAt w db tv ev d es) (b i : Nat) (hb : baseIx es x.f1 = some b) (hi : findIx es x.f1 x.f2 = some i) :
    Calls Tryz.prog 188 #[.pointer (some ⟨db, 0, none⟩), deedV x A4 c4 A6 c6] w (Deeded db tv ev d (create d es x) w) := by
  obtain ⟨A, c, rfl, hE⟩ := h.open
  obtain ⟨y, hy⟩ := find_get hi
  obtain ⟨g, c', e, hgl⟩ := ents_form h.ents hy
  injection e with e1 e2 e3
  subst e1
  have F0 := hid ((Fr.refl [] w).alloc (.cells #[.string x.f0, .string x.f1, .string x.f2, .string x.f3, .slice A4 x.f4.length c4, .int .i64 x.f5, .slice A6 x.f6.length c6] 135))
  have H := hid h
  have cB := hid (base_any db _ es.length c es x.f1 _ (F0.out.cell0 h.c3) (hE.fr0 F0.out))
  have cF := hid (find_yes db g es.length c es x A4 c4 A6 c6 _ (F0.out.cell0 h.c3) (hE.fr0 F0.out) hi)
  have e0 := hid (show create d es x = (5, es) by
    unfold create
    by_cases ht : x.f2.toList = []
    · rw [if_pos ht, hb]; rfl
    · rw [if_neg ht, hb]
      unfold findIx inIx at hi
      rw [if_neg ht, hb] at hi
      simp only at hi
      simp only [hi]; rfl)
  rw [hb, ptr_some] at cB
  unfold deedV at cF ⊢
  clear h hE hb hi hy e3
  go_enter Tryz.func188, Tryz.ntmps188
  go_wp2_with (first
    | (go_at_call 226; refine cB.out.mono ?_; rintro e w' ⟨rfl, rfl⟩)
    | (go_at_call 227; refine cF.out.mono ?_; rintro e w1 ⟨rfl, f1⟩; have F1 := hid f1; clear f1))
  all_goals go_ret
  all_goals rw [e0.out]
  all_goals exact Deeded.same H.out (F0.out.then F1.out)
theorem set11 {w : World} {b : Nat} {t : TypeId} {o0 o1 o2 o3 o4 o5 o6 o7 o8 o9 o10 : Value} (h : w.heap[b]? = some (.cells #[o0, o1, o2, o3, o4, o5, o6, o7, o8, o9, o10] t (0, 0))) (v0 v1 v2 v3 v4 v5 v6 v7 v8 v9 v10 : Value) :
    Fr [b] w (((((((((((w.setCell ⟨b, 0, none⟩ v0).setCell ⟨b, 1, none⟩ v1).setCell ⟨b, 2, none⟩ v2).setCell ⟨b, 3, none⟩ v3).setCell ⟨b, 4, none⟩ v4).setCell ⟨b, 5, none⟩ v5).setCell ⟨b, 6, none⟩ v6).setCell ⟨b, 7, none⟩ v7).setCell ⟨b, 8, none⟩ v8).setCell ⟨b, 9, none⟩ v9).setCell ⟨b, 10, none⟩ v10) ∧ (((((((((((w.setCell ⟨b, 0, none⟩ v0).setCell ⟨b, 1, none⟩ v1).setCell ⟨b, 2, none⟩ v2).setCell ⟨b, 3, none⟩ v3).setCell ⟨b, 4, none⟩ v4).setCell ⟨b, 5, none⟩ v5).setCell ⟨b, 6, none⟩ v6).setCell ⟨b, 7, none⟩ v7).setCell ⟨b, 8, none⟩ v8).setCell ⟨b, 9, none⟩ v9).setCell ⟨b, 10, none⟩ v10).heap[b]? = some (.cells #[v0, v1, v2, v3, v4, v5, v6, v7, v8, v9, v10] t (0, 0)) := by
  refine ⟨?_, ?_⟩
  · repeat (refine Fr.setCell ?_ (.inl (by simp)) _)
    exact Fr.refl _ _
  · have h1 := blk_setCell h 0 v0
    simp only [List.setIfInBounds_toArray, List.set_cons_zero] at h1
    have h2 := blk_setCell h1 1 v1
    simp only [List.setIfInBounds_toArray, List.set_cons_succ, List.set_cons_zero] at h2
    have h3 := blk_setCell h2 2 v2
    simp only [List.setIfInBounds_toArray, List.set_cons_succ, List.set_cons_zero] at h3
    have h4 := blk_setCell h3 3 v3
    simp only [List.setIfInBounds_toArray, List.set_cons_succ, List.set_cons_zero] at h4
    have h5 := blk_setCell h4 4 v4
    simp only [List.setIfInBounds_toArray, List.set_cons_succ, List.set_cons_zero] at h5
    have h6 := blk_setCell h5 5 v5
    simp only [List.setIfInBounds_toArray, List.set_cons_succ, List.set_cons_zero] at h6
    have h7 := blk_setCell h6 6 v6
    simp only [List.setIfInBounds_toArray, List.set_cons_succ, List.set_cons_zero] at h7
    have h8 := blk_setCell h7 7 v7
    simp only [List.setIfInBounds_toArray, List.set_cons_succ, List.set_cons_zero] at h8
    have h9 := blk_setCell h8 8 v8
    simp only [List.setIfInBounds_toArray, List.set_cons_succ, List.set_cons_zero] at h9
    have h10 := blk_setCell h9 9 v9
    simp only [List.setIfInBounds_toArray, List.set_cons_succ, List.set_cons_zero] at h10
    have h11 := blk_setCell h10 10 v10
    simp only [List.setIfInBounds_toArray, List.set_cons_succ, List.set_cons_zero] at h11
    exact h11
theorem M_own {α : Type} {k : Kd α} {w : World} {y : α} {cs : List Value} {v : Value} {es : List EN} (h : k.M w 0 (fun _ => True) y cs) (hv : kE.R 278 w 0 (fun _ => True) v es) (ht : ∀ q ∈ k.E, q ≠ 278) : k.M w 0 (fun k => some k ≠ v.ownBlock) y cs := by
  refine k.M_mono (fun j hj => ?_) (k.M_bound h)
  obtain ⟨-, -, -, q, hq, cells, hc⟩ := hj
  intro e
  obtain ⟨cells', hc'⟩ := Kd.R_typed hv j e.symm
  rw [hc] at hc'
  injection hc' with hc'; injection hc' with _ hc'
  exact ht q hq hc'
theorem ent_append {db : Nat} {tv ev : Value} {d : Dr} {es : List EN} {w : World} (D : DraftAt w db tv ev d es) (hl : es.length < 1000000) (x' : EN) (v3 : Value) (h3 : kC.R 192 w 0 (fun _ => True) v3 x'.f0.f3) (h4 : x'.f0.f4 = []) :
    ∃ A1 c1 w1, (Builtin.append_ #[181, 181] 181 #[ev, .slice (some ⟨w.heap.size, 0, none⟩) 1 1]).run Tryz.prog (w.alloc (.cells #[.int .i64 x'.f0.f0, .string x'.f0.f1, .string x'.f0.f2, v3, .slice none 0 0, .int .i64 x'.f0.f5, .int .i64 x'.f0.f6, .int .i64 x'.f0.f7, .int .i64 x'.f0.f8, .int .i64 x'.f1, .int .i64 x'.f2] 278)) = .ok (.slice A1 (es.length + 1) c1) w1 ∧
      kE.R 278 w1 0 (fun _ => True) (.slice A1 (es.length + 1) c1) (es ++ [x']) ∧ w.grownBy w1 ev.ownBlock ∧ ((Value.slice A1 (es.length + 1) c1).ownBlock = ev.ownBlock ∨ ∃ b, (Value.slice A1 (es.length + 1) c1).ownBlock = some b ∧ w.heap.size ≤ b) := by
  obtain ⟨v1, w1, hrun, r5, g5, a5⟩ := R_run (P := Tryz.prog) kE (W := w) 181 181 278 zE 136 Tryz.underlying181 infoE rfl (by decide) (by decide) ev es x' (enL x' v3 (.slice none 0 0)) (fun k => some k ≠ ev.ownBlock)
    (kE_mk x' (M_own (ros_of_R h3) D.ents (by decide)) (by rw [h4]; exact ros_empty _ _ _ _ _ _ _)) (fun _ h => h) D.ents (by omega)
  obtain ⟨A1, c1, e⟩ := Kd.R_slice r5
  rw [List.length_append, List.length_singleton] at e
  subst e
  exact ⟨A1, c1, w1, hrun, r5, g5, a5⟩
theorem create_end {db : Nat} {tv ev : Value} {d : Dr} {es : List EN} {x' : EN} {w w2 w3 : World} {v1 : Value} (D : DraftAt w2 db tv ev d es) (f1 : Fr [] w w2)
    (r : kE.R 278 w3 0 (fun _ => True) v1 (es ++ [x'])) (hg : w2.grownBy w3 ev.ownBlock) (ha : v1.ownBlock = ev.ownBlock ∨ ∃ b, v1.ownBlock = some b ∧ w2.heap.size ≤ b) (hl : es.length < 1000000) :
    Deeded db tv ev d (0, es ++ [x']) w (.returned (.int .i64 0)) (w3.setCell ⟨db, 3, none⟩ v1) := by
  have hne : ∀ k, ev.ownBlock = some k → k ≠ db := fun k hk => (D.ne k hk).1
  have f2 : Fr ev.ownBlock.toList w2 w3 := (Fr.refl _ w2).grown hg (fun k hk => .inl (by simp [hk]))
  have hb3 : w3.heap[db]? = some (.cells #[.int .i64 d.commit, .int .i64 d.time, tv, ev] 281 (0, 0)) := f2.blk D.blk (by
    cases ho : ev.ownBlock with
    | none => simp
    | some k => simp; exact Ne.symm (hne k ho))
  have f3 : Fr [db] w3 (w3.setCell ⟨db, 3, none⟩ v1) := (Fr.refl _ _).setCell (.inl (by simp)) _
  have ht : NoT w2 (3 :: kI.E) ev.ownBlock.toList := by
    intro k hk q hq cells hc
    simp at hk
    obtain ⟨cells', hc'⟩ := Kd.R_typed D.ents k hk
    rw [hc'] at hc
    injection hc with hc; injection hc with _ hc
    simp [Kd.int, Kd.scalar] at hq
    subst hq
    exact absurd hc (by decide)
  refine ⟨rfl, v1, ⟨blk_setCell hb3 3 v1, ?_, ?_, fun h => by simp at h, by simp; omega⟩, ?_, ?_⟩
  · exact R_fr (R_fr D.times f2 ht) f3 (NoT.one hb3 (by
      intro q hq
      simp [Kd.int, Kd.scalar] at hq
      subst hq; decide))
  · exact R_fr r f3 (NoT.one hb3 (by
      intro q hq
      rcases kE_E hq with h | h | h <;> rw [h] <;> decide))
  · refine ((f1.mono (S' := db :: ev.ownBlock.toList) (by simp)).trans f2 (fun z hz => .inl (by simp at hz; simp [hz]))).trans f3 (fun z hz => .inl (by simp at hz; simp [hz]))
  · intro k hk
    rcases ha with ha | ⟨b, hb, hle⟩
    · exact .inl (by rw [← ha]; exact hk)
    · rw [hb] at hk; cases hk
      exact .inr (Nat.le_trans f1.size hle)
set_option maxRecDepth 100000 in
set_option maxHeartbeats 1000000 in
theorem create_base (db : Nat) (tv ev : Value) (d : Dr) (es : List EN) (x : DE) (A4 : Option Addr) (c4 : Nat) (A6 : Option Addr) (c6 : Nat) (w : World) (h : DraftAt w db tv ev d es) (ht : x.f2.toList = []) (hb : baseIx es x.f1 = none)
    (h4 : kC.C w A4 x.f4.length x.f4) (l4 : x.f4.length ≤ 1000000) (hl : es.length < 1000000) :
    Calls Tryz.prog 188 #[.pointer (some ⟨db, 0, none⟩), deedV x A4 c4 A6 c6] w (Deeded db tv ev d (create d es x) w) := by
  obtain ⟨A, c, rfl, hE⟩ := h.open
  have F0 := hid ((Fr.refl [] w).alloc (.cells #[.string x.f0, .string x.f1, .string x.f2, .string x.f3, .slice A4 x.f4.length c4, .int .i64 x.f5, .slice A6 x.f6.length c6] 135))
  have H := hid h
  have H4 := hid h4
  have cB := hid (base_any db A es.length c es x.f1 _ (F0.out.cell0 h.c3) (hE.fr0 F0.out))
  have hi : findIx es x.f1 x.f2 = none := by unfold findIx; rw [if_pos ht]; exact hb
  have cF := hid (find_nil db A es.length c es x A4 c4 A6 c6 _ (F0.out.cell0 h.c3) (hE.fr0 F0.out) hi)
  have e0 := hid (show create d es x = (0, es ++ [ent0 d es x 0]) by unfold create; rw [if_pos ht, hb]; rfl)
  rw [hb, ptr_none] at cB
  have ht2 : x.f2.toList.isEmpty = true := by simp [ht]
  have hs : es.length ≤ 1000000 := h.small
  have hdl := h.lt
  unfold deedV at cF ⊢
  clear h hE hb hi ht h4
  go_enter Tryz.func188, Tryz.ntmps188
  go_wp2_with (first
    | (go_at_call 226; refine cB.out.mono ?_; rintro e w' ⟨rfl, rfl⟩)
    | (go_at_call 227; refine cF.out.mono ?_; rintro e w1 ⟨rfl, f1⟩))
  have X1 := (BoxAt.new w x A4 c4 A6 c6).fr f1 (by simp)
  have F1 := hid (F0.out.then f1)
  have D1 := hid (H.out.fr0 F1.out)
  have HX := hid X1
  have HS : Hid (∀ w', Fr [] w1 w' → (fun w' => w'.cell? ⟨w.heap.size, 1, none⟩ = some (.string x.f1) ∧ w'.cell? ⟨w.heap.size, 2, none⟩ = some (.string x.f2) ∧ w'.cell? ⟨w.heap.size, 4, none⟩ = some (.slice A4 x.f4.length c4) ∧ w'.cell? ⟨w.heap.size, 5, none⟩ = some (.int .i64 x.f5) ∧ w'.cell? ⟨db, 0, none⟩ = some (.int .i64 d.commit) ∧ w'.cell? ⟨db, 3, none⟩ = some (.slice A es.length c)) w') := fun w' f =>
    ⟨f.cell0 HX.out.b1, f.cell0 HX.out.b2, f.cell0 HX.out.b4, f.cell0 HX.out.b5, f.cell0 D1.out.c0, f.cell0 D1.out.c3⟩
  have S0 := HS.out _ (Fr.refl [] w1).drew
  have FD := hid (Fr.refl [] w1).drew
  clear X1 f1
  have hw1 : IntKind.i64.wrap ((es.length : Int) + 1) = (es.length : Int) + 1 := IntWalk.i64_in _ (by omega)
  have FA := hid ((Fr.refl [] w1).alloc (.cells #[.int .i64 0, .string ⟨#[]⟩, .string ⟨#[]⟩, .slice none 0 0, .slice none 0 0, .int .i64 0, .int .i64 0, .int .i64 0, .int .i64 0, .int .i64 0, .int .i64 0] 278)).drew
  have SA := HS.out _ FA.out
  go_region_held3 (fun w' => w'.cell? ⟨w.heap.size, 1, none⟩ = some (.string x.f1) ∧ w'.cell? ⟨w.heap.size, 2, none⟩ = some (.string x.f2) ∧ w'.cell? ⟨w.heap.size, 4, none⟩ = some (.slice A4 x.f4.length c4) ∧ w'.cell? ⟨w.heap.size, 5, none⟩ = some (.int .i64 x.f5) ∧ w'.cell? ⟨db, 0, none⟩ = some (.int .i64 d.commit) ∧ w'.cell? ⟨db, 3, none⟩ = some (.slice A es.length c)) ((with_reducible first | exact S0 | exact SA | exact S2 | exact S3 | exact S4 | exact S5)) (first
      | (go_at_call 132; refine (clone_cols A4 c4 w1.drew x.f4 (Kd.C_below H4.out F1.out.drew.below0) l4).mono ?_; rintro e w2 ⟨u4, rfl, r4, f2, -⟩; obtain ⟨A5, c5, rfl⟩ := Kd.R_slice r4; have F2 := hid (FD.out.then f2); have R4 := hid r4; have S2 := HS.out _ F2.out; have S3 := HS.out _ (F2.out.alloc (.cells #[.int .i64 0, .string ⟨#[]⟩, .string ⟨#[]⟩, .slice none 0 0, .slice none 0 0, .int .i64 0, .int .i64 0, .int .i64 0, .int .i64 0, .int .i64 0, .int .i64 0] 278)); have S4 := HS.out _ (F2.out.alloc (.cells #[.int .i64 ((es.length : Int) + 1), .string x.f1, .string x.f2, .slice A5 x.f4.length c5, .slice none 0 0, .int .i64 x.f5, .int .i64 d.commit, .int .i64 d.commit, .int .i64 0, .int .i64 0, .int .i64 0] 278)); clear f2 r4)
      | (go_at_call 132; refine (clone_cols A4 c4 _ x.f4 (Kd.C_below H4.out (F1.out.then FA.out).below0) l4).mono ?_; rintro e w2 ⟨u4, rfl, r4, f2, -⟩; obtain ⟨A5, c5, rfl⟩ := Kd.R_slice r4; have F2 := hid (FA.out.then f2); have R4 := hid r4; have S2 := HS.out _ F2.out; have hB2 := f2.blk (b := w1.heap.size) (heap_alloc_new w1 _) (by simp); have hF2 := blk_free hB2; have hC2 := fun j => cell_of_row w2 w1.heap.size j _ _ _ hB2; have m0 := hC2 0; have y0 := hF2 0; have m1 := hC2 1; have y1 := hF2 1; have m2 := hC2 2; have y2 := hF2 2; have m3 := hC2 3; have y3 := hF2 3; have m4 := hC2 4; have y4 := hF2 4; have m5 := hC2 5; have y5 := hF2 5; have m6 := hC2 6; have y6 := hF2 6; have m7 := hC2 7; have y7 := hF2 7; have m8 := hC2 8; have y8 := hF2 8; have m9 := hC2 9; have y9 := hF2 9; have m10 := hC2 10; have y10 := hF2 10; simp at m0 m1 m2 m3 m4 m5 m6 m7 m8 m9 m10; have HB2 := hid hB2; have F5 := hid (((((((((((F2.out.setCell (p := ⟨w1.heap.size, 0, none⟩) (.inr (Nat.le_refl _)) (.int .i64 ((es.length : Int) + 1))).setCell (p := ⟨w1.heap.size, 1, none⟩) (.inr (Nat.le_refl _)) (.string x.f1)).setCell (p := ⟨w1.heap.size, 2, none⟩) (.inr (Nat.le_refl _)) (.string x.f2)).setCell (p := ⟨w1.heap.size, 3, none⟩) (.inr (Nat.le_refl _)) (.slice A5 x.f4.length c5)).setCell (p := ⟨w1.heap.size, 4, none⟩) (.inr (Nat.le_refl _)) (.slice none 0 0)).setCell (p := ⟨w1.heap.size, 5, none⟩) (.inr (Nat.le_refl _)) (.int .i64 x.f5)).setCell (p := ⟨w1.heap.size, 6, none⟩) (.inr (Nat.le_refl _)) (.int .i64 d.commit)).setCell (p := ⟨w1.heap.size, 7, none⟩) (.inr (Nat.le_refl _)) (.int .i64 d.commit)).setCell (p := ⟨w1.heap.size, 8, none⟩) (.inr (Nat.le_refl _)) (.int .i64 0)).setCell (p := ⟨w1.heap.size, 9, none⟩) (.inr (Nat.le_refl _)) (.int .i64 0)).setCell (p := ⟨w1.heap.size, 10, none⟩) (.inr (Nat.le_refl _)) (.int .i64 0)); have S5 := HS.out _ F5.out; have hsz2 : w1.heap.size < w2.heap.size := cell_block m0; clear f2 r4 hC2 hF2 hB2))
  · have FB := hid (F2.out.alloc (.cells #[.int .i64 ((es.length : Int) + 1), .string x.f1, .string x.f2, .slice A5 x.f4.length c5, .slice none 0 0, .int .i64 x.f5, .int .i64 d.commit, .int .i64 d.commit, .int .i64 0, .int .i64 0, .int .i64 0] 278))
    have RB := hid (R_fr0 R4.out ((Fr.refl [] w2).alloc (.cells #[.int .i64 ((es.length : Int) + 1), .string x.f1, .string x.f2, .slice A5 x.f4.length c5, .slice none 0 0, .int .i64 x.f5, .int .i64 d.commit, .int .i64 d.commit, .int .i64 0, .int .i64 0, .int .i64 0] 278)))
    have BB := hid (heap_alloc_new w2 (.cells #[.int .i64 ((es.length : Int) + 1), .string x.f1, .string x.f2, .slice A5 x.f4.length c5, .slice none 0 0, .int .i64 x.f5, .int .i64 d.commit, .int .i64 d.commit, .int .i64 0, .int .i64 0, .int .i64 0] 278))
    generalize w2.alloc (.cells #[.int .i64 ((es.length : Int) + 1), .string x.f1, .string x.f2, .slice A5 x.f4.length c5, .slice none 0 0, .int .i64 x.f5, .int .i64 d.commit, .int .i64 d.commit, .int .i64 0, .int .i64 0, .int .i64 0] 278) = w3 at FB RB BB
    generalize w2.heap.size = eb at BB
    clear S0 SA S2 S3 S4 F2 R4
    have F3 := hid (F1.out.then FB.out)
    have D3 := hid (H.out.fr0 F3.out)
    obtain ⟨A1, c1, w5, hrun, r5, g5, a5⟩ := ent_append (w := w3.drew) (D3.out.fr0 (Fr.refl [] _).drew) hl (ent0 d es x 0) (.slice A5 x.f4.length c5) (R_fr0 RB.out (Fr.refl [] _).drew) rfl
    simp only [ent0] at hrun
    have HRUN := hid hrun
    have HEND := hid (create_end (w := w) (D3.out.fr0 (Fr.refl [] _).drew) F3.out.drew r5 g5 a5 hl)
    have f5 : Fr (Value.slice A es.length c).ownBlock.toList w3.drew w5 := (Fr.refl _ _).grown g5 (fun k hk => .inl (by simp [hk]))
    have hbd := f5.blk ((D3.out.fr0 (Fr.refl [] _).drew).blk) (by
      intro hm; simp at hm
      exact absurd rfl ((D3.out.ne db hm).1))
    have k3 := cell_of_row w5 db 3 _ _ _ hbd
    have kf := blk_free hbd 3
    have c3 := D3.out.c3
    have hdb3 : db < w3.heap.size := D3.out.lt
    have hdb4 : db ≠ w3.heap.size := by omega
    have x2 := FB.out.cell0 HX.out.b2
    have n0 := cell_of_row w3 eb 0 _ _ _ BB.out
    have n1 := cell_of_row w3 eb 1 _ _ _ BB.out
    have n2 := cell_of_row w3 eb 2 _ _ _ BB.out
    have n3 := cell_of_row w3 eb 3 _ _ _ BB.out
    have n4 := cell_of_row w3 eb 4 _ _ _ BB.out
    have n5 := cell_of_row w3 eb 5 _ _ _ BB.out
    have n6 := cell_of_row w3 eb 6 _ _ _ BB.out
    have n7 := cell_of_row w3 eb 7 _ _ _ BB.out
    have n8 := cell_of_row w3 eb 8 _ _ _ BB.out
    have n9 := cell_of_row w3 eb 9 _ _ _ BB.out
    have n10 := cell_of_row w3 eb 10 _ _ _ BB.out
    simp at k3 n0 n1 n2 n3 n4 n5 n6 n7 n8 n9 n10
    clear hrun r5 g5 a5 f5 hbd
    go_wp2_with fail
    go_region_law (refine step_run (v := .slice A es.length c) (y := .slice (some ⟨w3.heap.size, 0, none⟩) 1 1) (v1 := .slice A1 (es.length + 1) c1) (w1 := w5) (by rfl) (.tmp 62) (.tmp 64) 181 rfl rfl rfl HRUN.out ?_)
    all_goals go_wp2
    all_goals go_ret
    all_goals rw [e0.out]
    all_goals exact HEND.out
  · have FB := F5
    obtain ⟨FR, BB0⟩ := set11 HB2.out (.int .i64 ((es.length : Int) + 1)) (.string x.f1) (.string x.f2) (.slice A5 x.f4.length c5) (.slice none 0 0) (.int .i64 x.f5) (.int .i64 d.commit) (.int .i64 d.commit) (.int .i64 0) (.int .i64 0) (.int .i64 0)
    have BB := hid BB0
    have RB := hid (R_fr R4.out FR (NoT.one HB2.out (by decide)))
    clear FR BB0
    generalize (((((((((((w2.setCell ⟨w1.heap.size, 0, none⟩ (.int .i64 ((es.length : Int) + 1))).setCell ⟨w1.heap.size, 1, none⟩ (.string x.f1)).setCell ⟨w1.heap.size, 2, none⟩ (.string x.f2)).setCell ⟨w1.heap.size, 3, none⟩ (.slice A5 x.f4.length c5)).setCell ⟨w1.heap.size, 4, none⟩ (.slice none 0 0)).setCell ⟨w1.heap.size, 5, none⟩ (.int .i64 x.f5)).setCell ⟨w1.heap.size, 6, none⟩ (.int .i64 d.commit)).setCell ⟨w1.heap.size, 7, none⟩ (.int .i64 d.commit)).setCell ⟨w1.heap.size, 8, none⟩ (.int .i64 0)).setCell ⟨w1.heap.size, 9, none⟩ (.int .i64 0)).setCell ⟨w1.heap.size, 10, none⟩ (.int .i64 0)) = w3 at FB RB BB
    generalize w1.heap.size = eb at BB
    clear S0 SA S2 S5 F2 R4 F5 HB2 m0 m1 m2 m3 m4 m5 m6 m7 m8 m9 m10 y0 y1 y2 y3 y4 y5 y6 y7 y8 y9 y10
    have F3 := hid (F1.out.then FB.out)
    have D3 := hid (H.out.fr0 F3.out)
    obtain ⟨A1, c1, w5, hrun, r5, g5, a5⟩ := ent_append (w := w3.drew) (D3.out.fr0 (Fr.refl [] _).drew) hl (ent0 d es x 0) (.slice A5 x.f4.length c5) (R_fr0 RB.out (Fr.refl [] _).drew) rfl
    simp only [ent0] at hrun
    have HRUN := hid hrun
    have HEND := hid (create_end (w := w) (D3.out.fr0 (Fr.refl [] _).drew) F3.out.drew r5 g5 a5 hl)
    have f5 : Fr (Value.slice A es.length c).ownBlock.toList w3.drew w5 := (Fr.refl _ _).grown g5 (fun k hk => .inl (by simp [hk]))
    have hbd := f5.blk ((D3.out.fr0 (Fr.refl [] _).drew).blk) (by
      intro hm; simp at hm
      exact absurd rfl ((D3.out.ne db hm).1))
    have k3 := cell_of_row w5 db 3 _ _ _ hbd
    have kf := blk_free hbd 3
    have c3 := D3.out.c3
    have hdb3 : db < w3.heap.size := D3.out.lt
    have hdb4 : db ≠ w3.heap.size := by omega
    have x2 := FB.out.cell0 HX.out.b2
    have n0 := cell_of_row w3 eb 0 _ _ _ BB.out
    have n1 := cell_of_row w3 eb 1 _ _ _ BB.out
    have n2 := cell_of_row w3 eb 2 _ _ _ BB.out
    have n3 := cell_of_row w3 eb 3 _ _ _ BB.out
    have n4 := cell_of_row w3 eb 4 _ _ _ BB.out
    have n5 := cell_of_row w3 eb 5 _ _ _ BB.out
    have n6 := cell_of_row w3 eb 6 _ _ _ BB.out
    have n7 := cell_of_row w3 eb 7 _ _ _ BB.out
    have n8 := cell_of_row w3 eb 8 _ _ _ BB.out
    have n9 := cell_of_row w3 eb 9 _ _ _ BB.out
    have n10 := cell_of_row w3 eb 10 _ _ _ BB.out
    simp at k3 n0 n1 n2 n3 n4 n5 n6 n7 n8 n9 n10
    clear hrun r5 g5 a5 f5 hbd
    go_wp2_with fail
    go_region_law (refine step_run (v := .slice A es.length c) (y := .slice (some ⟨w3.heap.size, 0, none⟩) 1 1) (v1 := .slice A1 (es.length + 1) c1) (w1 := w5) (by rfl) (.tmp 62) (.tmp 64) 181 rfl rfl rfl HRUN.out ?_)
    all_goals go_wp2
    all_goals go_ret
    all_goals rw [e0.out]
    all_goals exact HEND.out
set_option maxRecDepth 100000 in
set_option maxHeartbeats 1000000 in
theorem create_table (db : Nat) (tv ev : Value) (d : Dr) (es : List EN) (x : DE) (A4 : Option Addr) (c4 : Nat) (A6 : Option Addr) (c6 : Nat) (w : World) (h : DraftAt w db tv ev d es) (ht : x.f2.toList ≠ []) (b : Nat) (hb : baseIx es x.f1 = some b) (hi : findIx es x.f1 x.f2 = none)
    (h4 : kC.C w A4 x.f4.length x.f4) (l4 : x.f4.length ≤ 1000000) (hl : es.length < 1000000) :
    Calls Tryz.prog 188 #[.pointer (some ⟨db, 0, none⟩), deedV x A4 c4 A6 c6] w (Deeded db tv ev d (create d es x) w) := by
  obtain ⟨A, c, rfl, hE⟩ := h.open
  obtain ⟨yb, hyb⟩ : ∃ y, es[b]? = some y := ⟨_, List.getElem?_eq_getElem (base_lt hb)⟩
  obtain ⟨g, c', eA, hgl⟩ := ents_form h.ents hyb
  injection eA with eA1 eA2 eA3
  subst eA1
  have hidb : idOf es b = yb.f0.f0 := by simp [idOf, List.getD_eq_getElem?_getD, hyb]
  have F0 := hid ((Fr.refl [] w).alloc (.cells #[.string x.f0, .string x.f1, .string x.f2, .string x.f3, .slice A4 x.f4.length c4, .int .i64 x.f5, .slice A6 x.f6.length c6] 135))
  have H := hid h
  have H4 := hid h4
  have cB := hid (base_any db (some ⟨g, 0, none⟩) es.length c es x.f1 _ (F0.out.cell0 h.c3) (hE.fr0 F0.out))
  have cF := hid (find_nil db (some ⟨g, 0, none⟩) es.length c es x A4 c4 A6 c6 _ (F0.out.cell0 h.c3) (hE.fr0 F0.out) hi)
  have e0 := hid (show create d es x = (0, es ++ [ent0 d es x yb.f0.f0]) by
    unfold create; rw [if_neg ht, hb]
    unfold findIx inIx at hi
    rw [if_neg ht, hb] at hi
    simp only [hidb] at hi
    simp only [hidb, hi]; rfl)
  rw [hb, ptr_some] at cB
  have ht2 : x.f2.toList.isEmpty = false := by simpa using ht
  have hs : es.length ≤ 1000000 := h.small
  have hdl := h.lt
  unfold deedV at cF ⊢
  have HYB := hid hyb
  clear h hE hb hi ht h4 eA3 hyb hidb
  go_enter Tryz.func188, Tryz.ntmps188
  go_wp2_with (first
    | (go_at_call 226; refine cB.out.mono ?_; rintro e w' ⟨rfl, rfl⟩)
    | (go_at_call 227; refine cF.out.mono ?_; rintro e w1 ⟨rfl, f1⟩))
  have X1 := (BoxAt.new w x A4 c4 A6 c6).fr f1 (by simp)
  have F1 := hid (F0.out.then f1)
  have D1 := hid (H.out.fr0 F1.out)
  have HX := hid X1
  have HS : Hid (∀ w', Fr [] w1 w' → (fun w' => w'.cell? ⟨w.heap.size, 1, none⟩ = some (.string x.f1) ∧ w'.cell? ⟨w.heap.size, 2, none⟩ = some (.string x.f2) ∧ w'.cell? ⟨w.heap.size, 4, none⟩ = some (.slice A4 x.f4.length c4) ∧ w'.cell? ⟨w.heap.size, 5, none⟩ = some (.int .i64 x.f5) ∧ w'.cell? ⟨db, 0, none⟩ = some (.int .i64 d.commit) ∧ w'.cell? ⟨db, 3, none⟩ = some (.slice (some ⟨g, 0, none⟩) es.length c)) w') := fun w' f =>
    ⟨f.cell0 HX.out.b1, f.cell0 HX.out.b2, f.cell0 HX.out.b4, f.cell0 HX.out.b5, f.cell0 D1.out.c0, f.cell0 D1.out.c3⟩
  have S0 := HS.out _ (Fr.refl [] w1).drew
  have FD := hid (Fr.refl [] w1).drew
  clear X1 f1
  have hw1 : IntKind.i64.wrap ((es.length : Int) + 1) = (es.length : Int) + 1 := IntWalk.i64_in _ (by omega)
  have FA := hid ((Fr.refl [] w1).alloc (.cells #[.int .i64 0, .string ⟨#[]⟩, .string ⟨#[]⟩, .slice none 0 0, .slice none 0 0, .int .i64 0, .int .i64 0, .int .i64 0, .int .i64 0, .int .i64 0, .int .i64 0] 278)).drew
  have SA := HS.out _ FA.out
  go_region_held3 (fun w' => w'.cell? ⟨w.heap.size, 1, none⟩ = some (.string x.f1) ∧ w'.cell? ⟨w.heap.size, 2, none⟩ = some (.string x.f2) ∧ w'.cell? ⟨w.heap.size, 4, none⟩ = some (.slice A4 x.f4.length c4) ∧ w'.cell? ⟨w.heap.size, 5, none⟩ = some (.int .i64 x.f5) ∧ w'.cell? ⟨db, 0, none⟩ = some (.int .i64 d.commit) ∧ w'.cell? ⟨db, 3, none⟩ = some (.slice (some ⟨g, 0, none⟩) es.length c)) ((with_reducible first | exact S0 | exact SA | exact S2 | exact S3 | exact S4 | exact S5)) (first
      | (go_at_call 132; refine (clone_cols A4 c4 w1.drew x.f4 (Kd.C_below H4.out F1.out.drew.below0) l4).mono ?_; rintro e w2 ⟨u4, rfl, r4, f2, -⟩; obtain ⟨A5, c5, rfl⟩ := Kd.R_slice r4; have F2 := hid (FD.out.then f2); have R4 := hid r4; have S2 := HS.out _ F2.out; have S3 := HS.out _ (F2.out.alloc (.cells #[.int .i64 0, .string ⟨#[]⟩, .string ⟨#[]⟩, .slice none 0 0, .slice none 0 0, .int .i64 0, .int .i64 0, .int .i64 0, .int .i64 0, .int .i64 0, .int .i64 0] 278)); have S4 := HS.out _ (F2.out.alloc (.cells #[.int .i64 ((es.length : Int) + 1), .string x.f1, .string x.f2, .slice A5 x.f4.length c5, .slice none 0 0, .int .i64 x.f5, .int .i64 d.commit, .int .i64 d.commit, .int .i64 0, .int .i64 0, .int .i64 0] 278)); clear f2 r4)
      | (go_at_call 132; refine (clone_cols A4 c4 _ x.f4 (Kd.C_below H4.out (F1.out.then FA.out).below0) l4).mono ?_; rintro e w2 ⟨u4, rfl, r4, f2, -⟩; obtain ⟨A5, c5, rfl⟩ := Kd.R_slice r4; have F2 := hid (FA.out.then f2); have R4 := hid r4; have S2 := HS.out _ F2.out; have hB2 := f2.blk (b := w1.heap.size) (heap_alloc_new w1 _) (by simp); have hF2 := blk_free hB2; have hC2 := fun j => cell_of_row w2 w1.heap.size j _ _ _ hB2; have m0 := hC2 0; have y0 := hF2 0; have m1 := hC2 1; have y1 := hF2 1; have m2 := hC2 2; have y2 := hF2 2; have m3 := hC2 3; have y3 := hF2 3; have m4 := hC2 4; have y4 := hF2 4; have m5 := hC2 5; have y5 := hF2 5; have m6 := hC2 6; have y6 := hF2 6; have m7 := hC2 7; have y7 := hF2 7; have m8 := hC2 8; have y8 := hF2 8; have m9 := hC2 9; have y9 := hF2 9; have m10 := hC2 10; have y10 := hF2 10; simp at m0 m1 m2 m3 m4 m5 m6 m7 m8 m9 m10; have HB2 := hid hB2; have F5 := hid (((((((((((F2.out.setCell (p := ⟨w1.heap.size, 0, none⟩) (.inr (Nat.le_refl _)) (.int .i64 ((es.length : Int) + 1))).setCell (p := ⟨w1.heap.size, 1, none⟩) (.inr (Nat.le_refl _)) (.string x.f1)).setCell (p := ⟨w1.heap.size, 2, none⟩) (.inr (Nat.le_refl _)) (.string x.f2)).setCell (p := ⟨w1.heap.size, 3, none⟩) (.inr (Nat.le_refl _)) (.slice A5 x.f4.length c5)).setCell (p := ⟨w1.heap.size, 4, none⟩) (.inr (Nat.le_refl _)) (.slice none 0 0)).setCell (p := ⟨w1.heap.size, 5, none⟩) (.inr (Nat.le_refl _)) (.int .i64 x.f5)).setCell (p := ⟨w1.heap.size, 6, none⟩) (.inr (Nat.le_refl _)) (.int .i64 d.commit)).setCell (p := ⟨w1.heap.size, 7, none⟩) (.inr (Nat.le_refl _)) (.int .i64 d.commit)).setCell (p := ⟨w1.heap.size, 8, none⟩) (.inr (Nat.le_refl _)) (.int .i64 0)).setCell (p := ⟨w1.heap.size, 9, none⟩) (.inr (Nat.le_refl _)) (.int .i64 0)).setCell (p := ⟨w1.heap.size, 10, none⟩) (.inr (Nat.le_refl _)) (.int .i64 0)); have S5 := HS.out _ F5.out; have hsz2 : w1.heap.size < w2.heap.size := cell_block m0; clear f2 r4 hC2 hF2 hB2))
  · have FB := hid (F2.out.alloc (.cells #[.int .i64 ((es.length : Int) + 1), .string x.f1, .string x.f2, .slice A5 x.f4.length c5, .slice none 0 0, .int .i64 x.f5, .int .i64 d.commit, .int .i64 d.commit, .int .i64 0, .int .i64 0, .int .i64 0] 278))
    have RB := hid (R_fr0 R4.out ((Fr.refl [] w2).alloc (.cells #[.int .i64 ((es.length : Int) + 1), .string x.f1, .string x.f2, .slice A5 x.f4.length c5, .slice none 0 0, .int .i64 x.f5, .int .i64 d.commit, .int .i64 d.commit, .int .i64 0, .int .i64 0, .int .i64 0] 278)))
    have BB := hid (heap_alloc_new w2 (.cells #[.int .i64 ((es.length : Int) + 1), .string x.f1, .string x.f2, .slice A5 x.f4.length c5, .slice none 0 0, .int .i64 x.f5, .int .i64 d.commit, .int .i64 d.commit, .int .i64 0, .int .i64 0, .int .i64 0] 278))
    generalize w2.alloc (.cells #[.int .i64 ((es.length : Int) + 1), .string x.f1, .string x.f2, .slice A5 x.f4.length c5, .slice none 0 0, .int .i64 x.f5, .int .i64 d.commit, .int .i64 d.commit, .int .i64 0, .int .i64 0, .int .i64 0] 278) = w3 at FB RB BB
    have HLEB : w1.heap.size ≤ w2.heap.size := F2.out.size
    have hg1 : g < w1.heap.size := by have := F1.out.size; omega
    have hd1 : db < w1.heap.size := by have := F1.out.size; omega
    have HNEB : w2.heap.size ≠ g ∧ w2.heap.size ≠ db := ⟨by omega, by omega⟩
    generalize w2.heap.size = eb at BB HLEB HNEB
    clear S0 SA S2 S3 S4 F2 R4
    have D0 := hid (H.out.fr0 (F1.out.then FB.out))
    have heb : eb ≠ g ∧ eb ≠ db := HNEB
    have q0 := (ents_enc D0.out.ents HYB.out).id
    have x2 := FB.out.cell0 HX.out.b2
    have z9 := blk_free BB.out 9
    have n9 := cell_of_row w3 eb 9 _ _ _ BB.out
    simp at n9
    have FB2 := hid (FB.out.setCell (p := ⟨eb, 9, none⟩) (.inr HLEB) (.int .i64 yb.f0.f0))
    have RB2 := hid (R_fr RB.out ((Fr.refl [eb] w3).setCell (p := ⟨eb, 9, none⟩) (.inl (by simp)) (.int .i64 yb.f0.f0)) (NoT.one BB.out (by decide)))
    have BB2 : Hid ((w3.setCell ⟨eb, 9, none⟩ (.int .i64 yb.f0.f0)).heap[eb]? = some (.cells #[.int .i64 ((es.length : Int) + 1), .string x.f1, .string x.f2, .slice A5 x.f4.length c5, .slice none 0 0, .int .i64 x.f5, .int .i64 d.commit, .int .i64 d.commit, .int .i64 0, .int .i64 yb.f0.f0, .int .i64 0] 278 (0, 0))) := by
      have := blk_setCell BB.out 9 (.int .i64 yb.f0.f0)
      simp only [List.setIfInBounds_toArray, List.set_cons_succ, List.set_cons_zero] at this
      exact this
    go_wp2_with fail
    clear q0 x2 z9 n9 BB RB FB D0
    generalize w3.setCell ⟨eb, 9, none⟩ (.int .i64 yb.f0.f0) = w3b at FB2 RB2 BB2
    have FB := FB2
    have RB := RB2
    have BB := BB2
    clear FB2 RB2 BB2
    have F3 := hid (F1.out.then FB.out)
    have D3 := hid (H.out.fr0 F3.out)
    obtain ⟨A1, c1, w5, hrun, r5, g5, a5⟩ := ent_append (w := w3b.drew) (D3.out.fr0 (Fr.refl [] _).drew) hl (ent0 d es x yb.f0.f0) (.slice A5 x.f4.length c5) (R_fr0 RB.out (Fr.refl [] _).drew) rfl
    simp only [ent0] at hrun
    have HRUN := hid hrun
    have HEND := hid (create_end (w := w) (D3.out.fr0 (Fr.refl [] _).drew) F3.out.drew r5 g5 a5 hl)
    have f5 : Fr (Value.slice (some ⟨g, 0, none⟩) es.length c).ownBlock.toList w3b.drew w5 := (Fr.refl _ _).grown g5 (fun k hk => .inl (by simp [hk]))
    have hbd := f5.blk ((D3.out.fr0 (Fr.refl [] _).drew).blk) (by
      intro hm; simp at hm
      exact absurd rfl ((D3.out.ne db hm).1))
    have k3 := cell_of_row w5 db 3 _ _ _ hbd
    have kf := blk_free hbd 3
    have c3 := D3.out.c3
    have hdb3 : db < w3b.heap.size := D3.out.lt
    have hdb4 : db ≠ w3b.heap.size := by omega
    have x2 := FB.out.cell0 HX.out.b2
    have n0 := cell_of_row w3b eb 0 _ _ _ BB.out
    have n1 := cell_of_row w3b eb 1 _ _ _ BB.out
    have n2 := cell_of_row w3b eb 2 _ _ _ BB.out
    have n3 := cell_of_row w3b eb 3 _ _ _ BB.out
    have n4 := cell_of_row w3b eb 4 _ _ _ BB.out
    have n5 := cell_of_row w3b eb 5 _ _ _ BB.out
    have n6 := cell_of_row w3b eb 6 _ _ _ BB.out
    have n7 := cell_of_row w3b eb 7 _ _ _ BB.out
    have n8 := cell_of_row w3b eb 8 _ _ _ BB.out
    have n9 := cell_of_row w3b eb 9 _ _ _ BB.out
    have n10 := cell_of_row w3b eb 10 _ _ _ BB.out
    simp at k3 n0 n1 n2 n3 n4 n5 n6 n7 n8 n9 n10
    clear hrun r5 g5 a5 f5 hbd
    go_wp2_with fail
    go_region_law (refine step_run (v := .slice (some ⟨g, 0, none⟩) es.length c) (y := .slice (some ⟨w3b.heap.size, 0, none⟩) 1 1) (v1 := .slice A1 (es.length + 1) c1) (w1 := w5) (by rfl) (.tmp 62) (.tmp 64) 181 rfl rfl rfl HRUN.out ?_)
    all_goals go_wp2
    all_goals go_ret
    all_goals rw [e0.out]
    all_goals exact HEND.out
  · have FB := F5
    obtain ⟨FR, BB0⟩ := set11 HB2.out (.int .i64 ((es.length : Int) + 1)) (.string x.f1) (.string x.f2) (.slice A5 x.f4.length c5) (.slice none 0 0) (.int .i64 x.f5) (.int .i64 d.commit) (.int .i64 d.commit) (.int .i64 0) (.int .i64 0) (.int .i64 0)
    have BB := hid BB0
    have RB := hid (R_fr R4.out FR (NoT.one HB2.out (by decide)))
    clear FR BB0
    generalize (((((((((((w2.setCell ⟨w1.heap.size, 0, none⟩ (.int .i64 ((es.length : Int) + 1))).setCell ⟨w1.heap.size, 1, none⟩ (.string x.f1)).setCell ⟨w1.heap.size, 2, none⟩ (.string x.f2)).setCell ⟨w1.heap.size, 3, none⟩ (.slice A5 x.f4.length c5)).setCell ⟨w1.heap.size, 4, none⟩ (.slice none 0 0)).setCell ⟨w1.heap.size, 5, none⟩ (.int .i64 x.f5)).setCell ⟨w1.heap.size, 6, none⟩ (.int .i64 d.commit)).setCell ⟨w1.heap.size, 7, none⟩ (.int .i64 d.commit)).setCell ⟨w1.heap.size, 8, none⟩ (.int .i64 0)).setCell ⟨w1.heap.size, 9, none⟩ (.int .i64 0)).setCell ⟨w1.heap.size, 10, none⟩ (.int .i64 0)) = w3 at FB RB BB
    have hg1 : g < w1.heap.size := by have := F1.out.size; omega
    have hd1 : db < w1.heap.size := by have := F1.out.size; omega
    have HNEB : w1.heap.size ≠ g ∧ w1.heap.size ≠ db := ⟨by omega, by omega⟩
    generalize hEB : w1.heap.size = eb at BB HNEB
    have HLEB : w1.heap.size ≤ eb := by omega
    clear hEB
    clear S0 SA S2 S5 F2 R4 F5 HB2 m0 m1 m2 m3 m4 m5 m6 m7 m8 m9 m10 y0 y1 y2 y3 y4 y5 y6 y7 y8 y9 y10
    have D0 := hid (H.out.fr0 (F1.out.then FB.out))
    have heb : eb ≠ g ∧ eb ≠ db := HNEB
    have q0 := (ents_enc D0.out.ents HYB.out).id
    have x2 := FB.out.cell0 HX.out.b2
    have z9 := blk_free BB.out 9
    have n9 := cell_of_row w3 eb 9 _ _ _ BB.out
    simp at n9
    have FB2 := hid (FB.out.setCell (p := ⟨eb, 9, none⟩) (.inr HLEB) (.int .i64 yb.f0.f0))
    have RB2 := hid (R_fr RB.out ((Fr.refl [eb] w3).setCell (p := ⟨eb, 9, none⟩) (.inl (by simp)) (.int .i64 yb.f0.f0)) (NoT.one BB.out (by decide)))
    have BB2 : Hid ((w3.setCell ⟨eb, 9, none⟩ (.int .i64 yb.f0.f0)).heap[eb]? = some (.cells #[.int .i64 ((es.length : Int) + 1), .string x.f1, .string x.f2, .slice A5 x.f4.length c5, .slice none 0 0, .int .i64 x.f5, .int .i64 d.commit, .int .i64 d.commit, .int .i64 0, .int .i64 yb.f0.f0, .int .i64 0] 278 (0, 0))) := by
      have := blk_setCell BB.out 9 (.int .i64 yb.f0.f0)
      simp only [List.setIfInBounds_toArray, List.set_cons_succ, List.set_cons_zero] at this
      exact this
    go_wp2_with fail
    clear q0 x2 z9 n9 BB RB FB D0
    generalize w3.setCell ⟨eb, 9, none⟩ (.int .i64 yb.f0.f0) = w3b at FB2 RB2 BB2
    have FB := FB2
    have RB := RB2
    have BB := BB2
    clear FB2 RB2 BB2
    have F3 := hid (F1.out.then FB.out)
    have D3 := hid (H.out.fr0 F3.out)
    obtain ⟨A1, c1, w5, hrun, r5, g5, a5⟩ := ent_append (w := w3b.drew) (D3.out.fr0 (Fr.refl [] _).drew) hl (ent0 d es x yb.f0.f0) (.slice A5 x.f4.length c5) (R_fr0 RB.out (Fr.refl [] _).drew) rfl
    simp only [ent0] at hrun
    have HRUN := hid hrun
    have HEND := hid (create_end (w := w) (D3.out.fr0 (Fr.refl [] _).drew) F3.out.drew r5 g5 a5 hl)
    have f5 : Fr (Value.slice (some ⟨g, 0, none⟩) es.length c).ownBlock.toList w3b.drew w5 := (Fr.refl _ _).grown g5 (fun k hk => .inl (by simp [hk]))
    have hbd := f5.blk ((D3.out.fr0 (Fr.refl [] _).drew).blk) (by
      intro hm; simp at hm
      exact absurd rfl ((D3.out.ne db hm).1))
    have k3 := cell_of_row w5 db 3 _ _ _ hbd
    have kf := blk_free hbd 3
    have c3 := D3.out.c3
    have hdb3 : db < w3b.heap.size := D3.out.lt
    have hdb4 : db ≠ w3b.heap.size := by omega
    have x2 := FB.out.cell0 HX.out.b2
    have n0 := cell_of_row w3b eb 0 _ _ _ BB.out
    have n1 := cell_of_row w3b eb 1 _ _ _ BB.out
    have n2 := cell_of_row w3b eb 2 _ _ _ BB.out
    have n3 := cell_of_row w3b eb 3 _ _ _ BB.out
    have n4 := cell_of_row w3b eb 4 _ _ _ BB.out
    have n5 := cell_of_row w3b eb 5 _ _ _ BB.out
    have n6 := cell_of_row w3b eb 6 _ _ _ BB.out
    have n7 := cell_of_row w3b eb 7 _ _ _ BB.out
    have n8 := cell_of_row w3b eb 8 _ _ _ BB.out
    have n9 := cell_of_row w3b eb 9 _ _ _ BB.out
    have n10 := cell_of_row w3b eb 10 _ _ _ BB.out
    simp at k3 n0 n1 n2 n3 n4 n5 n6 n7 n8 n9 n10
    clear hrun r5 g5 a5 f5 hbd
    go_wp2_with fail
    go_region_law (refine step_run (v := .slice (some ⟨g, 0, none⟩) es.length c) (y := .slice (some ⟨w3b.heap.size, 0, none⟩) 1 1) (v1 := .slice A1 (es.length + 1) c1) (w1 := w5) (by rfl) (.tmp 62) (.tmp 64) 181 rfl rfl rfl HRUN.out ?_)
    all_goals go_wp2
    all_goals go_ret
    all_goals rw [e0.out]
    all_goals exact HEND.out
theorem create_any (db : Nat) (tv ev : Value) (d : Dr) (es : List EN) (x : DE) (A4 : Option Addr) (c4 : Nat) (A6 : Option Addr) (c6 : Nat) (w : World) (h : DraftAt w db tv ev d es)
    (h4 : kC.C w A4 x.f4.length x.f4) (l4 : x.f4.length ≤ 1000000) (hl : es.length < 1000000) :
    Calls Tryz.prog 188 #[.pointer (some ⟨db, 0, none⟩), deedV x A4 c4 A6 c6] w (Deeded db tv ev d (create d es x) w) := by
  by_cases ht : x.f2.toList = []
  · cases hb : baseIx es x.f1 with
    | none => exact create_base db tv ev d es x A4 c4 A6 c6 w h ht hb h4 l4 hl
    | some b => exact create_5 db tv ev d es x A4 c4 A6 c6 w h b b hb (by unfold findIx; rw [if_pos ht]; exact hb)
  · cases hb : baseIx es x.f1 with
    | none => exact create_4 db tv ev d es x A4 c4 A6 c6 w h ht hb
    | some b =>
      cases hi : findIx es x.f1 x.f2 with
      | none => exact create_table db tv ev d es x A4 c4 A6 c6 w h ht b hb hi h4 l4 hl
      | some i => exact create_5 db tv ev d es x A4 c4 A6 c6 w h b i hb hi
structure CatAt (w : World) (cb : Nat) (v : Value) (ss : List ST) : Prop where
  blk : w.heap[cb]? = some (.cells #[v] 186 (0, 0))
  row : kS.R 183 w 0 (fun _ => True) v ss
  pos : 0 < ss.length
  small : ss.length ≤ 4001
  ents : ∀ s ∈ ss, s.f2.length ≤ 4000
theorem kS_E {q : Nat} (hq : q ∈ 183 :: kS.E) : q ∈ [183, 135, 192, 3, 278] := by
  simp [kS, kD, kE, kA, Kd.iso, Kd.pair, Kd.int, Kd.string, Kd.scalar, ros, own0, k192] at hq
  simp
  omega
section
variable {w : World} {cb : Nat} {v : Value} {ss : List ST}
theorem CatAt.fr {w' : World} {S : List Nat} (h : CatAt w cb v ss) (hf : Fr S w w') (h1 : cb ∉ S) (h2 : NoT w [183, 135, 192, 3, 278] S) : CatAt w' cb v ss :=
  ⟨hf.blk h.blk h1, R_fr h.row hf (fun k hk q hq => h2 k hk q (kS_E hq)), h.pos, h.small, h.ents⟩
theorem CatAt.fr0 {w' : World} (h : CatAt w cb v ss) (hf : Fr [] w w') : CatAt w' cb v ss := h.fr hf (by simp) (NoT.nil _ _)
theorem CatAt.c0 (h : CatAt w cb v ss) : w.cell? ⟨cb, 0, none⟩ = some v := cell_of_row w cb 0 _ _ _ h.blk
theorem CatAt.lt (h : CatAt w cb v ss) : cb < w.heap.size := blk_lt h.blk
theorem CatAt.form (h : CatAt w cb v ss) : ∃ g c, v = .slice (some ⟨g, 0, none⟩) ss.length c ∧ g < w.heap.size ∧ ss.length ≤ c := by
  obtain ⟨g, c, e, _, hg, _⟩ := Kd.R_form h.row h.pos
  subst e
  exact ⟨g, c, rfl, hg, (Kd.R_reads' h.row).2.1⟩
theorem states_at {g n c k : Nat} {s : ST} (h : kS.R 183 w 0 (fun _ => True) (.slice (some ⟨g, 0, none⟩) n c) ss) (hs : ss[k]? = some s) :
    ∃ A1 c1 v2, w.cell? ⟨g, k * 3, none⟩ = some (.int .i64 s.f0) ∧ w.cell? ⟨g, k * 3 + 1, none⟩ = some (.slice A1 s.f1.length c1) ∧ w.cell? ⟨g, k * 3 + 2, none⟩ = some v2 ∧ s.f1.length ≤ c1 ∧ kD.C w A1 s.f1.length s.f1 ∧ kE.R 278 w 0 (fun _ => True) v2 s.f2 ∧ (s.f2 = [] → v2 = .slice none 0 0) := by
  obtain ⟨hn, -, -⟩ := Kd.R_reads' h
  have hi := (List.getElem?_eq_some_iff.1 hs).1
  obtain ⟨cs, h1, h2, h3, h4⟩ := Kd.R_elem h z183 (k : Int) (by omega) (by omega)
  have e : ss.getD ((k : Int)).toNat z183 = s := by simp [List.getD_eq_getElem?_getD, hs]
  rw [e] at h2
  obtain ⟨v1, v2, rfl, g1, g2, g3⟩ := kS_open h2
  obtain ⟨A1, c1, rfl, hl, hC⟩ := ros_C g1
  exact ⟨A1, c1, v2, h3 0 _ rfl, h3 1 _ rfl, h3 2 _ rfl, hl, hC, Kd.R_mono g2 (fun _ _ => trivial), g3⟩
end
theorem time_append {db : Nat} {tv ev : Value} {d : Dr} {es : List EN} {w : World} (D : DraftAt w db tv ev d es) (hl : d.times.length ≤ 1000000) (x : Int) :
    ∃ A1 c1 w1, (Builtin.append_ #[122, 122] 122 #[tv, .slice (some ⟨w.heap.size, 0, none⟩) 1 1]).run Tryz.prog (w.alloc (.cells #[.int .i64 x] 3)) = .ok (.slice A1 (d.times.length + 1) c1) w1 ∧
      kI.R 3 w1 0 (fun _ => True) (.slice A1 (d.times.length + 1) c1) (d.times ++ [x]) ∧ w.grownBy w1 tv.ownBlock ∧ ((Value.slice A1 (d.times.length + 1) c1).ownBlock = tv.ownBlock ∨ ∃ b, (Value.slice A1 (d.times.length + 1) c1).ownBlock = some b ∧ w.heap.size ≤ b) := by
  obtain ⟨v1, w1, hrun, r5, g5, a5⟩ := R_run (P := Tryz.prog) kI (W := w) 122 122 3 (.int .i64 0) 8 Tryz.underlying122 info_int rfl (by decide) (by decide) tv d.times x [.int .i64 x] (fun _ => False) rfl (fun _ h => h.elim) D.times (by omega)
  obtain ⟨A1, c1, e⟩ := Kd.R_slice r5
  rw [List.length_append, List.length_singleton] at e
  subst e
  exact ⟨A1, c1, w1, hrun, r5, g5, a5⟩
theorem time_end {db : Nat} {tv v1 : Value} {d : Dr} {x : Int} {w w0 w3 : World} (D : DraftAt w db tv (.slice none 0 0) d []) (f : Fr [] w0 w) (hdb : w0.heap.size ≤ db) (ht : ∀ k, tv.ownBlock = some k → w0.heap.size ≤ k)
    (r : kI.R 3 w3 0 (fun _ => True) v1 (d.times ++ [x])) (hg : w.grownBy w3 tv.ownBlock) (ha : v1.ownBlock = tv.ownBlock ∨ ∃ b, v1.ownBlock = some b ∧ w.heap.size ≤ b) :
    DraftAt (w3.setCell ⟨db, 2, none⟩ v1) db v1 (.slice none 0 0) ⟨d.commit, d.time, d.times ++ [x]⟩ [] ∧ Fr [] w0 (w3.setCell ⟨db, 2, none⟩ v1) ∧ (∀ k, v1.ownBlock = some k → w0.heap.size ≤ k) ∧ w3.heap[db]? = some (.cells #[.int .i64 d.commit, .int .i64 d.time, tv, .slice none 0 0] 281 (0, 0)) := by
  have f2 : Fr tv.ownBlock.toList w w3 := (Fr.refl _ w).grown hg (fun k hk => .inl (by simp [hk]))
  have hne : ∀ k, tv.ownBlock = some k → k ≠ db := by
    intro k hk
    obtain ⟨cells, hc⟩ := Kd.R_typed D.times k hk
    rintro rfl
    rw [D.blk] at hc
    injection hc with hc; injection hc with _ hc; exact absurd hc (by decide)
  have hb3 : w3.heap[db]? = some (.cells #[.int .i64 d.commit, .int .i64 d.time, tv, .slice none 0 0] 281 (0, 0)) := f2.blk D.blk (by
    cases ho : tv.ownBlock with
    | none => simp
    | some k => simp; exact Ne.symm (hne k ho))
  have f3 : Fr [db] w3 (w3.setCell ⟨db, 2, none⟩ v1) := (Fr.refl _ _).setCell (.inl (by simp)) _
  refine ⟨⟨blk_setCell hb3 2 v1, ?_, Kd.R_nil _ _ _ _ _, fun _ => rfl, by simp⟩, ?_, ?_, hb3⟩
  · exact R_fr r f3 (NoT.one hb3 (by
      intro q hq
      simp [Kd.int, Kd.scalar] at hq
      subst hq; decide))
  · refine (f.trans f2 (fun z hz => .inr (ht z (by simpa using hz)))).trans f3 (fun z hz => .inr (by simp at hz; omega))
  · intro k hk
    rcases ha with ha | ⟨b, hb, hle⟩
    · exact ht k (by rw [← ha]; exact hk)
    · rw [hb] at hk; cases hk
      have := f.size; omega
theorem take_map {ss : List ST} {j : Nat} {s : ST} (h : ss[j]? = some s) : (ss.take j).map (·.f0) ++ [s.f0] = (ss.take (j + 1)).map (·.f0) := by
  obtain ⟨hj, he⟩ := List.getElem?_eq_some_iff.1 h
  rw [List.take_succ_eq_append_getElem hj, List.map_append, he]; rfl
def Drafted (ss : List ST) (k : Nat) (s : ST) (commit time : Int) (w : World) (e : Ending) (w' : World) : Prop :=
  ∃ db tv ev, e = .returned (.pointer (some ⟨db, 0, none⟩)) ∧ DraftAt w' db tv ev ⟨commit, time, (ss.take k).map (·.f0)⟩ s.f2 ∧ Fr [] w w' ∧ w.heap.size ≤ db ∧ ∀ j, ev.ownBlock = some j → w.heap.size ≤ j
section
attribute [local go_sem] nilE
set_option maxRecDepth 100000 in
theorem clone_cut (A : Option Addr) (c : Nat) (w : World) (n c0 : Nat) (xs : List EN) (h : kE.R 278 w 0 (fun _ => True) (.slice A n c0) xs) (hl : xs.length ≤ 1000000) :
    Calls Tryz.prog 257 #[.slice A n c] w (Cloned kE 278 A xs w) := by
  obtain ⟨rfl, hnc, hC⟩ := Kd.R_reads' h
  have H := hid h
  cases A with
  | none =>
    obtain rfl : xs = [] := nil_of_C hC
    clear h hC hnc
    go_enter Tryz.func257, Tryz.ntmps257
    go_wp2
    go_ret
    exact ⟨_, rfl, Kd.R_nil _ _ _ _ _, Fr.refl _ _, fun k hk => by simp [Value.ownBlock] at hk, fun _ => rfl⟩
  | some ad =>
    have HR : Hid (ReadsRow (fun x cs => kE.M (w.alloc (.cells #[] 278)) 0 (fun k => some k ≠ (Value.slice (some ⟨w.heap.size, 0, none⟩) 0 0).ownBlock) x cs) kE.sz (w.alloc (.cells #[] 278)) (some ad) xs.length xs) := rows_of_R h
    clear h hC hnc
    go_enter Tryz.func257, Tryz.ntmps257
    go_wp2_with (at_builtin; refine Kd.R_append_rows kE (w0 := w) 0 rfl _ _ 181 278 (zE) 136 rfl Tryz.underlying181 infoE rfl (by decide) (by decide) _ [] xs (some ad) xs.length c (fun _ => True) (fun k => some k ≠ (Value.slice (some ⟨w.heap.size, 0, none⟩) 0 0).ownBlock) rfl rfl (lit_empty _ _ _) HR.out (fun _ _ h => h) (fun _ hk => ⟨trivial, hk⟩) (fun _ _ => trivial) ?c1 (Nat.zero_le _) ?c2 ?_)
    case c1 => exact (((Fr.refl [] w).alloc _).below (Nat.zero_le _) (by simp))
    case c2 => simp; omega
    intro v1 w1 r1 b1 g1 a1
    go_wp2
    go_ret
    have := Cloned.mk (ad := ad) (v := v1) r1 b1 g1 a1
    exact this
end
theorem draft_end {ss : List ST} {k : Nat} {s : ST} {time : Int} {w wr w2 : World} {tv v : Value} {T : List Int} {db : Nat} {A2 : Option Addr} (hT : T = (ss.take k).map (·.f0)) (D : DraftAt wr db tv (.slice none 0 0) ⟨k, time, T⟩ []) (f : Fr [] w wr) (hdb : w.heap.size ≤ db) (hc : kE.R 278 w2 0 (fun _ => True) v s.f2) (f2 : Fr [] wr w2) (ho : ∀ j, v.ownBlock = some j → wr.heap.size ≤ j) (hn : A2 = none → v = .slice none 0 0) (hn2 : s.f2 = [] → A2 = none) (hs : s.f2.length ≤ 4000) :
    Drafted ss k s k time w (.returned (.pointer (some ⟨db, 0, none⟩))) (w2.setCell ⟨db, 3, none⟩ v) := by
  subst hT
  have D2 := D.fr0 f2
  have f3 : Fr [db] w2 (w2.setCell ⟨db, 3, none⟩ v) := (Fr.refl _ _).setCell (.inl (by simp)) _
  refine ⟨db, tv, v, rfl, ⟨blk_setCell D2.blk 3 v, ?_, ?_, fun h => hn (hn2 h), by omega⟩, (f.then f2).trans f3 (fun z hz => .inr (by simp at hz; omega)), hdb, fun j hj => by have := ho j hj; have := f.size; omega⟩
  · exact R_fr D2.times f3 (NoT.one D2.blk (by
      intro q hq
      simp [Kd.int, Kd.scalar] at hq
      subst hq; decide))
  · exact R_fr hc f3 (NoT.one D2.blk (by
      intro q hq
      rcases kE_E hq with h | h | h <;> rw [h] <;> decide))
set_option maxRecDepth 100000 in
set_option maxHeartbeats 4000000 in
theorem draft_any (cb : Nat) (v : Value) (ss : List ST) (over k : Nat) (hk : k ≤ ss.length) (s : ST) (hs : ss[over]? = some s) (time : Int) (w : World) (h : CatAt w cb v ss) :
    Calls Tryz.prog 250 #[.pointer (some ⟨cb, 0, none⟩), .int .i64 over, .int .i64 k, .int .i64 time] w (Drafted ss k s k time w) := by
  obtain ⟨g, c, rfl, hgl, hlc⟩ := h.form
  have c0 := h.c0
  have hsm := h.small
  have hcb := h.lt
  have H := hid h
  have hov := (List.getElem?_eq_some_iff.1 hs).1
  have ho1 : (over : Int) < (ss.length : Int) := by omega
  have ho0 : (0 : Int) ≤ (over : Int) := by omega
  have HS := hid hs
  have hk1 : (k : Int) ≤ (ss.length : Int) := by omega
  clear h hs
  go_enter Tryz.func250, Tryz.ntmps250
  go_wp2_with fail
  go_region
  go_wp2
  go_loopw [30] (fun i wr => ∃ (j : Nat) (tv : Value) (T : List Int), i = .int .i64 j ∧ j ≤ k ∧ T = (ss.take j).map (·.f0) ∧ DraftAt wr w.heap.size tv (.slice none 0 0) ⟨k, time, T⟩ [] ∧ Fr [] w wr ∧ ∀ q, tv.ownBlock = some q → w.heap.size ≤ q) (fun i _ => k - (intOf i).toNat)
  case atStart => exact ⟨0, _, _, rfl, Nat.zero_le _, rfl, ⟨(((Fr.refl [] _).drew).blk (heap_alloc_new w _) (by simp)), Kd.R_nil _ _ _ _ _, Kd.R_nil _ _ _ _ _, fun _ => rfl, by simp⟩, ((Fr.refl [] w).alloc _).drew, fun q hq => by simp [Value.ownBlock] at hq⟩
  case round =>
    obtain ⟨j, tv, T, rfl, hj, hTT, hD, hF, hT⟩ := hrel
    have hTl : T.length ≤ 4001 := by rw [hTT]; simp; omega
    have HTT := hid hTT
    clear hTT
    have HD := hid hD
    have HF := hid hF
    have HT := hid hT
    have H1 := hid (H.out.fr0 hF)
    clear hD hF hT c0
    by_cases hlt : j < k
    · obtain ⟨sj, hsj⟩ : ∃ y, ss[j]? = some y := ⟨_, List.getElem?_eq_getElem (by omega)⟩
      obtain ⟨A1, c1, v2, q0, q1, q2, -, -, hr2, -⟩ := states_at H1.out.row hsj
      obtain ⟨A2, c2, rfl⟩ := Kd.R_slice hr2
      have hm0 : (0 : Int) ≤ (j : Int) := by omega
      have hm1 : (j : Int) < (k : Int) := by omega
      have hW : Fr [] wr (wr.alloc (.cells #[.int .i64 sj.f0, .slice A1 sj.f1.length c1, .slice A2 sj.f2.length c2] 183)).drew := ((Fr.refl [] wr).alloc _).drew
      have D2 := HD.out.fr0 hW
      obtain ⟨A3, c3, w3, hrun, r3, g3, a3⟩ := time_append D2 (show T.length ≤ 1000000 by omega) sj.f0
      obtain ⟨A4, c4, rfl⟩ := Kd.R_slice HD.out.times
      obtain ⟨d3, f3, o3, b3⟩ := time_end (w0 := w) D2 (HF.out.then hW) (Nat.le_refl _) HT.out r3 g3 a3
      simp only [World.alloc_drew, World.size_drew, World.size_alloc] at hrun
      have HRUN := hid hrun
      have HD3 := hid d3
      have HF3 := hid f3
      have HO3 := hid o3
      have k2 := HD.out.c2
      have y2 := cell_of_row w3 w.heap.size 2 _ _ _ b3
      have z2 := blk_free b3 2
      have hdl := HD.out.lt
      have hn1 : w.heap.size ≠ wr.heap.size := by omega
      have hn2 : w.heap.size ≠ wr.heap.size + 1 := by omega
      have HSJ := hid hsj
      simp at y2
      clear hr2 hW D2 hrun r3 g3 a3 d3 f3 o3 b3 hsj
      go_wp2_with fail
      go_region_law (refine step_run (v := .slice A4 T.length c4) (y := .slice (some ⟨wr.heap.size + 1, 0, none⟩) 1 1) (v1 := .slice A3 (T.length + 1) c3) (w1 := w3) (by rfl) (.tmp 38) (.tmp 41) 122 rfl rfl rfl HRUN.out ?_)
      all_goals go_wp2
      all_goals go_roundw
      all_goals first
        | (case measure => simp [intOf]; omega)
        | (case rel => exact ⟨j + 1, _, _, by go_num, by omega, by rw [HTT.out]; exact take_map HSJ.out, HD3.out, HF3.out, HO3.out⟩)
    · obtain rfl : j = k := by omega
      obtain ⟨A1, c1, v2, q0, q1, q2, -, -, hr2, hnil⟩ := states_at H1.out.row HS.out
      obtain ⟨A2, c2, rfl⟩ := Kd.R_slice hr2
      have hsl : s.f2.length ≤ 4000 := H.out.ents s (List.mem_iff_getElem?.2 ⟨over, HS.out⟩)
      have CC := hid (clone_cut A2 s.f2.length wr s.f2.length c2 s.f2 hr2 (by omega))
      have HN : Hid (s.f2 = [] → A2 = none) := fun h => by have := hnil h; injection this
      have k3 := HD.out.c3
      have c0 := H1.out.c0
      have hc2 := (Kd.R_reads' hr2).2.1
      have b3 := hid (HD.out.blk)
      clear hnil hr2
      go_wp2_with (go_at_call 257; refine CC.out.mono ?_; rintro e w2 ⟨u, rfl, r2, f2, o2, n2⟩; obtain ⟨A5, c5, rfl⟩ := Kd.R_slice r2; have K3 := f2.cell0 k3; have Z3 := blk_free (f2.blk b3.out (by simp)) 3; have HEND := hid (draft_end (A2 := A2) HTT.out HD.out HF.out (Nat.le_refl _) r2 f2 o2 n2 HN.out hsl); clear r2 f2 o2 n2)
      go_ret
      exact HEND.out
end Go.Proofs.YtkolnoadeihmoaaGreat
