/-
  Catalog: undrop.
-/
import Derived.Laws.EntriesVeiled
import Derived.Test.YtkolnoadeihmoaaGreatKd6
namespace Go.Proofs.YtkolnoadeihmoaaGreat
open Go.RowKit Go.Proofs.YtkolnoadeihmoaaGreatW.PrintWords
theorem drop_lt {es : List EN} {p : EN → Bool} {i : Nat} (h : dropped es p = some i) : i < es.length := by
  unfold dropped at h
  cases hd : dropUpTo p es es.length with
  | none => rw [hd] at h; cases h
  | some jg =>
    rw [hd] at h
    obtain ⟨j, gj⟩ := jg
    have := dropUpTo_at hd
    cases h
    exact this.1
theorem ite_and {α : Type} {a r : Bool} {u v w : α} (h : (if (a && r) = true then u else v) = w) : (a = true ∧ u = w) ∨ v = w := by cases a <;> cases r <;> simp_all
theorem drop_pos {es : List EN} {p : EN → Bool} : ∀ {k j : Nat} {g : Int}, dropUpTo p es k = some (j, g) → 0 < g
  | 0, j, g, h => by simp [dropUpTo] at h
  | k + 1, j, g, h => by
    unfold dropUpTo dropStep at h
    rcases ite_and h with ⟨h1, h2⟩ | h2
    · injection h2 with h2
      injection h2 with h3 h4
      rw [← h4]
      exact of_decide_eq_true h1
    · exact drop_pos h2
theorem dropped_pos {es : List EN} {p : EN → Bool} {i : Nat} {y : EN} (h : dropped es p = some i) (hy : es[i]? = some y) : 0 < y.f0.f8 := by
  unfold dropped at h
  cases hd : dropUpTo p es es.length with
  | none => rw [hd] at h; cases h
  | some jg =>
    rw [hd] at h
    obtain ⟨j, gj⟩ := jg
    have h1 := dropUpTo_at hd
    have h2 := drop_pos hd
    cases h
    simp [List.getD_eq_getElem?_getD, hy] at h1
    omega
theorem three (w : World) (v0 v1 v2 : Value) (t0 t1 t2 : TypeId) :
    ((((w.alloc (.cells #[v0] t0)).alloc (.cells #[v1] t1)).alloc (.cells #[v2] t2)).drew.heap[w.heap.size]? = some (.cells #[v0] t0 (0, 0))) ∧
    ((((w.alloc (.cells #[v0] t0)).alloc (.cells #[v1] t1)).alloc (.cells #[v2] t2)).drew.heap[w.heap.size + 1]? = some (.cells #[v1] t1 (0, 0))) ∧
    ((((w.alloc (.cells #[v0] t0)).alloc (.cells #[v1] t1)).alloc (.cells #[v2] t2)).drew.heap[w.heap.size + 2]? = some (.cells #[v2] t2 (0, 0))) := by
  have h0 := heap_alloc_new w (.cells #[v0] t0)
  have h1 := heap_alloc_new (w.alloc (.cells #[v0] t0)) (.cells #[v1] t1)
  have h2 := heap_alloc_new ((w.alloc (.cells #[v0] t0)).alloc (.cells #[v1] t1)) (.cells #[v2] t2)
  rw [World.size_alloc] at h1
  rw [World.size_alloc, World.size_alloc] at h2
  exact ⟨(((Fr.refl [] _).alloc _).alloc (.cells #[v2] t2)).drew.blk h0 (by simp), ((Fr.refl [] _).alloc (.cells #[v2] t2)).drew.blk h1 (by simp), h2⟩
theorem cell_blk {w : World} {b : Nat} {v : Value} {t : TypeId} (h : w.heap[b]? = some (.cells #[v] t (0, 0))) : w.cell? ⟨b, 0, none⟩ = some v := cell_of_row w b 0 _ _ _ h
set_option maxRecDepth 100000 in
theorem undrop_4 (db : Nat) (tv ev : Value) (d : Dr) (es : List EN) (x : DE) (A4 : Option Addr) (c4 : Nat) (A6 : Option Addr) (c6 : Nat) (w : World) (h : DraftAt w db tv ev d es) (ht : x.f2.toList ≠ []) (hb : baseIx es x.f1 = none) :
    Calls Tryz.prog 190 #[.pointer (some ⟨db, 0, none⟩), deedV x A4 c4 A6 c6] w (Deeded db tv ev d (undrop d es x) w) := by
  obtain ⟨A, c, rfl, hE⟩ := h.open
  have F0 := hid ((Fr.refl [] w).alloc (.cells #[.string x.f0, .string x.f1, .string x.f2, .string x.f3, .slice A4 x.f4.length c4, .int .i64 x.f5, .slice A6 x.f6.length c6] 135))
  have H := hid h
  have cB := hid (base_any db A es.length c es x.f1 _ (F0.out.cell0 h.c3) (hE.fr0 F0.out))
  have e0 := hid (show undrop d es x = (4, es) by unfold undrop; rw [if_neg ht, hb])
  rw [hb, ptr_none] at cB
  have ht2 : x.f2.toList.isEmpty = false := by simpa using ht
  unfold deedV
  clear h hE ht hb
  go_enter Tryz.func190, Tryz.ntmps190
  go_wp2_with (go_at_call 226; refine cB.out.mono ?_; rintro e w' ⟨rfl, rfl⟩)
  go_ret
  rw [e0.out]
  exact Deeded.same H.out (F0.out.alloc _)
set_option maxRecDepth 100000 in
set_option maxHeartbeats 4000000 in
theorem undrop_base (db : Nat) (tv ev : Value) (d : Dr) (es : List EN) (x : DE) (A4 : Option Addr) (c4 : Nat) (A6 : Option Addr) (c6 : Nat) (w : World) (h : DraftAt w db tv ev d es) (ht : x.f2.toList = []) :
    Calls Tryz.prog 190 #[.pointer (some ⟨db, 0, none⟩), deedV x A4 c4 A6 c6] w (Deeded db tv ev d (undrop d es x) w) := by
  obtain ⟨A, c, rfl, hE⟩ := h.open
  have F0 := hid ((Fr.refl [] w).alloc (.cells #[.string x.f0, .string x.f1, .string x.f2, .string x.f3, .slice A4 x.f4.length c4, .int .i64 x.f5, .slice A6 x.f6.length c6] 135))
  have H := hid h
  have HE := hid hE
  have hs := h.small
  have hdl := h.lt
  have cB := hid (base_any db A es.length c es x.f1 _ (F0.out.cell0 h.c3) (hE.fr0 F0.out))
  have e00 := hid (show undrop d es x = undropAt d es x 0 by unfold undrop; rw [if_pos ht])
  obtain ⟨pa, hpa⟩ : ∃ pa, ptrAt A (baseIx es x.f1) = .pointer pa := by cases baseIx es x.f1 <;> exact ⟨_, rfl⟩
  rw [hpa] at cB
  have ht2 : x.f2.toList.isEmpty = true := by simp [ht]
  have F1 := hid (F0.out.alloc (.cells #[.pointer pa] 294))
  have X1 := hid ((BoxAt.new w x A4 c4 A6 c6).fr ((Fr.refl [] _).alloc (.cells #[.pointer pa] 294)) (by simp))
  have B1 : Hid (x.f2.toList ≠ [] → ∃ g i, ((w.alloc (.cells #[.string x.f0, .string x.f1, .string x.f2, .string x.f3, .slice A4 x.f4.length c4, .int .i64 x.f5, .slice A6 x.f6.length c6] 135)).alloc (.cells #[.pointer pa] 294)).cell? ⟨w.heap.size + 1, 0, none⟩ = some (.pointer (some ⟨g, i, none⟩)) ∧ ((w.alloc (.cells #[.string x.f0, .string x.f1, .string x.f2, .string x.f3, .slice A4 x.f4.length c4, .int .i64 x.f5, .slice A6 x.f6.length c6] 135)).alloc (.cells #[.pointer pa] 294)).cell? ⟨g, i, none⟩ = some (.int .i64 0)) := fun h => absurd ht h
  have cD := hid (dropped_any db tv A c d es w.heap.size (w.heap.size + 1) x 0 _ (H.out.fr0 F1.out) X1.out.b1 X1.out.b2 B1.out)
  clear h hE ht B1 hpa
  cases hD : dropped es (ofDeed x 0) with
  | none =>
    have e0 := hid (show undrop d es x = (6, es) by rw [e00.out]; unfold undropAt; rw [hD])
    rw [hD, ptr_none] at cD
    clear hD
    unfold deedV
    go_enter Tryz.func190, Tryz.ntmps190
    go_wp2_with (first
      | (go_at_call 226; refine cB.out.mono ?_; rintro e w' ⟨rfl, rfl⟩)
      | (go_at_call 230; refine cD.out.mono ?_; rintro e w2 ⟨rfl, f2⟩; have F2 := hid (F1.out.then f2); clear f2))
    all_goals go_ret
    all_goals rw [e0.out]
    all_goals exact Deeded.same H.out F2.out
  | some i =>
    obtain ⟨y, hy⟩ : ∃ y, es[i]? = some y := ⟨_, List.getElem?_eq_getElem (drop_lt hD)⟩
    have hpos := dropped_pos hD hy
    obtain ⟨g, c', eA, hgl⟩ := ents_form H.out.ents hy
    injection eA with eA1 eA2 eA3
    subst eA1
    clear eA3
    rw [hD, ptr_some] at cD
    cases hF : findIx es x.f1 x.f2 with
    | some j =>
      have e0 := hid (show undrop d es x = (5, es) by rw [e00.out]; unfold undropAt; rw [hD]; simp only [hF]; rfl)
      have cF := hid (fun w2 (f : Fr [] w w2) => find_yes db g es.length c es x A4 c4 A6 c6 w2 (f.cell0 H.out.c3) (HE.out.fr0 f) hF)
      clear hD hF
      unfold deedV at cF ⊢
      go_enter Tryz.func190, Tryz.ntmps190
      go_wp2_with (first
        | (go_at_call 226; refine cB.out.mono ?_; rintro e w' ⟨rfl, rfl⟩)
        | (go_at_call 230; refine cD.out.mono ?_; rintro e w2 ⟨rfl, f2⟩; have F2 := hid (F1.out.then f2); obtain ⟨b0, b1, b2, b3, b4, b5, b6⟩ := X1.out.fr f2 (by simp); clear f2)
        | (go_at_call 227; refine (cF.out _ F2.out).mono ?_; rintro e w3 ⟨rfl, f3⟩; have F3 := hid (F2.out.then f3); clear f3))
      all_goals go_ret
      all_goals rw [e0.out]
      all_goals exact Deeded.same H.out F3.out
    | none =>
      have e1 := hid (show undrop d es x = (if wrap64 (atTime d y.f0.f8 + es.foldl (keepStep x y.f0.f0 y.f0.f8) y.f0.f5) < d.time then (9, es) else (0, (setE es i (back1 x)).map (tabs y.f0.f0 (backT x y.f0.f8)))) by
        rw [e00.out]; unfold undropAt; rw [hD]; simp only [hF, List.getD_eq_getElem?_getD, hy, Option.getD_some]; rfl)
      have cF := hid (fun w2 (f : Fr [] w w2) => find_nil db (some ⟨g, 0, none⟩) es.length c es x A4 c4 A6 c6 w2 (f.cell0 H.out.c3) (HE.out.fr0 f) hF)
      have HY := hid hy
      have hgne := H.out.ne g rfl
      clear hD hF hy
      unfold deedV at cF ⊢
      go_enter Tryz.func190, Tryz.ntmps190
      go_wp2_with (first
        | (go_at_call 226; refine cB.out.mono ?_; rintro e w' ⟨rfl, rfl⟩)
        | (go_at_call 230; refine cD.out.mono ?_; rintro e w2 ⟨rfl, f2⟩; have F2 := hid (F1.out.then f2); have X2 := hid (X1.out.fr f2 (by simp)); obtain ⟨b0, b1, b2, b3, b4, b5, b6⟩ := X1.out.fr f2 (by simp); clear f2)
        | (go_at_call 227; refine (cF.out _ F2.out).mono ?_; rintro e w3 ⟨rfl, f3⟩; have F3 := hid (F2.out.then f3); have X3 := hid (X2.out.fr f3 (by simp)); clear f3))
      have D3 := hid (H.out.fr0 F3.out)
      have q0 := (ents_enc D3.out.ents HY.out).id
      have q8 := (ents_enc D3.out.ents HY.out).gone
      have q5 := (ents_enc D3.out.ents HY.out).keep
      have hg3 : g < w3.heap.size := (D3.out.ne g rfl).2
      have hg4 : g ≠ w3.heap.size := by omega
      have hg5 : g ≠ w3.heap.size + 1 := by omega
      have hg6 : g ≠ w3.heap.size + 1 + 1 := by omega
      clear b0 b1 b2 b3 b4 b5 b6
      go_region
      · have F4 := hid (((((Fr.refl [] w3).alloc (.cells #[.int .i64 y.f0.f8] 3)).alloc (.cells #[.int .i64 y.f0.f5] 3)).alloc (.cells #[.func (.func 232) #[] #[.pointer (some ⟨w.heap.size, 0, none⟩), .pointer (some ⟨w3.heap.size, 0, none⟩)]] 300)).drew)
        have D4 := hid (D3.out.fr0 F4.out)
        have X4 := hid (X3.out.fr F4.out (by simp))
        have T3 := hid (three w3 (.int .i64 y.f0.f8) (.int .i64 y.f0.f5) (.func (.func 232) #[] #[.pointer (some ⟨w.heap.size, 0, none⟩), .pointer (some ⟨w3.heap.size, 0, none⟩)]) 3 3 300)
        have hx3 : w.heap.size < w3.heap.size := cell_block X3.out.b0
        have CK := hid (tables_und3k db g es.length c es rfl hs x y.f0.f0 y.f0.f8 y.f0.f5 w.heap.size w3.heap.size (w3.heap.size + 1 + 1) (w3.heap.size + 1) (((w3.alloc (.cells #[.int .i64 y.f0.f8] 3)).alloc (.cells #[.int .i64 y.f0.f5] 3)).alloc (.cells #[.func (.func 232) #[] #[.pointer (some ⟨w.heap.size, 0, none⟩), .pointer (some ⟨w3.heap.size, 0, none⟩)]] 300)).drew D4.out.c3 (fun i y hy => ents_enc D4.out.ents hy) X4.out.b2 (cell_blk T3.out.1) (cell_blk T3.out.2.2) (cell_blk T3.out.2.1) (blk_free T3.out.2.1 0) ⟨by have := D3.out.lt; omega, by omega, by omega, by omega, by omega⟩)
        have q04 : (((w3.alloc (.cells #[.int .i64 y.f0.f8] 3)).alloc (.cells #[.int .i64 y.f0.f5] 3)).alloc (.cells #[.func (.func 232) #[] #[.pointer (some ⟨w.heap.size, 0, none⟩), .pointer (some ⟨w3.heap.size, 0, none⟩)]] 300)).cell? ⟨g, i * 11, none⟩ = some (.int .i64 y.f0.f0) := (ents_enc D4.out.ents HY.out).id
        go_wp2_with fail
        (with_reducible refine CK.out.mono ?_)
        rintro e w5 ⟨rfl, k5, f5⟩
        have K5 := hid k5
        have F5 := hid f5
        clear k5 f5
        have F6 := hid ((Fr.refl [] w3).trans (F4.out.trans F5.out (fun z hz => by simp at hz; subst hz; exact .inr (by simp))) (by simp))
        have D5 := hid (D3.out.fr0 F6.out)
        have X5 := hid (X3.out.fr F6.out (by simp))
        have hG5 := F5.out.cellE (cell_blk T3.out.1) (by simp)
        have hW5 := F5.out.cellE (cell_blk T3.out.2.2) (by simp)
        have hK5 := K5.out
        have c1 := D5.out.c1
        have CA := hid (fun n => (at_any db tv _ d es (w5.drewN n) y.f0.f8 (by omega) (D5.out.fr0 ((Fr.refl [] w5).drewN n))).mono (R' := fun e w' => e = .returned (.int .i64 (atTime d y.f0.f8)) ∧ ∃ m, w' = (w5.drewN n).drewN m) (fun e w' h => ⟨h.1, 0, h.2.symm⟩))
        have hgw : w3.heap.size ≠ g ∧ (w3.heap.size + 1 + 1) ≠ g ∧ w.heap.size ≠ g := ⟨by omega, by omega, by omega⟩
        obtain ⟨kf, hkf⟩ : ∃ kf, es.foldl (keepStep x y.f0.f0 y.f0.f8) y.f0.f5 = kf := ⟨_, rfl⟩
        rw [hkf] at e1 hK5
        obtain ⟨sm, hsm⟩ : ∃ sm, IntKind.i64.wrap (atTime d y.f0.f8 + kf) = sm := ⟨_, rfl⟩
        rw [show wrap64 (atTime d y.f0.f8 + kf) = sm from by rw [← hsm, i64_w]] at e1
        clear hkf CK q04 T3 F4 D4 X4 K5 F5 q0 q8 q5 X3 D3
        generalize hwb : (w3.heap.size + 1 + 1) = wb at hG5 hK5 hW5 hgw
        generalize hkb : w3.heap.size + 1 = kb at hG5 hK5 hW5 hgw
        generalize hgb : w3.heap.size = gb at hG5 hK5 hW5 hgw
        clear hgb hkb hwb hg3 hg4 hg5 hg6
        have F7 := hid (F3.out.then F6.out)
        by_cases hcmp : sm < d.time
        · have e2 := hid (show undrop d es x = (9, es) by rw [e1.out, if_pos hcmp])
          have hcd : decide (sm < d.time) = true := by simp [hcmp]
          clear hcmp
          go_wp2_with fail
          go_quiet ((go_at_call 234; exact Calls.quiet_of (CA.out _)))
          go_wp2
          go_ret
          rw [e2.out]
          exact Deeded.same H.out (F7.out.drewN _)
        · have e2 := hid (show undrop d es x = (0, (setE es i (back1 x)).map (tabs y.f0.f0 (backT x y.f0.f8))) by rw [e1.out, if_neg hcmp])
          have hcd : decide (sm < d.time) = false := by simp [hcmp]
          clear hcmp
          go_wp2_with fail
          go_quiet ((go_at_call 234; exact Calls.quiet_of (CA.out _)))
          generalize hw6 : w5.drewN nq = w6
          have f56 : Fr [] w5 w6 := by rw [← hw6]; exact (Fr.refl [] w5).drewN nq
          have D6 := D5.out.fr0 f56
          obtain ⟨v3, v5, -, hc, hz⟩ := ents_at D6.ents HY.out
          have s8 := hc 8 _ rfl
          have s10 := hc 10 _ rfl
          have s1 := hc 1 _ rfl
          have z8 := hz 8
          have z10 := hz 10
          have z1 := hz 1
          have x1 := f56.cell0 X5.out.b1
          have D7 := hid (back_at D6 HY.out rfl x.f1)
          have G6 := hid (f56.cell0 hG5)
          have W6 := hid (f56.cell0 hW5)
          have X6 := hid (X5.out.fr f56 (by simp))
          have F8 := hid (F7.out.then f56)
          clear hw6 f56 D6 hc hz hG5 hW5 hK5 c1 D5 X5
          go_wp2_with fail
          go_region
          have F9 := hid ((((Fr.refl [g] w6).setCell (p := ⟨g, i * 11 + 8, none⟩) (.inl (by simp)) (.int .i64 0)).setCell (p := ⟨g, i * 11 + 10, none⟩) (.inl (by simp)) (.int .i64 0)).setCell (p := ⟨g, i * 11 + 1, none⟩) (.inl (by simp)) (.string x.f1))
          generalize hw8 : ((w6.setCell ⟨g, i * 11 + 8, none⟩ (.int .i64 0)).setCell ⟨g, i * 11 + 10, none⟩ (.int .i64 0)).setCell ⟨g, i * 11 + 1, none⟩ (.string x.f1) = w8 at D7 F9
          have t0 := (ents_enc D7.out.ents (set_at HY.out _)).id
          have X8 := X6.out.fr F9.out (by simpa using hgw.2.2)
          have CT := hid (tables_und4b w.heap.size gb wb db tv g es.length c d (es.set i (back1 x y)) (by simp) y.f0.f0 x y.f0.f8 w8.drew (D7.out.fr0 (Fr.refl [] _).drew) X8.b1 X8.b2 (F9.out.cellE G6.out (by simpa using hgw.1)) (F9.out.cellE W6.out (by simpa using hgw.2.1)) ⟨hgw.2.2, hgw.1, hgw.2.1⟩)
          clear hw8 s8 s10 s1 z8 z10 z1 x1 X8
          go_wp2_with (go_at_call 228; refine CT.out.mono ?_; rintro e w9 ⟨rfl, d9, f9⟩; have D9 := hid d9; have F10 := hid f9; clear d9 f9)
          go_ret
          rw [e2.out]
          refine ⟨rfl, _, ?_, (F8.out.mono (S' := db :: [g]) (by simp)).trans ((F9.out.drew).then F10.out) (fun z hz => .inl (by simp at hz; simp [hz])), fun k hk => .inl hk⟩
          rw [set_E HY.out]
          exact D9.out
      · have F4 := hid (((((Fr.refl [] w3).alloc (.cells #[.int .i64 y.f0.f5] 3)).alloc (.cells #[.int .i64 y.f0.f8] 3)).alloc (.cells #[.func (.func 232) #[] #[.pointer (some ⟨w.heap.size, 0, none⟩), .pointer (some ⟨(w3.heap.size + 1), 0, none⟩)]] 300)).drew)
        have D4 := hid (D3.out.fr0 F4.out)
        have X4 := hid (X3.out.fr F4.out (by simp))
        have T3 := hid (three w3 (.int .i64 y.f0.f5) (.int .i64 y.f0.f8) (.func (.func 232) #[] #[.pointer (some ⟨w.heap.size, 0, none⟩), .pointer (some ⟨(w3.heap.size + 1), 0, none⟩)]) 3 3 300)
        have hx3 : w.heap.size < w3.heap.size := cell_block X3.out.b0
        have CK := hid (tables_und3k db g es.length c es rfl hs x y.f0.f0 y.f0.f8 y.f0.f5 w.heap.size (w3.heap.size + 1) (w3.heap.size + 1 + 1) w3.heap.size (((w3.alloc (.cells #[.int .i64 y.f0.f5] 3)).alloc (.cells #[.int .i64 y.f0.f8] 3)).alloc (.cells #[.func (.func 232) #[] #[.pointer (some ⟨w.heap.size, 0, none⟩), .pointer (some ⟨(w3.heap.size + 1), 0, none⟩)]] 300)).drew D4.out.c3 (fun i y hy => ents_enc D4.out.ents hy) X4.out.b2 (cell_blk T3.out.2.1) (cell_blk T3.out.2.2) (cell_blk T3.out.1) (blk_free T3.out.1 0) ⟨by have := D3.out.lt; omega, by omega, by omega, by omega, by omega⟩)
        have q04 : (((w3.alloc (.cells #[.int .i64 y.f0.f5] 3)).alloc (.cells #[.int .i64 y.f0.f8] 3)).alloc (.cells #[.func (.func 232) #[] #[.pointer (some ⟨w.heap.size, 0, none⟩), .pointer (some ⟨(w3.heap.size + 1), 0, none⟩)]] 300)).cell? ⟨g, i * 11, none⟩ = some (.int .i64 y.f0.f0) := (ents_enc D4.out.ents HY.out).id
        go_wp2_with fail
        (with_reducible refine CK.out.mono ?_)
        rintro e w5 ⟨rfl, k5, f5⟩
        have K5 := hid k5
        have F5 := hid f5
        clear k5 f5
        have F6 := hid ((Fr.refl [] w3).trans (F4.out.trans F5.out (fun z hz => by simp at hz; subst hz; exact .inr (by simp))) (by simp))
        have D5 := hid (D3.out.fr0 F6.out)
        have X5 := hid (X3.out.fr F6.out (by simp))
        have hG5 := F5.out.cellE (cell_blk T3.out.2.1) (by simp)
        have hW5 := F5.out.cellE (cell_blk T3.out.2.2) (by simp)
        have hK5 := K5.out
        have c1 := D5.out.c1
        have CA := hid (fun n => (at_any db tv _ d es (w5.drewN n) y.f0.f8 (by omega) (D5.out.fr0 ((Fr.refl [] w5).drewN n))).mono (R' := fun e w' => e = .returned (.int .i64 (atTime d y.f0.f8)) ∧ ∃ m, w' = (w5.drewN n).drewN m) (fun e w' h => ⟨h.1, 0, h.2.symm⟩))
        have hgw : (w3.heap.size + 1) ≠ g ∧ (w3.heap.size + 1 + 1) ≠ g ∧ w.heap.size ≠ g := ⟨by omega, by omega, by omega⟩
        obtain ⟨kf, hkf⟩ : ∃ kf, es.foldl (keepStep x y.f0.f0 y.f0.f8) y.f0.f5 = kf := ⟨_, rfl⟩
        rw [hkf] at e1 hK5
        obtain ⟨sm, hsm⟩ : ∃ sm, IntKind.i64.wrap (atTime d y.f0.f8 + kf) = sm := ⟨_, rfl⟩
        rw [show wrap64 (atTime d y.f0.f8 + kf) = sm from by rw [← hsm, i64_w]] at e1
        clear hkf CK q04 T3 F4 D4 X4 K5 F5 q0 q8 q5 X3 D3
        generalize hwb : (w3.heap.size + 1 + 1) = wb at hG5 hK5 hW5 hgw
        generalize hgb : w3.heap.size + 1 = gb at hG5 hK5 hW5 hgw
        generalize hkb : w3.heap.size = kb at hG5 hK5 hW5 hgw
        clear hgb hkb hwb hg3 hg4 hg5 hg6
        have F7 := hid (F3.out.then F6.out)
        by_cases hcmp : sm < d.time
        · have e2 := hid (show undrop d es x = (9, es) by rw [e1.out, if_pos hcmp])
          have hcd : decide (sm < d.time) = true := by simp [hcmp]
          clear hcmp
          go_wp2_with fail
          go_quiet ((go_at_call 234; exact Calls.quiet_of (CA.out _)))
          go_wp2
          go_ret
          rw [e2.out]
          exact Deeded.same H.out (F7.out.drewN _)
        · have e2 := hid (show undrop d es x = (0, (setE es i (back1 x)).map (tabs y.f0.f0 (backT x y.f0.f8))) by rw [e1.out, if_neg hcmp])
          have hcd : decide (sm < d.time) = false := by simp [hcmp]
          clear hcmp
          go_wp2_with fail
          go_quiet ((go_at_call 234; exact Calls.quiet_of (CA.out _)))
          generalize hw6 : w5.drewN nq = w6
          have f56 : Fr [] w5 w6 := by rw [← hw6]; exact (Fr.refl [] w5).drewN nq
          have D6 := D5.out.fr0 f56
          obtain ⟨v3, v5, -, hc, hz⟩ := ents_at D6.ents HY.out
          have s8 := hc 8 _ rfl
          have s10 := hc 10 _ rfl
          have s1 := hc 1 _ rfl
          have z8 := hz 8
          have z10 := hz 10
          have z1 := hz 1
          have x1 := f56.cell0 X5.out.b1
          have D7 := hid (back_at D6 HY.out rfl x.f1)
          have G6 := hid (f56.cell0 hG5)
          have W6 := hid (f56.cell0 hW5)
          have X6 := hid (X5.out.fr f56 (by simp))
          have F8 := hid (F7.out.then f56)
          clear hw6 f56 D6 hc hz hG5 hW5 hK5 c1 D5 X5
          go_wp2_with fail
          go_region
          have F9 := hid ((((Fr.refl [g] w6).setCell (p := ⟨g, i * 11 + 8, none⟩) (.inl (by simp)) (.int .i64 0)).setCell (p := ⟨g, i * 11 + 10, none⟩) (.inl (by simp)) (.int .i64 0)).setCell (p := ⟨g, i * 11 + 1, none⟩) (.inl (by simp)) (.string x.f1))
          generalize hw8 : ((w6.setCell ⟨g, i * 11 + 8, none⟩ (.int .i64 0)).setCell ⟨g, i * 11 + 10, none⟩ (.int .i64 0)).setCell ⟨g, i * 11 + 1, none⟩ (.string x.f1) = w8 at D7 F9
          have t0 := (ents_enc D7.out.ents (set_at HY.out _)).id
          have X8 := X6.out.fr F9.out (by simpa using hgw.2.2)
          have CT := hid (tables_und4b w.heap.size gb wb db tv g es.length c d (es.set i (back1 x y)) (by simp) y.f0.f0 x y.f0.f8 w8.drew (D7.out.fr0 (Fr.refl [] _).drew) X8.b1 X8.b2 (F9.out.cellE G6.out (by simpa using hgw.1)) (F9.out.cellE W6.out (by simpa using hgw.2.1)) ⟨hgw.2.2, hgw.1, hgw.2.1⟩)
          clear hw8 s8 s10 s1 z8 z10 z1 x1 X8
          go_wp2_with (go_at_call 228; refine CT.out.mono ?_; rintro e w9 ⟨rfl, d9, f9⟩; have D9 := hid d9; have F10 := hid f9; clear d9 f9)
          go_ret
          rw [e2.out]
          refine ⟨rfl, _, ?_, (F8.out.mono (S' := db :: [g]) (by simp)).trans ((F9.out.drew).then F10.out) (fun z hz => .inl (by simp at hz; simp [hz])), fun k hk => .inl hk⟩
          rw [set_E HY.out]
          exact D9.out
set_option maxRecDepth 100000 in
set_option maxHeartbeats 4000000 in
theorem undrop_table (db : Nat) (tv ev : Value) (d : Dr) (es : List EN) (x : DE) (A4 : Option Addr) (c4 : Nat) (A6 : Option Addr) (c6 : Nat) (w : World) (h : DraftAt w db tv ev d es) (ht : x.f2.toList ≠ []) (b : Nat) (hb : baseIx es x.f1 = some b) :
    Calls Tryz.prog 190 #[.pointer (some ⟨db, 0, none⟩), deedV x A4 c4 A6 c6] w (Deeded db tv ev d (undrop d es x) w) := by
  obtain ⟨A, c, rfl, hE⟩ := h.open
  obtain ⟨yb, hyb⟩ : ∃ y, es[b]? = some y := ⟨_, List.getElem?_eq_getElem (base_lt hb)⟩
  obtain ⟨g, c', eA, hgl⟩ := ents_form h.ents hyb
  injection eA with eA1 eA2 eA3
  subst eA1
  have hidb : idOf es b = yb.f0.f0 := by simp [idOf, List.getD_eq_getElem?_getD, hyb]
  have F0 := hid ((Fr.refl [] w).alloc (.cells #[.string x.f0, .string x.f1, .string x.f2, .string x.f3, .slice A4 x.f4.length c4, .int .i64 x.f5, .slice A6 x.f6.length c6] 135))
  have H := hid h
  have HE := hid hE
  have hs := h.small
  have hdl := h.lt
  have cB := hid (base_any db (some ⟨g, 0, none⟩) es.length c es x.f1 _ (F0.out.cell0 h.c3) (hE.fr0 F0.out))
  have e00 := hid (show undrop d es x = undropAt d es x yb.f0.f0 by unfold undrop; rw [if_neg ht, hb]; simp only [hidb])
  rw [hb, ptr_some] at cB
  have ht2 : x.f2.toList.isEmpty = false := by simpa using ht
  have HYB := hid hyb
  have F1 := hid (F0.out.alloc (.cells #[.pointer (some ⟨g, b * 11, none⟩)] 294))
  have X1 := hid ((BoxAt.new w x A4 c4 A6 c6).fr ((Fr.refl [] _).alloc (.cells #[.pointer (some ⟨g, b * 11, none⟩)] 294)) (by simp))
  have B1 : Hid (x.f2.toList ≠ [] → ∃ g' i, ((w.alloc (.cells #[.string x.f0, .string x.f1, .string x.f2, .string x.f3, .slice A4 x.f4.length c4, .int .i64 x.f5, .slice A6 x.f6.length c6] 135)).alloc (.cells #[.pointer (some ⟨g, b * 11, none⟩)] 294)).cell? ⟨w.heap.size + 1, 0, none⟩ = some (.pointer (some ⟨g', i, none⟩)) ∧ ((w.alloc (.cells #[.string x.f0, .string x.f1, .string x.f2, .string x.f3, .slice A4 x.f4.length c4, .int .i64 x.f5, .slice A6 x.f6.length c6] 135)).alloc (.cells #[.pointer (some ⟨g, b * 11, none⟩)] 294)).cell? ⟨g', i, none⟩ = some (.int .i64 yb.f0.f0)) := fun _ =>
    ⟨g, b * 11, by simp, F1.out.cell0 (ents_enc H.out.ents HYB.out).id⟩
  have cD := hid (dropped_any db tv (some ⟨g, 0, none⟩) c d es w.heap.size (w.heap.size + 1) x yb.f0.f0 _ (H.out.fr0 F1.out) X1.out.b1 X1.out.b2 B1.out)
  clear h hE ht B1 hb hyb eA3 hidb
  cases hD : dropped es (ofDeed x yb.f0.f0) with
  | none =>
    have e0 := hid (show undrop d es x = (6, es) by rw [e00.out]; unfold undropAt; rw [hD])
    rw [hD, ptr_none] at cD
    clear hD
    unfold deedV
    go_enter Tryz.func190, Tryz.ntmps190
    go_wp2_with (first
      | (go_at_call 226; refine cB.out.mono ?_; rintro e w' ⟨rfl, rfl⟩)
      | (go_at_call 230; refine cD.out.mono ?_; rintro e w2 ⟨rfl, f2⟩; have F2 := hid (F1.out.then f2); clear f2))
    all_goals go_ret
    all_goals rw [e0.out]
    all_goals exact Deeded.same H.out F2.out
  | some i =>
    obtain ⟨y, hy⟩ : ∃ y, es[i]? = some y := ⟨_, List.getElem?_eq_getElem (drop_lt hD)⟩
    have hpos := dropped_pos hD hy
    rw [hD, ptr_some] at cD
    cases hF : findIx es x.f1 x.f2 with
    | some j =>
      have e0 := hid (show undrop d es x = (5, es) by rw [e00.out]; unfold undropAt; rw [hD]; simp only [hF]; rfl)
      have cF := hid (fun w2 (f : Fr [] w w2) => find_yes db g es.length c es x A4 c4 A6 c6 w2 (f.cell0 H.out.c3) (HE.out.fr0 f) hF)
      clear hD hF
      unfold deedV at cF ⊢
      go_enter Tryz.func190, Tryz.ntmps190
      go_wp2_with (first
        | (go_at_call 226; refine cB.out.mono ?_; rintro e w' ⟨rfl, rfl⟩)
        | (go_at_call 230; refine cD.out.mono ?_; rintro e w2 ⟨rfl, f2⟩; have F2 := hid (F1.out.then f2); obtain ⟨b0, b1, b2, b3, b4, b5, b6⟩ := X1.out.fr f2 (by simp); clear f2)
        | (go_at_call 227; refine (cF.out _ F2.out).mono ?_; rintro e w3 ⟨rfl, f3⟩; have F3 := hid (F2.out.then f3); clear f3))
      all_goals go_ret
      all_goals rw [e0.out]
      all_goals exact Deeded.same H.out F3.out
    | none =>
      have e1 := hid (show undrop d es x = (if wrap64 (atTime d y.f0.f8 + es.foldl (keepStep x y.f0.f0 y.f0.f8) y.f0.f5) < d.time then (9, es) else (0, (setE es i (back1 x)).map (tabs y.f0.f0 (backT x y.f0.f8)))) by
        rw [e00.out]; unfold undropAt; rw [hD]; simp only [hF, List.getD_eq_getElem?_getD, hy, Option.getD_some]; rfl)
      have cF := hid (fun w2 (f : Fr [] w w2) => find_nil db (some ⟨g, 0, none⟩) es.length c es x A4 c4 A6 c6 w2 (f.cell0 H.out.c3) (HE.out.fr0 f) hF)
      have HY := hid hy
      have hgne := H.out.ne g rfl
      clear hD hF hy
      unfold deedV at cF ⊢
      go_enter Tryz.func190, Tryz.ntmps190
      go_wp2_with (first
        | (go_at_call 226; refine cB.out.mono ?_; rintro e w' ⟨rfl, rfl⟩)
        | (go_at_call 230; refine cD.out.mono ?_; rintro e w2 ⟨rfl, f2⟩; have F2 := hid (F1.out.then f2); have X2 := hid (X1.out.fr f2 (by simp)); obtain ⟨b0, b1, b2, b3, b4, b5, b6⟩ := X1.out.fr f2 (by simp); clear f2)
        | (go_at_call 227; refine (cF.out _ F2.out).mono ?_; rintro e w3 ⟨rfl, f3⟩; have F3 := hid (F2.out.then f3); have X3 := hid (X2.out.fr f3 (by simp)); clear f3))
      have D3 := hid (H.out.fr0 F3.out)
      have q0 := (ents_enc D3.out.ents HY.out).id
      have q8 := (ents_enc D3.out.ents HY.out).gone
      have q5 := (ents_enc D3.out.ents HY.out).keep
      have hg3 : g < w3.heap.size := (D3.out.ne g rfl).2
      have hg4 : g ≠ w3.heap.size := by omega
      have hg5 : g ≠ w3.heap.size + 1 := by omega
      have hg6 : g ≠ w3.heap.size + 1 + 1 := by omega
      clear b0 b1 b2 b3 b4 b5 b6
      go_region
      · have F4 := hid (((((Fr.refl [] w3).alloc (.cells #[.int .i64 y.f0.f8] 3)).alloc (.cells #[.int .i64 y.f0.f5] 3)).alloc (.cells #[.func (.func 232) #[] #[.pointer (some ⟨w.heap.size, 0, none⟩), .pointer (some ⟨w3.heap.size, 0, none⟩)]] 300)).drew)
        have D4 := hid (D3.out.fr0 F4.out)
        have X4 := hid (X3.out.fr F4.out (by simp))
        have T3 := hid (three w3 (.int .i64 y.f0.f8) (.int .i64 y.f0.f5) (.func (.func 232) #[] #[.pointer (some ⟨w.heap.size, 0, none⟩), .pointer (some ⟨w3.heap.size, 0, none⟩)]) 3 3 300)
        have hx3 : w.heap.size < w3.heap.size := cell_block X3.out.b0
        have CK := hid (tables_und3k db g es.length c es rfl hs x y.f0.f0 y.f0.f8 y.f0.f5 w.heap.size w3.heap.size (w3.heap.size + 1 + 1) (w3.heap.size + 1) (((w3.alloc (.cells #[.int .i64 y.f0.f8] 3)).alloc (.cells #[.int .i64 y.f0.f5] 3)).alloc (.cells #[.func (.func 232) #[] #[.pointer (some ⟨w.heap.size, 0, none⟩), .pointer (some ⟨w3.heap.size, 0, none⟩)]] 300)).drew D4.out.c3 (fun i y hy => ents_enc D4.out.ents hy) X4.out.b2 (cell_blk T3.out.1) (cell_blk T3.out.2.2) (cell_blk T3.out.2.1) (blk_free T3.out.2.1 0) ⟨by have := D3.out.lt; omega, by omega, by omega, by omega, by omega⟩)
        have q04 : (((w3.alloc (.cells #[.int .i64 y.f0.f8] 3)).alloc (.cells #[.int .i64 y.f0.f5] 3)).alloc (.cells #[.func (.func 232) #[] #[.pointer (some ⟨w.heap.size, 0, none⟩), .pointer (some ⟨w3.heap.size, 0, none⟩)]] 300)).cell? ⟨g, i * 11, none⟩ = some (.int .i64 y.f0.f0) := (ents_enc D4.out.ents HY.out).id
        go_wp2_with fail
        (with_reducible refine CK.out.mono ?_)
        rintro e w5 ⟨rfl, k5, f5⟩
        have K5 := hid k5
        have F5 := hid f5
        clear k5 f5
        have F6 := hid ((Fr.refl [] w3).trans (F4.out.trans F5.out (fun z hz => by simp at hz; subst hz; exact .inr (by simp))) (by simp))
        have D5 := hid (D3.out.fr0 F6.out)
        have X5 := hid (X3.out.fr F6.out (by simp))
        have hG5 := F5.out.cellE (cell_blk T3.out.1) (by simp)
        have hW5 := F5.out.cellE (cell_blk T3.out.2.2) (by simp)
        have hK5 := K5.out
        have c1 := D5.out.c1
        have CA := hid (fun n => (at_any db tv _ d es (w5.drewN n) y.f0.f8 (by omega) (D5.out.fr0 ((Fr.refl [] w5).drewN n))).mono (R' := fun e w' => e = .returned (.int .i64 (atTime d y.f0.f8)) ∧ ∃ m, w' = (w5.drewN n).drewN m) (fun e w' h => ⟨h.1, 0, h.2.symm⟩))
        have hgw : w3.heap.size ≠ g ∧ (w3.heap.size + 1 + 1) ≠ g ∧ w.heap.size ≠ g := ⟨by omega, by omega, by omega⟩
        obtain ⟨kf, hkf⟩ : ∃ kf, es.foldl (keepStep x y.f0.f0 y.f0.f8) y.f0.f5 = kf := ⟨_, rfl⟩
        rw [hkf] at e1 hK5
        obtain ⟨sm, hsm⟩ : ∃ sm, IntKind.i64.wrap (atTime d y.f0.f8 + kf) = sm := ⟨_, rfl⟩
        rw [show wrap64 (atTime d y.f0.f8 + kf) = sm from by rw [← hsm, i64_w]] at e1
        clear hkf CK q04 T3 F4 D4 X4 K5 F5 q0 q8 q5 X3 D3
        generalize hwb : (w3.heap.size + 1 + 1) = wb at hG5 hK5 hW5 hgw
        generalize hkb : w3.heap.size + 1 = kb at hG5 hK5 hW5 hgw
        generalize hgb : w3.heap.size = gb at hG5 hK5 hW5 hgw
        clear hgb hkb hwb hg3 hg4 hg5 hg6
        have F7 := hid (F3.out.then F6.out)
        by_cases hcmp : sm < d.time
        · have e2 := hid (show undrop d es x = (9, es) by rw [e1.out, if_pos hcmp])
          have hcd : decide (sm < d.time) = true := by simp [hcmp]
          clear hcmp
          go_wp2_with fail
          go_quiet ((go_at_call 234; exact Calls.quiet_of (CA.out _)))
          go_wp2
          go_ret
          rw [e2.out]
          exact Deeded.same H.out (F7.out.drewN _)
        · have e2 := hid (show undrop d es x = (0, (setE es i (back1 x)).map (tabs y.f0.f0 (backT x y.f0.f8))) by rw [e1.out, if_neg hcmp])
          have hcd : decide (sm < d.time) = false := by simp [hcmp]
          clear hcmp
          go_wp2_with fail
          go_quiet ((go_at_call 234; exact Calls.quiet_of (CA.out _)))
          generalize hw6 : w5.drewN nq = w6
          have f56 : Fr [] w5 w6 := by rw [← hw6]; exact (Fr.refl [] w5).drewN nq
          have D6 := D5.out.fr0 f56
          obtain ⟨v3, v5, -, hc, hz⟩ := ents_at D6.ents HY.out
          have s8 := hc 8 _ rfl
          have s10 := hc 10 _ rfl
          have s1 := hc 1 _ rfl
          have z8 := hz 8
          have z10 := hz 10
          have z1 := hz 1
          have x1 := f56.cell0 X5.out.b1
          have D7 := hid (back_at D6 HY.out rfl x.f1)
          have G6 := hid (f56.cell0 hG5)
          have W6 := hid (f56.cell0 hW5)
          have X6 := hid (X5.out.fr f56 (by simp))
          have F8 := hid (F7.out.then f56)
          clear hw6 f56 D6 hc hz hG5 hW5 hK5 c1 D5 X5
          go_wp2_with fail
          go_region
          have F9 := hid ((((Fr.refl [g] w6).setCell (p := ⟨g, i * 11 + 8, none⟩) (.inl (by simp)) (.int .i64 0)).setCell (p := ⟨g, i * 11 + 10, none⟩) (.inl (by simp)) (.int .i64 0)).setCell (p := ⟨g, i * 11 + 1, none⟩) (.inl (by simp)) (.string x.f1))
          generalize hw8 : ((w6.setCell ⟨g, i * 11 + 8, none⟩ (.int .i64 0)).setCell ⟨g, i * 11 + 10, none⟩ (.int .i64 0)).setCell ⟨g, i * 11 + 1, none⟩ (.string x.f1) = w8 at D7 F9
          have t0 := (ents_enc D7.out.ents (set_at HY.out _)).id
          have X8 := X6.out.fr F9.out (by simpa using hgw.2.2)
          have CT := hid (tables_und4b w.heap.size gb wb db tv g es.length c d (es.set i (back1 x y)) (by simp) y.f0.f0 x y.f0.f8 w8.drew (D7.out.fr0 (Fr.refl [] _).drew) X8.b1 X8.b2 (F9.out.cellE G6.out (by simpa using hgw.1)) (F9.out.cellE W6.out (by simpa using hgw.2.1)) ⟨hgw.2.2, hgw.1, hgw.2.1⟩)
          clear hw8 s8 s10 s1 z8 z10 z1 x1 X8
          go_wp2_with (go_at_call 228; refine CT.out.mono ?_; rintro e w9 ⟨rfl, d9, f9⟩; have D9 := hid d9; have F10 := hid f9; clear d9 f9)
          go_ret
          rw [e2.out]
          refine ⟨rfl, _, ?_, (F8.out.mono (S' := db :: [g]) (by simp)).trans ((F9.out.drew).then F10.out) (fun z hz => .inl (by simp at hz; simp [hz])), fun k hk => .inl hk⟩
          rw [set_E HY.out]
          exact D9.out
      · have F4 := hid (((((Fr.refl [] w3).alloc (.cells #[.int .i64 y.f0.f5] 3)).alloc (.cells #[.int .i64 y.f0.f8] 3)).alloc (.cells #[.func (.func 232) #[] #[.pointer (some ⟨w.heap.size, 0, none⟩), .pointer (some ⟨(w3.heap.size + 1), 0, none⟩)]] 300)).drew)
        have D4 := hid (D3.out.fr0 F4.out)
        have X4 := hid (X3.out.fr F4.out (by simp))
        have T3 := hid (three w3 (.int .i64 y.f0.f5) (.int .i64 y.f0.f8) (.func (.func 232) #[] #[.pointer (some ⟨w.heap.size, 0, none⟩), .pointer (some ⟨(w3.heap.size + 1), 0, none⟩)]) 3 3 300)
        have hx3 : w.heap.size < w3.heap.size := cell_block X3.out.b0
        have CK := hid (tables_und3k db g es.length c es rfl hs x y.f0.f0 y.f0.f8 y.f0.f5 w.heap.size (w3.heap.size + 1) (w3.heap.size + 1 + 1) w3.heap.size (((w3.alloc (.cells #[.int .i64 y.f0.f5] 3)).alloc (.cells #[.int .i64 y.f0.f8] 3)).alloc (.cells #[.func (.func 232) #[] #[.pointer (some ⟨w.heap.size, 0, none⟩), .pointer (some ⟨(w3.heap.size + 1), 0, none⟩)]] 300)).drew D4.out.c3 (fun i y hy => ents_enc D4.out.ents hy) X4.out.b2 (cell_blk T3.out.2.1) (cell_blk T3.out.2.2) (cell_blk T3.out.1) (blk_free T3.out.1 0) ⟨by have := D3.out.lt; omega, by omega, by omega, by omega, by omega⟩)
        have q04 : (((w3.alloc (.cells #[.int .i64 y.f0.f5] 3)).alloc (.cells #[.int .i64 y.f0.f8] 3)).alloc (.cells #[.func (.func 232) #[] #[.pointer (some ⟨w.heap.size, 0, none⟩), .pointer (some ⟨(w3.heap.size + 1), 0, none⟩)]] 300)).cell? ⟨g, i * 11, none⟩ = some (.int .i64 y.f0.f0) := (ents_enc D4.out.ents HY.out).id
        go_wp2_with fail
        (with_reducible refine CK.out.mono ?_)
        rintro e w5 ⟨rfl, k5, f5⟩
        have K5 := hid k5
        have F5 := hid f5
        clear k5 f5
        have F6 := hid ((Fr.refl [] w3).trans (F4.out.trans F5.out (fun z hz => by simp at hz; subst hz; exact .inr (by simp))) (by simp))
        have D5 := hid (D3.out.fr0 F6.out)
        have X5 := hid (X3.out.fr F6.out (by simp))
        have hG5 := F5.out.cellE (cell_blk T3.out.2.1) (by simp)
        have hW5 := F5.out.cellE (cell_blk T3.out.2.2) (by simp)
        have hK5 := K5.out
        have c1 := D5.out.c1
        have CA := hid (fun n => (at_any db tv _ d es (w5.drewN n) y.f0.f8 (by omega) (D5.out.fr0 ((Fr.refl [] w5).drewN n))).mono (R' := fun e w' => e = .returned (.int .i64 (atTime d y.f0.f8)) ∧ ∃ m, w' = (w5.drewN n).drewN m) (fun e w' h => ⟨h.1, 0, h.2.symm⟩))
        have hgw : (w3.heap.size + 1) ≠ g ∧ (w3.heap.size + 1 + 1) ≠ g ∧ w.heap.size ≠ g := ⟨by omega, by omega, by omega⟩
        obtain ⟨kf, hkf⟩ : ∃ kf, es.foldl (keepStep x y.f0.f0 y.f0.f8) y.f0.f5 = kf := ⟨_, rfl⟩
        rw [hkf] at e1 hK5
        obtain ⟨sm, hsm⟩ : ∃ sm, IntKind.i64.wrap (atTime d y.f0.f8 + kf) = sm := ⟨_, rfl⟩
        rw [show wrap64 (atTime d y.f0.f8 + kf) = sm from by rw [← hsm, i64_w]] at e1
        clear hkf CK q04 T3 F4 D4 X4 K5 F5 q0 q8 q5 X3 D3
        generalize hwb : (w3.heap.size + 1 + 1) = wb at hG5 hK5 hW5 hgw
        generalize hgb : w3.heap.size + 1 = gb at hG5 hK5 hW5 hgw
        generalize hkb : w3.heap.size = kb at hG5 hK5 hW5 hgw
        clear hgb hkb hwb hg3 hg4 hg5 hg6
        have F7 := hid (F3.out.then F6.out)
        by_cases hcmp : sm < d.time
        · have e2 := hid (show undrop d es x = (9, es) by rw [e1.out, if_pos hcmp])
          have hcd : decide (sm < d.time) = true := by simp [hcmp]
          clear hcmp
          go_wp2_with fail
          go_quiet ((go_at_call 234; exact Calls.quiet_of (CA.out _)))
          go_wp2
          go_ret
          rw [e2.out]
          exact Deeded.same H.out (F7.out.drewN _)
        · have e2 := hid (show undrop d es x = (0, (setE es i (back1 x)).map (tabs y.f0.f0 (backT x y.f0.f8))) by rw [e1.out, if_neg hcmp])
          have hcd : decide (sm < d.time) = false := by simp [hcmp]
          clear hcmp
          go_wp2_with fail
          go_quiet ((go_at_call 234; exact Calls.quiet_of (CA.out _)))
          generalize hw6 : w5.drewN nq = w6
          have f56 : Fr [] w5 w6 := by rw [← hw6]; exact (Fr.refl [] w5).drewN nq
          have D6 := D5.out.fr0 f56
          obtain ⟨v3, v5, -, hc, hz⟩ := ents_at D6.ents HY.out
          have s8 := hc 8 _ rfl
          have s10 := hc 10 _ rfl
          have s1 := hc 1 _ rfl
          have z8 := hz 8
          have z10 := hz 10
          have z1 := hz 1
          have x1 := f56.cell0 X5.out.b1
          have D7 := hid (back_at D6 HY.out rfl x.f1)
          have G6 := hid (f56.cell0 hG5)
          have W6 := hid (f56.cell0 hW5)
          have X6 := hid (X5.out.fr f56 (by simp))
          have F8 := hid (F7.out.then f56)
          clear hw6 f56 D6 hc hz hG5 hW5 hK5 c1 D5 X5
          go_wp2_with fail
          go_region
          have F9 := hid ((((Fr.refl [g] w6).setCell (p := ⟨g, i * 11 + 8, none⟩) (.inl (by simp)) (.int .i64 0)).setCell (p := ⟨g, i * 11 + 10, none⟩) (.inl (by simp)) (.int .i64 0)).setCell (p := ⟨g, i * 11 + 1, none⟩) (.inl (by simp)) (.string x.f1))
          generalize hw8 : ((w6.setCell ⟨g, i * 11 + 8, none⟩ (.int .i64 0)).setCell ⟨g, i * 11 + 10, none⟩ (.int .i64 0)).setCell ⟨g, i * 11 + 1, none⟩ (.string x.f1) = w8 at D7 F9
          have t0 := (ents_enc D7.out.ents (set_at HY.out _)).id
          have X8 := X6.out.fr F9.out (by simpa using hgw.2.2)
          have CT := hid (tables_und4b w.heap.size gb wb db tv g es.length c d (es.set i (back1 x y)) (by simp) y.f0.f0 x y.f0.f8 w8.drew (D7.out.fr0 (Fr.refl [] _).drew) X8.b1 X8.b2 (F9.out.cellE G6.out (by simpa using hgw.1)) (F9.out.cellE W6.out (by simpa using hgw.2.1)) ⟨hgw.2.2, hgw.1, hgw.2.1⟩)
          clear hw8 s8 s10 s1 z8 z10 z1 x1 X8
          go_wp2_with (go_at_call 228; refine CT.out.mono ?_; rintro e w9 ⟨rfl, d9, f9⟩; have D9 := hid d9; have F10 := hid f9; clear d9 f9)
          go_ret
          rw [e2.out]
          refine ⟨rfl, _, ?_, (F8.out.mono (S' := db :: [g]) (by simp)).trans ((F9.out.drew).then F10.out) (fun z hz => .inl (by simp at hz; simp [hz])), fun k hk => .inl hk⟩
          rw [set_E HY.out]
          exact D9.out
theorem undrop_any (db : Nat) (tv ev : Value) (d : Dr) (es : List EN) (x : DE) (A4 : Option Addr) (c4 : Nat) (A6 : Option Addr) (c6 : Nat) (w : World) (h : DraftAt w db tv ev d es) :
    Calls Tryz.prog 190 #[.pointer (some ⟨db, 0, none⟩), deedV x A4 c4 A6 c6] w (Deeded db tv ev d (undrop d es x) w) := by
  by_cases ht : x.f2.toList = []
  · exact undrop_base db tv ev d es x A4 c4 A6 c6 w h ht
  · cases hb : baseIx es x.f1 with
    | none => exact undrop_4 db tv ev d es x A4 c4 A6 c6 w h ht hb
    | some b => exact undrop_table db tv ev d es x A4 c4 A6 c6 w h ht b hb
end Go.Proofs.YtkolnoadeihmoaaGreat
