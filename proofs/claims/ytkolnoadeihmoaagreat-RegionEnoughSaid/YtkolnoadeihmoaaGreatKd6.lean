/-
  Catalog: drop.
  Catalog: rename.
  Catalog: swap.
  Catalog: the parts of undrop: at, the closures.
  Catalog: what was dropped last.
-/
import Derived.StillTailTactics
import Derived.BigRegion
import Derived.Test.YtkolnoadeihmoaaGreatKd5
namespace Go.Proofs.YtkolnoadeihmoaaGreat
open Go.RowKit Go.Proofs.YtkolnoadeihmoaaGreatW.PrintWords
theorem set_same {es : List EN} {i : Nat} {y : EN} (hy : es[i]? = some y) : es.set i y = es := by
  apply List.ext_getElem?
  intro j
  by_cases hj : j = i
  · subst hj; rw [hy, List.getElem?_set_self (List.getElem?_eq_some_iff.1 hy).1]
  · rw [List.getElem?_set_ne (by omega)]
def Changed (db : Nat) (tv : Value) (g n c : Nat) (d : Dr) (es : List EN) (w : World) (e : Ending) (w' : World) : Prop :=
  e = .returned (.tuple #[]) ∧ DraftAt w' db tv (.slice (some ⟨g, 0, none⟩) n c) d es ∧ Fr [g] w w'
set_option maxRecDepth 100000 in
theorem drop1_any (pb db : Nat) (tv : Value) (g c : Nat) (d : Dr) (es : List EN) (k : Nat) (y : EN) (w : World) (D : DraftAt w db tv (.slice (some ⟨g, 0, none⟩) es.length c) d es) (hy : es[k]? = some y) (hb : w.cell? ⟨pb, 0, none⟩ = some (.pointer (some ⟨db, 0, none⟩))) :
    Calls Tryz.prog 229 #[.pointer (some ⟨g, k * 11, none⟩), .pointer (some ⟨pb, 0, none⟩)] w (Changed db tv g es.length c d (es.set k (goneT d.commit y)) w) := by
  obtain ⟨v3, v4, -, hc, hz⟩ := ents_at D.ents hy
  have q8 := hc 8 _ rfl
  by_cases h0 : y.f0.f8 = 0
  · have e0 : Hid (goneT d.commit y = ⟨{ y.f0 with f8 := d.commit }, y.f1, d.commit⟩) := by unfold goneT; exact if_pos h0
    have q8b : (y.f0.f8 == 0) = true := by simp [h0]
    have c0 := D.c0
    have z8 := hz 8
    have z10 := hz 10
    have q10 := hc 10 _ rfl
    have HD : Hid (DraftAt ((w.setCell ⟨g, k * 11 + 8, none⟩ (.int .i64 d.commit)).setCell ⟨g, k * 11 + 10, none⟩ (.int .i64 d.commit)) db tv (.slice (some ⟨g, 0, none⟩) es.length c) d (es.set k ⟨{ y.f0 with f8 := d.commit }, y.f1, d.commit⟩)) := by
      have h1 := D.setGone hy d.commit
      rw [show es.length = (es.set k ⟨{ y.f0 with f8 := d.commit }, y.f1, y.f2⟩).length by simp] at h1
      have h2 := h1.setWith (set_at hy _) d.commit
      rw [List.set_set, List.length_set] at h2
      exact h2
    clear hc hz D h0
    go_enter Tryz.func229, Tryz.ntmps229
    go_wp2
    go_region
    all_goals go_wp2
    all_goals go_end0
    all_goals rw [e0.out]
    all_goals exact ⟨rfl, HD.out.fr0 (Fr.refl [] _).drew, (((Fr.refl [g] w).setCell (.inl (by simp)) _).setCell (.inl (by simp)) _).drew⟩
  · have e0 : Hid (goneT d.commit y = y) := by unfold goneT; exact if_neg h0
    have q8b : (y.f0.f8 == 0) = false := by simp [h0]
    have HD := hid D
    have HY := hid hy
    clear hc hz D h0 hy
    go_enter Tryz.func229, Tryz.ntmps229
    go_wp2
    go_end0
    rw [e0.out, set_same HY.out]
    exact ⟨rfl, HD.out, Fr.refl _ _⟩
def Upto (db : Nat) (tv : Value) (g n c : Nat) (d : Dr) (home : Int) (f : EN → EN) (es : List EN) (w : World) (k : Nat) (w' : World) : Prop :=
  DraftAt w' db tv (.slice (some ⟨g, 0, none⟩) n c) d (upTo k (tabs home f) es) ∧ Fr [g] w w'
def homeAt (es : List EN) (k : Nat) : Int := (es.getD k z278).f1
theorem getD_of {es : List EN} {k : Nat} (h : k < es.length) : ∃ y, es[k]? = some y ∧ homeAt es k = y.f1 ∧ es.getD k z278 = y := ⟨es[k], List.getElem?_eq_getElem h, by simp [homeAt, List.getD_eq_getElem?_getD, List.getElem?_eq_getElem h], by simp [List.getD_eq_getElem?_getD, List.getElem?_eq_getElem h]⟩
theorem visits_upto {db : Nat} {tv : Value} {g n c : Nat} {d : Dr} {home : Int} {f : EN → EN} {es : List EN} {w : World} (hn : es.length = n) : Visits db g n c (homeAt es) home (Upto db tv g n c d home f es w) := by
  refine ⟨fun k w' h => h.1.c3, fun k w' hk h => ?_, fun k w' hk hh h => ?_⟩
  · obtain ⟨y, hy, e, -⟩ := getD_of (es := es) (k := k) (by omega)
    rw [e]
    exact (ents_enc h.1.ents (upTo_at hy)).home
  · obtain ⟨y, hy, e, -⟩ := getD_of (es := es) (k := k) (by omega)
    refine ⟨?_, h.2⟩
    rw [upTo_same hy (by unfold tabs; rw [if_neg (by rw [← e]; exact hh)])]
    exact h.1
theorem upTo_go {db : Nat} {tv : Value} {g n c : Nat} {d : Dr} {home : Int} {f : EN → EN} {es : List EN} {w w' : World} {k : Nat} (hn : es.length = n) (hk : k < n) (hh : homeAt es k = home) (h : Upto db tv g n c d home f es w k w') :
    ∃ y, (upTo k (tabs home f) es)[k]? = some y ∧ ∀ e w2, Changed db tv g n c d ((upTo k (tabs home f) es).set k (f y)) w' e w2 → Visited (Upto db tv g n c d home f es w) (k + 1) e w2 := by
  obtain ⟨y, hy, e, -⟩ := getD_of (es := es) (k := k) (by omega)
  refine ⟨y, upTo_at hy, fun e' w2 h2 => ⟨h2.1, ?_, h.2.then h2.2.2⟩⟩
  rw [upTo_step hy, show tabs home f y = f y by unfold tabs; exact if_pos (by rw [← e]; exact hh)]
  exact h2.2.1
theorem upto_end {db : Nat} {tv : Value} {g n c : Nat} {d : Dr} {home : Int} {f : EN → EN} {es : List EN} {w w' : World} (hn : es.length = n) (h : Upto db tv g n c d home f es w n w') : DraftAt w' db tv (.slice (some ⟨g, 0, none⟩) n c) d (es.map (tabs home f)) := by
  have := h.1
  rwa [upTo_all _ _ _ (by omega)] at this
theorem upto_start {db : Nat} {tv : Value} {g n c : Nat} {d : Dr} {home : Int} {f : EN → EN} {es : List EN} {w w' : World} (h : DraftAt w' db tv (.slice (some ⟨g, 0, none⟩) n c) d es) (hf : Fr [g] w w') : Upto db tv g n c d home f es w 0 w' := ⟨by rw [upTo_zero]; exact h, hf⟩
theorem tables_drop1 (pb db : Nat) (tv : Value) (g n c : Nat) (d : Dr) (es : List EN) (hn : es.length = n) (home : Int) (w : World) (D : DraftAt w db tv (.slice (some ⟨g, 0, none⟩) n c) d es) (hb : w.cell? ⟨pb, 0, none⟩ = some (.pointer (some ⟨db, 0, none⟩))) (hne : pb ≠ g) :
    Calls Tryz.prog 228 #[.pointer (some ⟨db, 0, none⟩), .int .i64 home, .func (.func 229) #[] #[.pointer (some ⟨pb, 0, none⟩)]] w
      (fun e w' => e = .returned (.tuple #[]) ∧ DraftAt w' db tv (.slice (some ⟨g, 0, none⟩) n c) d (es.map (tabs home (goneT d.commit))) ∧ Fr [g] w w') := by
  refine (tables_drop db g n c (by have := D.small; omega) (homeAt es) home (Upto db tv g n c d home (goneT d.commit) es w) (visits_upto hn) _ (fun k w' hk hh h => ?_) w (upto_start D (Fr.refl _ _))).mono (fun e w' h => ⟨h.1, upto_end hn h.2, h.2.2⟩)
  obtain ⟨y, hy, hstep⟩ := upTo_go hn hk hh h
  have hl : (upTo k (tabs home (goneT d.commit)) es).length = n := by rw [upTo_len]; exact hn
  have D1 := h.1
  rw [← hl] at D1
  have := drop1_any pb db tv g c d _ k y w' D1 hy (h.2.cellE hb (by simpa using hne))
  rw [hl] at this
  exact this.mono hstep
set_option maxRecDepth 100000 in
theorem drop_any (db : Nat) (tv ev : Value) (d : Dr) (es : List EN) (x : DE) (A4 : Option Addr) (c4 : Nat) (A6 : Option Addr) (c6 : Nat) (w : World) (h : DraftAt w db tv ev d es) :
    Calls Tryz.prog 189 #[.pointer (some ⟨db, 0, none⟩), deedV x A4 c4 A6 c6] w (Deeded db tv ev d (drop d es x) w) := by
  obtain ⟨A, c, rfl, hE⟩ := h.open
  have F0 := hid (((Fr.refl [] w).alloc (.cells #[.pointer (some ⟨db, 0, none⟩)] 265)).alloc (.cells #[.string x.f0, .string x.f1, .string x.f2, .string x.f3, .slice A4 x.f4.length c4, .int .i64 x.f5, .slice A6 x.f6.length c6] 135))
  have H := hid h
  have cF := hid (find_any db A es.length c es x A4 c4 A6 c6 _ (F0.out.cell0 h.c3) (hE.fr0 F0.out))
  clear h hE
  unfold deedV at cF ⊢
  cases hi : findIx es x.f1 x.f2 with
  | none =>
    have e0 : Hid (drop d es x = (4, es)) := by unfold drop; rw [hi]; exact rfl
    rw [hi] at cF
    clear hi
    go_enter Tryz.func189, Tryz.ntmps189
    go_wp2_with fail
    refine cF.out.mono ?_
    rintro e w1 ⟨rfl, f1⟩
    have b0 : w1.cell? ⟨w.heap.size, 0, none⟩ = some (.pointer (some ⟨db, 0, none⟩)) := f1.cell0 (by simp)
    rw [ptr_none]
    go_wp2
    go_ret
    rw [e0.out]
    exact Deeded.same H.out (F0.out.then f1)
  | some i =>
    obtain ⟨y, hy⟩ := find_get hi
    obtain ⟨g, c', e, hgl⟩ := ents_form H.out.ents hy
    injection e with e1 e2 e3
    subst e1
    have hid2 : idOf es i = y.f0.f0 := by simp [idOf, List.getD_eq_getElem?_getD, hy]
    have e0 := hid (show drop d es x = (0, if x.f2.toList = [] then (setE es i (gone1 d.commit)).map (tabs y.f0.f0 (goneT d.commit)) else setE es i (gone1 d.commit)) by unfold drop; rw [hi]; simp only [hid2])
    rw [hi, ptr_some] at cF
    clear hi e3 hid2
    go_enter Tryz.func189, Tryz.ntmps189
    go_wp2_with fail
    refine cF.out.mono ?_
    rintro e w1 ⟨rfl, f1⟩
    have b0 : w1.cell? ⟨w.heap.size, 0, none⟩ = some (.pointer (some ⟨db, 0, none⟩)) := f1.cell0 (by simp)
    have b2 : w1.cell? ⟨w.heap.size + 1, 2, none⟩ = some (.string x.f2) := f1.cell0 (by simp)
    have F1 := hid (F0.out.then f1)
    have D1 := hid (H.out.fr0 F1.out)
    obtain ⟨v3, v5, -, hc, hz⟩ := ents_at D1.out.ents hy
    have q0 := (ents_enc D1.out.ents hy).id
    have q8 := hc 8 _ rfl
    have z8 := hz 8
    have c0 := D1.out.c0
    have HY := hid hy
    have D2 := hid (D1.out.setGone hy d.commit)
    have F2 := hid ((Fr.refl [g] w1).setCell (p := ⟨g, i * 11 + 8, none⟩) (.inl (by simp)) (.int .i64 d.commit))
    have hne1 : w.heap.size ≠ g := by omega
    have hne2 : w.heap.size + 1 ≠ g := by omega
    clear f1 hc hz hy
    by_cases ht : x.f2.toList = []
    · have ht2 : x.f2.toList.isEmpty = true := by simp [ht]
      have e1 := hid (show drop d es x = (0, (setE es i (gone1 d.commit)).map (tabs y.f0.f0 (goneT d.commit))) by rw [e0.out, if_pos ht])
      clear ht
      go_wp2_with fail
      generalize hW2 : w1.setCell ⟨g, i * 11 + 8, none⟩ (.int .i64 d.commit) = w2 at D2 F2
      have b02 := F2.out.cellE b0 (by simpa using hne1)
      have q02 := (ents_enc D2.out.ents (set_at HY.out _)).id
      have CT := hid (tables_drop1 w.heap.size db tv g es.length c d (es.set i (gone1 d.commit y)) (by simp) y.f0.f0 w2.drew (D2.out.fr0 (Fr.refl [] _).drew) b02 hne1)
      clear hW2 b0 q0 c0 z8 q8 b2
      go_still_tail 7, (by kernel_rfl)
      change wpList _ _ _ _ _ w2.drew
      go_wp2_with (go_at_call 228; refine CT.out.mono ?_; rintro e w4 ⟨rfl, d4, f4⟩; have D4 := hid d4; have F4 := hid f4; clear d4 f4)
      go_ret
      rw [e1.out]
      refine ⟨rfl, _, ?_, (F1.out.mono (S' := db :: [g]) (by simp)).trans ((F2.out.drew).then F4.out) (fun z hz => .inl (by simp at hz; simp [hz])), fun k hk => .inl hk⟩
      rw [set_E HY.out]
      exact D4.out
    · have ht2 : x.f2.toList.isEmpty = false := by simpa using ht
      have e1 := hid (show drop d es x = (0, setE es i (gone1 d.commit)) by rw [e0.out, if_neg ht])
      clear ht
      go_wp2
      go_ret
      rw [e1.out]
      exact Deeded.wrote (gone1 d.commit) HY.out rfl D2.out F1.out F2.out
set_option maxRecDepth 100000 in
theorem ren1_any (xb db : Nat) (tv : Value) (g c : Nat) (d : Dr) (es : List EN) (s : ByteArray) (k : Nat) (y : EN) (w : World) (D : DraftAt w db tv (.slice (some ⟨g, 0, none⟩) es.length c) d es) (hy : es[k]? = some y) (hb : w.cell? ⟨xb, 3, none⟩ = some (.string s)) :
    Calls Tryz.prog 236 #[.pointer (some ⟨g, k * 11, none⟩), .pointer (some ⟨xb, 0, none⟩)] w (Changed db tv g es.length c d (es.set k (baseT s y)) w) := by
  obtain ⟨v3, v4, -, hc, hz⟩ := ents_at D.ents hy
  have q8 := hc 8 _ rfl
  by_cases h0 : y.f0.f8 = 0
  · have e0 := hid (show baseT s y = ⟨{ y.f0 with f1 := s }, y.f1, y.f2⟩ by unfold baseT; exact if_pos h0)
    have q8b : (y.f0.f8 == 0) = true := by simp [h0]
    have z1 := hz 1
    have q1 := hc 1 _ rfl
    have HD := hid (D.setBase hy s)
    clear hc hz D h0
    go_enter Tryz.func236, Tryz.ntmps236
    go_wp2
    go_end0
    rw [e0.out]
    exact ⟨rfl, HD.out, (Fr.refl [g] w).setCell (.inl (by simp)) _⟩
  · have e0 := hid (show baseT s y = y by unfold baseT; exact if_neg h0)
    have q8b : (y.f0.f8 == 0) = false := by simp [h0]
    have HD := hid D
    have HY := hid hy
    clear hc hz D h0 hy
    go_enter Tryz.func236, Tryz.ntmps236
    go_wp2
    go_end0
    rw [e0.out, set_same HY.out]
    exact ⟨rfl, HD.out, Fr.refl _ _⟩
theorem tables_ren1 (xb db : Nat) (tv : Value) (g n c : Nat) (d : Dr) (es : List EN) (hn : es.length = n) (home : Int) (s : ByteArray) (w : World) (D : DraftAt w db tv (.slice (some ⟨g, 0, none⟩) n c) d es) (hb : w.cell? ⟨xb, 3, none⟩ = some (.string s)) (hne : xb ≠ g) :
    Calls Tryz.prog 228 #[.pointer (some ⟨db, 0, none⟩), .int .i64 home, .func (.func 236) #[] #[.pointer (some ⟨xb, 0, none⟩)]] w
      (fun e w' => e = .returned (.tuple #[]) ∧ DraftAt w' db tv (.slice (some ⟨g, 0, none⟩) n c) d (es.map (tabs home (baseT s))) ∧ Fr [g] w w') := by
  refine (tables_ren db g n c (by have := D.small; omega) (homeAt es) home (Upto db tv g n c d home (baseT s) es w) (visits_upto hn) _ (fun k w' hk hh h => ?_) w (upto_start D (Fr.refl _ _))).mono (fun e w' h => ⟨h.1, upto_end hn h.2, h.2.2⟩)
  obtain ⟨y, hy, hstep⟩ := upTo_go hn hk hh h
  have hl : (upTo k (tabs home (baseT s)) es).length = n := by rw [upTo_len]; exact hn
  have D1 := h.1
  rw [← hl] at D1
  have := ren1_any xb db tv g c d _ s k y w' D1 hy (h.2.cellE hb (by simpa using hne))
  rw [hl] at this
  exact this.mono hstep
set_option maxRecDepth 100000 in
theorem rename_none (db : Nat) (tv ev : Value) (d : Dr) (es : List EN) (x : DE) (A4 : Option Addr) (c4 : Nat) (A6 : Option Addr) (c6 : Nat) (w : World) (h : DraftAt w db tv ev d es) (hi : findIx es x.f1 x.f2 = none) :
    Calls Tryz.prog 191 #[.pointer (some ⟨db, 0, none⟩), deedV x A4 c4 A6 c6] w (Deeded db tv ev d (rename es x) w) := by
  obtain ⟨A, c, rfl, hE⟩ := h.open
  have F0 := hid ((Fr.refl [] w).alloc (.cells #[.string x.f0, .string x.f1, .string x.f2, .string x.f3, .slice A4 x.f4.length c4, .int .i64 x.f5, .slice A6 x.f6.length c6] 135))
  have H := hid h
  have cF := hid (find_any db A es.length c es x A4 c4 A6 c6 _ (F0.out.cell0 h.c3) (hE.fr0 F0.out))
  clear h hE
  unfold deedV at cF ⊢
  have e0 := hid (show rename es x = (4, es) by unfold rename; rw [hi])
  rw [hi] at cF
  clear hi
  go_enter Tryz.func191, Tryz.ntmps191
  go_wp2_with fail
  refine cF.out.mono ?_
  rintro e w1 ⟨rfl, f1⟩
  rw [ptr_none]
  go_wp2
  go_ret
  rw [e0.out]
  exact Deeded.same H.out (F0.out.then f1)
structure BoxAt (w : World) (b : Nat) (x : DE) (A4 : Option Addr) (c4 : Nat) (A6 : Option Addr) (c6 : Nat) : Prop where
  b0 : w.cell? ⟨b, 0, none⟩ = some (.string x.f0)
  b1 : w.cell? ⟨b, 1, none⟩ = some (.string x.f1)
  b2 : w.cell? ⟨b, 2, none⟩ = some (.string x.f2)
  b3 : w.cell? ⟨b, 3, none⟩ = some (.string x.f3)
  b4 : w.cell? ⟨b, 4, none⟩ = some (.slice A4 x.f4.length c4)
  b5 : w.cell? ⟨b, 5, none⟩ = some (.int .i64 x.f5)
  b6 : w.cell? ⟨b, 6, none⟩ = some (.slice A6 x.f6.length c6)
theorem BoxAt.fr {w w' : World} {b : Nat} {x : DE} {A4 : Option Addr} {c4 : Nat} {A6 : Option Addr} {c6 : Nat} {S : List Nat} (h : BoxAt w b x A4 c4 A6 c6) (hf : Fr S w w') (hS : b ∉ S) : BoxAt w' b x A4 c4 A6 c6 :=
  ⟨hf.cellE h.b0 hS, hf.cellE h.b1 hS, hf.cellE h.b2 hS, hf.cellE h.b3 hS, hf.cellE h.b4 hS, hf.cellE h.b5 hS, hf.cellE h.b6 hS⟩
theorem BoxAt.new (w : World) (x : DE) (A4 : Option Addr) (c4 : Nat) (A6 : Option Addr) (c6 : Nat) : BoxAt (w.alloc (.cells #[.string x.f0, .string x.f1, .string x.f2, .string x.f3, .slice A4 x.f4.length c4, .int .i64 x.f5, .slice A6 x.f6.length c6] 135)) w.heap.size x A4 c4 A6 c6 := by
  constructor <;> simp
set_option maxRecDepth 100000 in
set_option maxHeartbeats 1000000 in
theorem rename_twice (db : Nat) (tv ev : Value) (d : Dr) (es : List EN) (x : DE) (A4 : Option Addr) (c4 : Nat) (A6 : Option Addr) (c6 : Nat) (w : World) (h : DraftAt w db tv ev d es) (i : Nat) (hi : findIx es x.f1 x.f2 = some i) (j : Nat) (hj : (if x.f2.toList = [] then baseIx es x.f3 else findIx es x.f1 x.f3) = some j) :
    Calls Tryz.prog 191 #[.pointer (some ⟨db, 0, none⟩), deedV x A4 c4 A6 c6] w (Deeded db tv ev d (rename es x) w) := by
  obtain ⟨A, c, rfl, hE⟩ := h.open
  obtain ⟨y, hy⟩ := find_get hi
  obtain ⟨g, c', e, hgl⟩ := ents_form h.ents hy
  injection e with e1 e2 e3
  subst e1
  have F0 := hid ((Fr.refl [] w).alloc (.cells #[.string x.f0, .string x.f1, .string x.f2, .string x.f3, .slice A4 x.f4.length c4, .int .i64 x.f5, .slice A6 x.f6.length c6] 135))
  have H := hid h
  have HE := hid hE
  have cF := hid (find_yes db g es.length c es x A4 c4 A6 c6 _ (F0.out.cell0 h.c3) (hE.fr0 F0.out) hi)
  have e0 := hid (show rename es x = (5, es) by
    unfold rename; rw [hi]
    by_cases ht : x.f2.toList = []
    · rw [if_pos ht] at hj; simp [ht, hj]
    · rw [if_neg ht] at hj; simp [ht, hj])
  by_cases ht : x.f2.toList = []
  · rw [if_pos ht] at hj
    have HJ := hid (show findIx es { x with f1 := x.f3 }.f1 { x with f1 := x.f3 }.f2 = some j by unfold findIx; rw [if_pos ht]; exact hj)
    have ht2 : x.f2.toList.isEmpty = true := by simp [ht]
    unfold deedV at cF ⊢
    clear h hE hi hj ht e3 hy
    go_enter Tryz.func191, Tryz.ntmps191
    go_wp2_with fail
    refine cF.out.mono ?_
    rintro e w1 ⟨rfl, f1⟩
    have F1 := hid (F0.out.then f1)
    obtain ⟨b0, b1, b2, b3, b4, b5, b6⟩ := (BoxAt.new w x A4 c4 A6 c6).fr f1 (by simp)
    have hsz : w.heap.size < w1.heap.size := cell_block b0
    clear f1 cF
    go_wp2_with fail
    have F2 := hid (F1.out.alloc (.cells #[.string x.f0, .string x.f3, .string x.f2, .string x.f3, .slice A4 x.f4.length c4, .int .i64 x.f5, .slice A6 x.f6.length c6] 135))
    refine (find_yes db g es.length c es { x with f1 := x.f3 } A4 c4 A6 c6 _ (F2.out.cell0 H.out.c3) (HE.out.fr0 F2.out) HJ.out).mono ?_
    rintro e w3 ⟨rfl, f3⟩
    go_wp2
    go_ret
    rw [e0.out]
    exact Deeded.same H.out (F2.out.then f3)
  · rw [if_neg ht] at hj
    have HJ := hid (show findIx es { x with f2 := x.f3 }.f1 { x with f2 := x.f3 }.f2 = some j from hj)
    have ht2 : x.f2.toList.isEmpty = false := by simpa using ht
    unfold deedV at cF ⊢
    clear h hE hi hj ht e3 hy
    go_enter Tryz.func191, Tryz.ntmps191
    go_wp2_with fail
    refine cF.out.mono ?_
    rintro e w1 ⟨rfl, f1⟩
    have F1 := hid (F0.out.then f1)
    obtain ⟨b0, b1, b2, b3, b4, b5, b6⟩ := (BoxAt.new w x A4 c4 A6 c6).fr f1 (by simp)
    have hsz : w.heap.size < w1.heap.size := cell_block b0
    clear f1 cF
    go_wp2_with fail
    have F2 := hid (F1.out.alloc (.cells #[.string x.f0, .string x.f1, .string x.f3, .string x.f3, .slice A4 x.f4.length c4, .int .i64 x.f5, .slice A6 x.f6.length c6] 135))
    refine (find_yes db g es.length c es { x with f2 := x.f3 } A4 c4 A6 c6 _ (F2.out.cell0 H.out.c3) (HE.out.fr0 F2.out) HJ.out).mono ?_
    rintro e w3 ⟨rfl, f3⟩
    go_wp2
    go_ret
    rw [e0.out]
    exact Deeded.same H.out (F2.out.then f3)
theorem names_at {db : Nat} {tv : Value} {d : Dr} {es : List EN} {g n c : Nat} {w : World} {i : Nat} {y : EN} (D : DraftAt w db tv (.slice (some ⟨g, 0, none⟩) n c) d es) (hy : es[i]? = some y) (hn : n = es.length) (s t : ByteArray) :
    DraftAt ((w.setCell ⟨g, i * 11 + 1, none⟩ (.string s)).setCell ⟨g, i * 11 + 2, none⟩ (.string t)) db tv (.slice (some ⟨g, 0, none⟩) n c) d (es.set i (names1 s t y)) := by
  subst hn
  have h1 := D.setBase hy s
  rw [show es.length = (es.set i ⟨{ y.f0 with f1 := s }, y.f1, y.f2⟩).length by simp] at h1
  have h2 := h1.setTable (set_at hy _) t
  rw [List.set_set, List.length_set] at h2
  exact h2
set_option maxRecDepth 100000 in
set_option maxHeartbeats 1000000 in
theorem rename_table (db : Nat) (tv ev : Value) (d : Dr) (es : List EN) (x : DE) (A4 : Option Addr) (c4 : Nat) (A6 : Option Addr) (c6 : Nat) (w : World) (h : DraftAt w db tv ev d es) (i : Nat) (hi : findIx es x.f1 x.f2 = some i) (ht : x.f2.toList ≠ []) (hj : findIx es x.f1 x.f3 = none) :
    Calls Tryz.prog 191 #[.pointer (some ⟨db, 0, none⟩), deedV x A4 c4 A6 c6] w (Deeded db tv ev d (rename es x) w) := by
  obtain ⟨A, c, rfl, hE⟩ := h.open
  obtain ⟨y, hy⟩ := find_get hi
  obtain ⟨g, c', e, hgl⟩ := ents_form h.ents hy
  injection e with e1 e2 e3
  subst e1
  have F0 := hid ((Fr.refl [] w).alloc (.cells #[.string x.f0, .string x.f1, .string x.f2, .string x.f3, .slice A4 x.f4.length c4, .int .i64 x.f5, .slice A6 x.f6.length c6] 135))
  have H := hid h
  have HE := hid hE
  have HY := hid hy
  have cF := hid (find_yes db g es.length c es x A4 c4 A6 c6 _ (F0.out.cell0 h.c3) (hE.fr0 F0.out) hi)
  have e0 := hid (show rename es x = (0, setE es i (names1 x.f1 x.f3)) by
    unfold rename; rw [hi]; simp [ht, hj])
  have HJ := hid (show findIx es { x with f2 := x.f3 }.f1 { x with f2 := x.f3 }.f2 = none from hj)
  have ht2 : x.f2.toList.isEmpty = false := by simpa using ht
  unfold deedV at cF ⊢
  clear h hE hi hj ht e3 hy
  go_enter Tryz.func191, Tryz.ntmps191
  go_wp2_with fail
  refine cF.out.mono ?_
  rintro e w1 ⟨rfl, f1⟩
  have F1 := hid (F0.out.then f1)
  obtain ⟨b0, b1, b2, b3, b4, b5, b6⟩ := (BoxAt.new w x A4 c4 A6 c6).fr f1 (by simp)
  have hsz : w.heap.size < w1.heap.size := cell_block b0
  have X1 := hid ((BoxAt.new w x A4 c4 A6 c6).fr f1 (by simp))
  clear f1 cF
  go_wp2_with fail
  have F2 := hid (F1.out.alloc (.cells #[.string x.f0, .string x.f1, .string x.f3, .string x.f3, .slice A4 x.f4.length c4, .int .i64 x.f5, .slice A6 x.f6.length c6] 135))
  refine (find_nil db (some ⟨g, 0, none⟩) es.length c es { x with f2 := x.f3 } A4 c4 A6 c6 _ (F2.out.cell0 H.out.c3) (HE.out.fr0 F2.out) HJ.out).mono ?_
  rintro e w3 ⟨rfl, f3⟩
  have F3 := hid (F2.out.then f3)
  have k1 : w3.cell? ⟨w1.heap.size, 1, none⟩ = some (.string x.f1) := f3.cell0 (by simp)
  have k2 : w3.cell? ⟨w1.heap.size, 2, none⟩ = some (.string x.f3) := f3.cell0 (by simp)
  have j2 : w3.cell? ⟨w.heap.size, 2, none⟩ = some (.string x.f2) := (((Fr.refl [] w1).alloc _).then f3).cell0 b2
  have D3 := hid (H.out.fr0 F3.out)
  obtain ⟨v3, v5, -, hc, hz⟩ := ents_at D3.out.ents HY.out
  have q1 := hc 1 _ rfl
  have q2 := hc 2 _ rfl
  have z1 := hz 1
  have z2 := hz 2
  have hne1 : w.heap.size ≠ g := by omega
  have hne2 : w1.heap.size ≠ g := by omega
  have DE := hid (names_at D3.out HY.out rfl x.f1 x.f3)
  clear b0 b1 b2 b3 b4 b5 b6 hc hz f3
  go_wp2_with fail
  go_region
  all_goals go_wp2
  all_goals go_ret
  all_goals rw [e0.out]
  all_goals exact Deeded.wrote (names1 x.f1 x.f3) HY.out rfl (DE.out.fr0 (Fr.refl [] _).drew) F3.out ((((Fr.refl [g] w3).setCell (.inl (by simp)) _).setCell (.inl (by simp)) _).drew)
set_option maxRecDepth 100000 in
set_option maxHeartbeats 1000000 in
theorem rename_base (db : Nat) (tv ev : Value) (d : Dr) (es : List EN) (x : DE) (A4 : Option Addr) (c4 : Nat) (A6 : Option Addr) (c6 : Nat) (w : World) (h : DraftAt w db tv ev d es) (i : Nat) (hi : findIx es x.f1 x.f2 = some i) (ht : x.f2.toList = []) (hj : baseIx es x.f3 = none) :
    Calls Tryz.prog 191 #[.pointer (some ⟨db, 0, none⟩), deedV x A4 c4 A6 c6] w (Deeded db tv ev d (rename es x) w) := by
  obtain ⟨A, c, rfl, hE⟩ := h.open
  obtain ⟨y, hy⟩ := find_get hi
  obtain ⟨g, c', e, hgl⟩ := ents_form h.ents hy
  injection e with e1 e2 e3
  subst e1
  have F0 := hid ((Fr.refl [] w).alloc (.cells #[.string x.f0, .string x.f1, .string x.f2, .string x.f3, .slice A4 x.f4.length c4, .int .i64 x.f5, .slice A6 x.f6.length c6] 135))
  have H := hid h
  have HE := hid hE
  have HY := hid hy
  have cF := hid (find_yes db g es.length c es x A4 c4 A6 c6 _ (F0.out.cell0 h.c3) (hE.fr0 F0.out) hi)
  have hid2 : idOf es i = y.f0.f0 := by simp [idOf, List.getD_eq_getElem?_getD, hy]
  have e0 := hid (show rename es x = (0, (setE es i (names1 x.f3 x.f2)).map (tabs y.f0.f0 (baseT x.f3))) by
    unfold rename; rw [hi]; simp [ht, hj, hid2])
  have HJ := hid (show findIx es { x with f1 := x.f3 }.f1 { x with f1 := x.f3 }.f2 = none by unfold findIx; rw [if_pos ht]; exact hj)
  have ht2 : x.f2.toList.isEmpty = true := by simp [ht]
  unfold deedV at cF ⊢
  clear h hE hi hj ht e3 hy hid2
  go_enter Tryz.func191, Tryz.ntmps191
  go_wp2_with fail
  refine cF.out.mono ?_
  rintro e w1 ⟨rfl, f1⟩
  have F1 := hid (F0.out.then f1)
  obtain ⟨b0, b1, b2, b3, b4, b5, b6⟩ := (BoxAt.new w x A4 c4 A6 c6).fr f1 (by simp)
  have hsz : w.heap.size < w1.heap.size := cell_block b0
  clear f1 cF
  go_wp2_with fail
  have F2 := hid (F1.out.alloc (.cells #[.string x.f0, .string x.f3, .string x.f2, .string x.f3, .slice A4 x.f4.length c4, .int .i64 x.f5, .slice A6 x.f6.length c6] 135))
  refine (find_nil db (some ⟨g, 0, none⟩) es.length c es { x with f1 := x.f3 } A4 c4 A6 c6 _ (F2.out.cell0 H.out.c3) (HE.out.fr0 F2.out) HJ.out).mono ?_
  rintro e w3 ⟨rfl, f3⟩
  have F3 := hid (F2.out.then f3)
  have k1 : w3.cell? ⟨w1.heap.size, 1, none⟩ = some (.string x.f3) := f3.cell0 (by simp)
  have k2 : w3.cell? ⟨w1.heap.size, 2, none⟩ = some (.string x.f2) := f3.cell0 (by simp)
  have j2 : w3.cell? ⟨w.heap.size, 2, none⟩ = some (.string x.f2) := (((Fr.refl [] w1).alloc _).then f3).cell0 b2
  have j3 := hid (show w3.cell? ⟨w.heap.size, 3, none⟩ = some (.string x.f3) from (((Fr.refl [] w1).alloc _).then f3).cell0 b3)
  have D3 := hid (H.out.fr0 F3.out)
  obtain ⟨v3, v5, -, hc, hz⟩ := ents_at D3.out.ents HY.out
  have q0 := (ents_enc D3.out.ents HY.out).id
  have q1 := hc 1 _ rfl
  have q2 := hc 2 _ rfl
  have z1 := hz 1
  have z2 := hz 2
  have hne1 : w.heap.size ≠ g := by omega
  have hne2 : w1.heap.size ≠ g := by omega
  have DE := hid (names_at D3.out HY.out rfl x.f3 x.f2)
  have F4 := hid (((Fr.refl [g] w3).setCell (p := ⟨g, i * 11 + 1, none⟩) (.inl (by simp)) (.string x.f3)).setCell (p := ⟨g, i * 11 + 2, none⟩) (.inl (by simp)) (.string x.f2))
  clear b0 b1 b2 b3 b4 b5 b6 hc hz f3
  go_wp2_with fail
  go_region
  all_goals
    generalize hW4 : (w3.setCell ⟨g, i * 11 + 1, none⟩ (.string x.f3)).setCell ⟨g, i * 11 + 2, none⟩ (.string x.f2) = w4 at DE F4
    have k02 := F4.out.cellE j2 (by simpa using hne1)
    have q00 := (ents_enc DE.out.ents (set_at HY.out _)).id
    have CT := hid (tables_ren1 w.heap.size db tv g es.length c d (es.set i (names1 x.f3 x.f2 y)) (by simp) y.f0.f0 x.f3 w4.drew (DE.out.fr0 (Fr.refl [] _).drew) (F4.out.cellE j3.out (by simpa using hne1)) hne1)
    clear hW4 k1 k2 j2 q0 q1 q2 z1 z2
    go_wp2_with (go_at_call 228; refine CT.out.mono ?_; rintro e w5 ⟨rfl, d5, f5⟩; have D5 := hid d5; have F5 := hid f5; clear d5 f5)
    go_ret
    rw [e0.out]
    refine ⟨rfl, _, ?_, (F3.out.mono (S' := db :: [g]) (by simp)).trans ((F4.out.drew).then F5.out) (fun z hz => .inl (by simp at hz; simp [hz])), fun k hk => .inl hk⟩
    rw [set_E HY.out]
    exact D5.out
theorem rename_any (db : Nat) (tv ev : Value) (d : Dr) (es : List EN) (x : DE) (A4 : Option Addr) (c4 : Nat) (A6 : Option Addr) (c6 : Nat) (w : World) (h : DraftAt w db tv ev d es) :
    Calls Tryz.prog 191 #[.pointer (some ⟨db, 0, none⟩), deedV x A4 c4 A6 c6] w (Deeded db tv ev d (rename es x) w) := by
  cases hi : findIx es x.f1 x.f2 with
  | none => exact rename_none db tv ev d es x A4 c4 A6 c6 w h hi
  | some i =>
    cases hj : (if x.f2.toList = [] then baseIx es x.f3 else findIx es x.f1 x.f3) with
    | some j => exact rename_twice db tv ev d es x A4 c4 A6 c6 w h i hi j hj
    | none =>
      by_cases ht : x.f2.toList = []
      · rw [if_pos ht] at hj; exact rename_base db tv ev d es x A4 c4 A6 c6 w h i hi ht hj
      · rw [if_neg ht] at hj; exact rename_table db tv ev d es x A4 c4 A6 c6 w h i hi ht hj
theorem in_lt {es : List EN} {b : Option Nat} {s : ByteArray} {i : Nat} (h : inIx es b s = some i) : i < es.length := by
  unfold inIx at h
  split at h
  · cases h
  · exact table_lt h
theorem swap_end {db : Nat} {tv : Value} {d : Dr} {es : List EN} {g n c : Nat} {w w1 : World} {i k : Nat} {y z : EN} (hy : es[i]? = some y) (hz : es[k]? = some z) (hn : n = es.length) (D : DraftAt w1 db tv (.slice (some ⟨g, 0, none⟩) n c) d es) (f1 : Fr [] w w1) :
    Deeded db tv (.slice (some ⟨g, 0, none⟩) n c) d (0, setE (setE es i (table1 z.f0.f2)) k (table1 y.f0.f2)) w (.returned (.int .i64 0)) (((w1.setCell ⟨g, i * 11 + 2, none⟩ (.string z.f0.f2)).setCell ⟨g, k * 11 + 2, none⟩ (.string y.f0.f2)).drew) := by
  subst hn
  have h1 := D.setTable hy z.f0.f2
  have e1 : es.set i ⟨{ y.f0 with f2 := z.f0.f2 }, y.f1, y.f2⟩ = setE es i (table1 z.f0.f2) := by rw [set_E hy]; rfl
  rw [e1] at h1
  have hl : (setE es i (table1 z.f0.f2)).length = es.length := by simp [setE]
  obtain ⟨z', hz'⟩ : ∃ z', (setE es i (table1 z.f0.f2))[k]? = some z' := ⟨_, List.getElem?_eq_getElem (by rw [hl]; exact (List.getElem?_eq_some_iff.1 hz).1)⟩
  rw [← hl] at h1
  have h2 := h1.setTable hz' y.f0.f2
  rw [hl] at h2
  refine ⟨rfl, _, ?_, ?_, fun k hk => .inl hk⟩
  · rw [set_E hz']; exact h2.fr0 (Fr.refl [] _).drew
  · exact (f1.mono (S' := db :: [g]) (by simp)).trans ((((Fr.refl [g] w1).setCell (.inl (by simp)) _).setCell (.inl (by simp)) _).drew) (fun z hz => .inl (by simp at hz; simp [hz]))
set_option maxRecDepth 100000 in
set_option maxHeartbeats 1000000 in
theorem swap_any (db : Nat) (tv ev : Value) (d : Dr) (es : List EN) (x : DE) (A4 : Option Addr) (c4 : Nat) (A6 : Option Addr) (c6 : Nat) (w : World) (h : DraftAt w db tv ev d es) :
    Calls Tryz.prog 192 #[.pointer (some ⟨db, 0, none⟩), deedV x A4 c4 A6 c6] w (Deeded db tv ev d (swap es x) w) := by
  obtain ⟨A, c, rfl, hE⟩ := h.open
  have F0 := hid ((Fr.refl [] w).alloc (.cells #[.string x.f0, .string x.f1, .string x.f2, .string x.f3, .slice A4 x.f4.length c4, .int .i64 x.f5, .slice A6 x.f6.length c6] 135))
  have H := hid h
  have cB := hid (base_any db A es.length c es x.f1 _ (F0.out.cell0 h.c3) (hE.fr0 F0.out))
  have CT := hid (fun (q : Nat) (s : ByteArray) => table_any db A es.length c es (baseIx es x.f1) (fun i hi => base_lt hi) s ((w.alloc (.cells #[.string x.f0, .string x.f1, .string x.f2, .string x.f3, .slice A4 x.f4.length c4, .int .i64 x.f5, .slice A6 x.f6.length c6] 135)).drewN q) ((F0.out.drewN q).cell0 h.c3) (hE.fr0 (F0.out.drewN q)))
  unfold deedV
  clear h hE
  go_enter Tryz.func192, Tryz.ntmps192
  go_wp2_with (go_at_call 226; refine cB.out.mono ?_; rintro e w' ⟨rfl, rfl⟩)
  go_quiet ((go_at_call 237; exact Calls.quiet_of (CT.out _ _)))
  have F1 := hid (F0.out.drewN nq)
  generalize ptrAt A (baseIx es x.f1) = pb
  cases h2 : inIx es (baseIx es x.f1) x.f2 with
  | none =>
    have e0 := hid (show swap es x = (4, es) by unfold swap; rw [h2])
    clear h2
    rw [ptr_none]
    generalize ptrAt A (inIx es (baseIx es x.f1) x.f3) = pc
    go_wp2
    go_ret
    rw [e0.out]
    exact Deeded.same H.out F1.out
  | some i =>
    obtain ⟨y, hy⟩ : ∃ y, es[i]? = some y := ⟨_, List.getElem?_eq_getElem (in_lt h2)⟩
    obtain ⟨g, c', eA, hgl⟩ := ents_form H.out.ents hy
    injection eA with eA1 eA2 eA3
    subst eA1
    cases h3 : inIx es (baseIx es x.f1) x.f3 with
    | none =>
      have e0 := hid (show swap es x = (4, es) by unfold swap; rw [h2, h3])
      clear h2 h3 eA3 hy
      rw [ptr_none, ptr_some]
      go_wp2
      go_ret
      rw [e0.out]
      exact Deeded.same H.out F1.out
    | some k =>
      obtain ⟨z, hz⟩ : ∃ z, es[k]? = some z := ⟨_, List.getElem?_eq_getElem (in_lt h3)⟩
      have e0 := hid (show swap es x = (0, setE (setE es i (table1 z.f0.f2)) k (table1 y.f0.f2)) by
        unfold swap; rw [h2, h3]
        simp [List.getD_eq_getElem?_getD, hy, hz])
      clear h2 h3 eA3
      rw [ptr_some, ptr_some]
      have D1 := hid (H.out.fr0 F1.out)
      have HEND := hid (swap_end (w := w) hy hz rfl D1.out F1.out)
      obtain ⟨v3, v5, -, hci, hzi⟩ := ents_at D1.out.ents hy
      obtain ⟨v3', v5', -, hck, hzk⟩ := ents_at D1.out.ents hz
      have q1 := hci 2 _ rfl
      have q2 := hck 2 _ rfl
      have z1 := hzi 2
      have z2 := hzk 2
      clear hci hzi hck hzk hy hz
      go_wp2_with fail
      generalize hWW : (w.alloc (.cells #[.string x.f0, .string x.f1, .string x.f2, .string x.f3, .slice A4 x.f4.length c4, .int .i64 x.f5, .slice A6 x.f6.length c6] 135)).drewN nq = w1 at D1 HEND q1 q2 z1 z2
      clear hWW CT cB F1
      obtain ⟨u2, q3⟩ := cell?_setCell_some (w := w1) (p := ⟨g, i * 11 + 2, none⟩) (x := .string z.f0.f2) (q := ⟨g, k * 11 + 2, none⟩) (v := .string z.f0.f2) q2
      go_region
      all_goals go_wp2
      all_goals go_ret
      all_goals rw [e0.out]
      all_goals exact HEND.out
set_option maxRecDepth 100000 in
theorem at_any (db : Nat) (tv ev : Value) (d : Dr) (es : List EN) (w : World) (k : Int) (h0 : 0 ≤ k) (h : DraftAt w db tv ev d es) :
    Calls Tryz.prog 234 #[.pointer (some ⟨db, 0, none⟩), .int .i64 k] w fun e w' => e = .returned (.int .i64 (atTime d k)) ∧ w = w' := by
  obtain ⟨A, c, e, hl, hC⟩ := Kd.R_reads h.times
  subst e
  have c1 := h.c1
  have c2 := h.c2
  have hm := Kd.C_max hC
  by_cases hk : k < d.times.length
  · have e0 := hid (show atTime d k = d.times.getD k.toNat 0 by unfold atTime; rw [if_pos hk])
    obtain ⟨ad, rfl, hr⟩ := (Kd.reads_of_C (d := (0 : Int)) hC).2.2 (by omega)
    have q := hr k.toNat (by omega)
    obtain ⟨g, cap, ef, -⟩ := Kd.R_form h.times (by omega)
    injection ef with ef1 _ _
    injection ef1 with ef1
    subst ef1
    rw [add_mk, Nat.zero_add] at q
    clear h hC hr
    generalize d.times.getD k.toNat 0 = v at q e0
    go_enter Tryz.func234, Tryz.ntmps234
    go_wp2
    go_ret
    rw [e0.out]
    exact ⟨rfl, rfl⟩
  · have e0 := hid (show atTime d k = d.time by unfold atTime; rw [if_neg hk])
    have hk2 : (d.times.length : Int) ≤ k := by omega
    clear h hC
    go_enter Tryz.func234, Tryz.ntmps234
    go_wp2
    go_ret
    rw [e0.out]
    exact ⟨rfl, rfl⟩
set_option maxRecDepth 100000 in
theorem und2_any (g k xb gb : Nat) (x : DE) (y : EN) (gone : Int) (w : World) (hc : EnC w g k y) (h2 : w.cell? ⟨xb, 2, none⟩ = some (.string x.f2)) (hg : w.cell? ⟨gb, 0, none⟩ = some (.int .i64 gone)) :
    Calls Tryz.prog 232 #[.pointer (some ⟨g, k * 11, none⟩), .pointer (some ⟨xb, 0, none⟩), .pointer (some ⟨gb, 0, none⟩)] w fun e w' => e = .returned (.bool (withIt x gone y)) ∧ ∃ q, w' = w.drewN q := by
  have q8 := hc.gone
  have q10 := hc.with_
  clear hc
  by_cases ht : x.f2.toList = []
  · have ht2 : x.f2.toList.isEmpty = true := by simp [ht]
    have e0 := hid (show withIt x gone y = ((y.f0.f8 == gone) && (y.f2 == gone)) by unfold withIt; simp [ht])
    generalize hA : (y.f0.f8 == gone) = tA at e0
    generalize hB : (y.f2 == gone) = tB at e0
    cases tA <;> cases tB
    all_goals
      go_enter Tryz.func232, Tryz.ntmps232
      go_wp2_with fail
      go_quiet (fail)
      go_wp2
      go_ret
      rw [e0.out]
      exact ⟨rfl, _, rfl⟩
  · have ht2 : x.f2.toList.isEmpty = false := by simpa using ht
    have e0 := hid (show withIt x gone y = false by unfold withIt; simp [ht])
    go_enter Tryz.func232, Tryz.ntmps232
    go_wp2_with fail
    go_quiet (fail)
    go_wp2
    go_ret
    rw [e0.out]
    exact ⟨rfl, _, rfl⟩
set_option maxRecDepth 100000 in
theorem und3_yes (g k xb gb wb kb : Nat) (x : DE) (y : EN) (gone kp : Int) (w : World) (hc : EnC w g k y) (h2 : w.cell? ⟨xb, 2, none⟩ = some (.string x.f2)) (hg : w.cell? ⟨gb, 0, none⟩ = some (.int .i64 gone))
    (hw : w.cell? ⟨wb, 0, none⟩ = some (.func (.func 232) #[] #[.pointer (some ⟨xb, 0, none⟩), .pointer (some ⟨gb, 0, none⟩)])) (hk : w.cell? ⟨kb, 0, none⟩ = some (.int .i64 kp)) (hf : w.frozen? ⟨kb, 0, none⟩ = false) :
    Calls Tryz.prog 233 #[.pointer (some ⟨g, k * 11, none⟩), .pointer (some ⟨wb, 0, none⟩), .pointer (some ⟨kb, 0, none⟩)] w fun e w' => e = .returned (.tuple #[]) ∧ w'.cell? ⟨kb, 0, none⟩ = some (.int .i64 (if withIt x gone y then min kp y.f0.f5 else kp)) ∧ w'.frozen? ⟨kb, 0, none⟩ = false ∧ Fr [kb] w w' := by
  have CW := hid (und2_any g k xb gb x y gone w hc h2 hg)
  have q5 := hc.keep
  cases hi : withIt x gone y with
  | false =>
    rw [hi] at CW
    have HK := hid hk
    have HF := hid hf
    clear hc h2 hg hi hk hf
    go_enter Tryz.func233, Tryz.ntmps233
    go_wp2_with (go_at_call 232; refine CW.out.mono ?_; rintro e w1 ⟨rfl, q, rfl⟩)
    go_end0
    exact ⟨rfl, HK.out, HF.out, (Fr.refl _ _).drewN _⟩
  | true =>
    rw [hi] at CW
    have HK := hid hk
    have HF := hid hf
    clear hc h2 hg hi
    go_enter Tryz.func233, Tryz.ntmps233
    go_wp2_with (go_at_call 232; refine CW.out.mono ?_; rintro e w1 ⟨rfl, q, rfl⟩)
    go_region
    all_goals go_wp2
    all_goals go_end0
    all_goals exact ⟨rfl, (World.cell?_setCell_same (w.drewN (q + 1)) ⟨kb, 0, none⟩ _ HK.out).trans (by congr 2; omega), by simp; exact HF.out, ((Fr.refl _ _).drewN _).setCell (.inl (by simp)) _⟩
def Least (es : List EN) (x : DE) (home gone k0 : Int) (kb : Nat) (w : World) (k : Nat) (w' : World) : Prop :=
  w'.cell? ⟨kb, 0, none⟩ = some (.int .i64 ((es.take k).foldl (keepStep x home gone) k0)) ∧ w'.frozen? ⟨kb, 0, none⟩ = false ∧ Fr [kb] w w'
theorem fold_step {es : List EN} {x : DE} {home gone k0 : Int} {k : Nat} {y : EN} (hy : es[k]? = some y) : (es.take (k + 1)).foldl (keepStep x home gone) k0 = keepStep x home gone ((es.take k).foldl (keepStep x home gone) k0) y := by
  obtain ⟨hk, he⟩ := List.getElem?_eq_some_iff.1 hy
  rw [List.take_succ_eq_append_getElem hk, List.foldl_append, he]; rfl
theorem tables_und3k (db : Nat) (g n c : Nat) (es : List EN) (hl : es.length = n) (hn : n ≤ 1000000) (x : DE) (home gone k0 : Int) (xb gb wb kb : Nat) (w : World) (h3 : w.cell? ⟨db, 3, none⟩ = some (.slice (some ⟨g, 0, none⟩) n c)) (hE : ∀ i y, es[i]? = some y → EnC w g i y) (h2 : w.cell? ⟨xb, 2, none⟩ = some (.string x.f2)) (hg : w.cell? ⟨gb, 0, none⟩ = some (.int .i64 gone))
    (hw : w.cell? ⟨wb, 0, none⟩ = some (.func (.func 232) #[] #[.pointer (some ⟨xb, 0, none⟩), .pointer (some ⟨gb, 0, none⟩)])) (hk : w.cell? ⟨kb, 0, none⟩ = some (.int .i64 k0)) (hf : w.frozen? ⟨kb, 0, none⟩ = false) (hne : kb ≠ db ∧ kb ≠ g ∧ kb ≠ xb ∧ kb ≠ gb ∧ kb ≠ wb) :
    Calls Tryz.prog 228 #[.pointer (some ⟨db, 0, none⟩), .int .i64 home, .func (.func 233) #[] #[.pointer (some ⟨wb, 0, none⟩), .pointer (some ⟨kb, 0, none⟩)]] w
      (fun e w' => e = .returned (.tuple #[]) ∧ w'.cell? ⟨kb, 0, none⟩ = some (.int .i64 (es.foldl (keepStep x home gone) k0)) ∧ Fr [kb] w w') := by
  obtain ⟨n1, n2, n3, n4, n5⟩ := hne
  have hEn : ∀ {w'}, Fr [kb] w w' → ∀ i y, es[i]? = some y → EnC w' g i y := fun f i y hy => by
    have hc := hE i y hy
    have hS : g ∉ [kb] := by simp; omega
    exact ⟨f.cellE hc.id hS, f.cellE hc.base hS, f.cellE hc.table hS, f.cellE hc.keep hS, f.cellE hc.born hS, f.cellE hc.laid hS, f.cellE hc.gone hS, f.cellE hc.home hS, f.cellE hc.with_ hS⟩
  refine (tables_und3 db g n c hn (homeAt es) home (Least es x home gone k0 kb w) ⟨fun k w' h => h.2.2.cellE h3 (by simp; omega), fun k w' hk h => ?_, fun k w' hk hh h => ?_⟩ _ _ (fun k w' hk hh h => ?_) w ⟨by simpa using hk, hf, Fr.refl _ _⟩).mono (fun e w' h => ⟨h.1, ?_, h.2.2.2⟩)
  · obtain ⟨y, hy, e, -⟩ := getD_of (es := es) (k := k) (by omega)
    rw [e]
    exact (hEn h.2.2 k y hy).home
  · obtain ⟨y, hy, e, -⟩ := getD_of (es := es) (k := k) (by omega)
    refine ⟨?_, h.2⟩
    rw [fold_step hy, show keepStep x home gone ((es.take k).foldl (keepStep x home gone) k0) y = (es.take k).foldl (keepStep x home gone) k0 by unfold keepStep; rw [if_neg (by rw [← e]; exact hh)]]
    exact h.1
  · obtain ⟨y, hy, e, -⟩ := getD_of (es := es) (k := k) (by omega)
    refine (und3_yes g k xb gb wb kb x y gone _ w' (hEn h.2.2 k y hy) (h.2.2.cellE h2 (by simp; omega)) (h.2.2.cellE hg (by simp; omega)) (h.2.2.cellE hw (by simp; omega)) h.1 h.2.1).mono (fun e2 w2 h4 => ⟨h4.1, ?_, h4.2.2.1, h.2.2.then h4.2.2.2⟩)
    rw [fold_step hy, show keepStep x home gone ((es.take k).foldl (keepStep x home gone) k0) y = (if withIt x gone y then min ((es.take k).foldl (keepStep x home gone) k0) y.f0.f5 else (es.take k).foldl (keepStep x home gone) k0) by unfold keepStep; rw [if_pos (by rw [← e]; exact hh)]]
    exact h4.2.1
  · have := h.2.1
    rwa [List.take_of_length_le (by omega)] at this
theorem back_at {db : Nat} {tv : Value} {d : Dr} {es : List EN} {g n c : Nat} {w : World} {i : Nat} {y : EN} (D : DraftAt w db tv (.slice (some ⟨g, 0, none⟩) n c) d es) (hy : es[i]? = some y) (hn : n = es.length) (s : ByteArray) :
    DraftAt (((w.setCell ⟨g, i * 11 + 8, none⟩ (.int .i64 0)).setCell ⟨g, i * 11 + 10, none⟩ (.int .i64 0)).setCell ⟨g, i * 11 + 1, none⟩ (.string s)) db tv (.slice (some ⟨g, 0, none⟩) n c) d (es.set i ⟨{ y.f0 with f8 := 0, f1 := s }, y.f1, 0⟩) := by
  subst hn
  have h1 := D.setGone hy 0
  rw [show es.length = (es.set i ⟨{ y.f0 with f8 := 0 }, y.f1, y.f2⟩).length by simp] at h1
  have h2 := h1.setWith (set_at hy _) 0
  rw [List.set_set, show (es.set i ⟨{ y.f0 with f8 := 0 }, y.f1, y.f2⟩).length = (es.set i ⟨{ y.f0 with f8 := 0 }, y.f1, 0⟩).length by simp] at h2
  have h3 := h2.setBase (set_at hy _) s
  rw [List.set_set, List.length_set] at h3
  exact h3
set_option maxRecDepth 100000 in
theorem und4_any (xb gb wb db : Nat) (tv : Value) (g c : Nat) (d : Dr) (es : List EN) (x : DE) (gone : Int) (k : Nat) (y : EN) (w : World) (D : DraftAt w db tv (.slice (some ⟨g, 0, none⟩) es.length c) d es) (hy : es[k]? = some y) (h1 : w.cell? ⟨xb, 1, none⟩ = some (.string x.f1)) (h2 : w.cell? ⟨xb, 2, none⟩ = some (.string x.f2)) (hg : w.cell? ⟨gb, 0, none⟩ = some (.int .i64 gone))
    (hw : w.cell? ⟨wb, 0, none⟩ = some (.func (.func 232) #[] #[.pointer (some ⟨xb, 0, none⟩), .pointer (some ⟨gb, 0, none⟩)])) :
    Calls Tryz.prog 235 #[.pointer (some ⟨g, k * 11, none⟩), .pointer (some ⟨wb, 0, none⟩), .pointer (some ⟨xb, 0, none⟩)] w (Changed db tv g es.length c d (es.set k (backT x gone y)) w) := by
  have CW := hid (und2_any g k xb gb x y gone w (ents_enc D.ents hy) h2 hg)
  obtain ⟨v3, v4, -, hc, hz⟩ := ents_at D.ents hy
  cases hi : withIt x gone y with
  | false =>
    rw [hi] at CW
    have e0 := hid (show backT x gone y = y by unfold backT; rw [hi]; rfl)
    have HD := hid D
    have HY := hid hy
    clear hc hz D hy hi h1 h2 hg
    go_enter Tryz.func235, Tryz.ntmps235
    go_wp2_with (go_at_call 232; refine CW.out.mono ?_; rintro e w1 ⟨rfl, q, rfl⟩)
    go_end0
    rw [e0.out, set_same HY.out]
    exact ⟨rfl, HD.out.fr0 ((Fr.refl _ _).drewN _), (Fr.refl _ _).drewN _⟩
  | true =>
    rw [hi] at CW
    have e0 := hid (show backT x gone y = ⟨{ y.f0 with f8 := 0, f1 := x.f1 }, y.f1, 0⟩ by unfold backT; rw [hi]; rfl)
    have z8 := hz 8
    have z10 := hz 10
    have z1 := hz 1
    have q8 := hc 8 _ rfl
    have q10 := hc 10 _ rfl
    have q1 := hc 1 _ rfl
    have HD := hid D
    have HY := hid hy
    clear hc hz D hy hi h2 hg
    go_enter Tryz.func235, Tryz.ntmps235
    go_wp2_with (go_at_call 232; refine CW.out.mono ?_; rintro e w1 ⟨rfl, q, rfl⟩)
    go_region
    all_goals go_wp2
    all_goals go_end0
    all_goals rw [e0.out]
    all_goals exact ⟨rfl, back_at (HD.out.fr0 ((Fr.refl [] w).drewN (q + 1))) HY.out rfl x.f1, ((((Fr.refl [g] w).drewN (q + 1)).setCell (.inl (by simp)) _).setCell (.inl (by simp)) _).setCell (.inl (by simp)) _⟩
theorem tables_und4b (xb gb wb db : Nat) (tv : Value) (g n c : Nat) (d : Dr) (es : List EN) (hn : es.length = n) (home : Int) (x : DE) (gone : Int) (w : World) (D : DraftAt w db tv (.slice (some ⟨g, 0, none⟩) n c) d es) (h1 : w.cell? ⟨xb, 1, none⟩ = some (.string x.f1)) (h2 : w.cell? ⟨xb, 2, none⟩ = some (.string x.f2)) (hg : w.cell? ⟨gb, 0, none⟩ = some (.int .i64 gone))
    (hw : w.cell? ⟨wb, 0, none⟩ = some (.func (.func 232) #[] #[.pointer (some ⟨xb, 0, none⟩), .pointer (some ⟨gb, 0, none⟩)])) (hne : xb ≠ g ∧ gb ≠ g ∧ wb ≠ g) :
    Calls Tryz.prog 228 #[.pointer (some ⟨db, 0, none⟩), .int .i64 home, .func (.func 235) #[] #[.pointer (some ⟨wb, 0, none⟩), .pointer (some ⟨xb, 0, none⟩)]] w
      (fun e w' => e = .returned (.tuple #[]) ∧ DraftAt w' db tv (.slice (some ⟨g, 0, none⟩) n c) d (es.map (tabs home (backT x gone))) ∧ Fr [g] w w') := by
  refine (tables_und4 db g n c (by have := D.small; omega) (homeAt es) home (Upto db tv g n c d home (backT x gone) es w) (visits_upto hn) _ _ (fun k w' hk hh h => ?_) w (upto_start D (Fr.refl _ _))).mono (fun e w' h => ⟨h.1, upto_end hn h.2, h.2.2⟩)
  obtain ⟨y, hy, hstep⟩ := upTo_go hn hk hh h
  have hl : (upTo k (tabs home (backT x gone)) es).length = n := by rw [upTo_len]; exact hn
  have D1 := h.1
  rw [← hl] at D1
  have := und4_any xb gb wb db tv g c d _ x gone k y w' D1 hy (h.2.cellE h1 (by simpa using hne.1)) (h.2.cellE h2 (by simpa using hne.1)) (h.2.cellE hg (by simpa using hne.2.1)) (h.2.cellE hw (by simpa using hne.2.2))
  rw [hl] at this
  exact this.mono hstep
structure Older (W : World) where
  now : World
  fr : Fr [] W now
instance (W : World) : Nonempty (Older W) := ⟨⟨W, Fr.refl _ _⟩⟩
theorem wp_region_older {P : Program} (W : World) {id : Nat} {Q : Exit → Act → World → Prop} {a : Act} {w : World} {l : List Oper} (hm : P.follows .mixedOrders = true) (hB : Region.lexB .any l.toArray = true) (hw : Fr [] W w)
    (h : wpQuiet P l.toArray (fun w' => ∃ z : Older W, w' = z.now) (fun a' => ∀ w', (∃ z : Older W, w' = z.now) → Q .normal a' w') l a) : (Code.region id l.toArray true).wp P Q a w :=
  wp_region_quiet (C := fun w' => ∃ z : Older W, w' = z.now) hm hB ⟨⟨_, hw.drew⟩, rfl⟩ (by simpa using h)
theorem Calls.older {P : Program} {f : FuncId} {args : Array Value} {W : World} {z : Older W} {v : Value}
    (h : Calls P f args z.now fun e w' => e = .returned v ∧ Fr [] z.now w') : Calls P f args z.now fun e w'' => e = .returned v ∧ ∃ z' : Older W, w'' = z'.now :=
  h.mono fun _ w' ⟨he, hm⟩ => ⟨he, ⟨w', z.fr.then hm⟩, rfl⟩
def entV (x : EN) (v3 v4 : Value) : Value := .agg #[.int .i64 x.f0.f0, .string x.f0.f1, .string x.f0.f2, v3, v4, .int .i64 x.f0.f5, .int .i64 x.f0.f6, .int .i64 x.f0.f7, .int .i64 x.f0.f8, .int .i64 x.f1, .int .i64 x.f2]
set_option maxRecDepth 100000 in
set_option maxHeartbeats 1000000 in
theorem und1_any (xb bb : Nat) (x : DE) (y : EN) (A3 : Option Addr) (n3 c3 : Nat) (A4 : Option Addr) (n4 c4 : Nat) (bid : Int) (w : World) (h1 : w.cell? ⟨xb, 1, none⟩ = some (.string x.f1)) (h2 : w.cell? ⟨xb, 2, none⟩ = some (.string x.f2))
    (hb : x.f2.toList ≠ [] → ∃ g i, w.cell? ⟨bb, 0, none⟩ = some (.pointer (some ⟨g, i, none⟩)) ∧ w.cell? ⟨g, i, none⟩ = some (.int .i64 bid)) :
    Calls Tryz.prog 231 #[entV y (.slice A3 n3 c3) (.slice A4 n4 c4), .pointer (some ⟨xb, 0, none⟩), .pointer (some ⟨bb, 0, none⟩)] w fun e w' => e = .returned (.bool (ofDeed x bid y)) ∧ Fr [] w w' := by
  have hx : xb < w.heap.size := cell_block h1
  have hx2 : xb ≠ w.heap.size := by omega
  unfold entV
  by_cases ht : x.f2.toList = []
  · have ht2 : x.f2.toList.isEmpty = true := by simp [ht]
    have e0 := hid (show ofDeed x bid y = (decide (y.f0.f2.toList = x.f2.toList) && decide (y.f0.f1.toList = x.f1.toList)) by unfold ofDeed; simp [ht])
    have eT : (y.f0.f2.toList == x.f2.toList) = decide (y.f0.f2.toList = x.f2.toList) := by rw [Bool.eq_iff_iff]; simp
    have eB : (y.f0.f1.toList == x.f1.toList) = decide (y.f0.f1.toList = x.f1.toList) := by rw [Bool.eq_iff_iff]; simp
    clear hb ht
    generalize hT : decide (y.f0.f2.toList = x.f2.toList) = tT at e0 eT
    generalize hB : decide (y.f0.f1.toList = x.f1.toList) = tB at e0 eB
    clear hT hB
    cases tT <;> cases tB
    all_goals
      go_enter Tryz.func231, Tryz.ntmps231
      go_wp2_with fail
      go_quiet (fail)
      go_wp2
      go_ret
      rw [e0.out]
      exact ⟨rfl, ((Fr.refl [] w).alloc _).drewN _⟩
  · have ht2 : x.f2.toList.isEmpty = false := by simpa using ht
    have e0 := hid (show ofDeed x bid y = (decide (y.f0.f2.toList = x.f2.toList) && (y.f1 == bid)) by unfold ofDeed; simp [ht])
    have eT : (y.f0.f2.toList == x.f2.toList) = decide (y.f0.f2.toList = x.f2.toList) := by rw [Bool.eq_iff_iff]; simp
    obtain ⟨g, i, hb1, hb2⟩ := hb ht
    have hbl := cell_block hb1
    have hgl := cell_block hb2
    simp only at hbl hgl
    have hn1 : bb ≠ w.heap.size := by omega
    have hn2 : g ≠ w.heap.size := by omega
    generalize hT : decide (y.f0.f2.toList = x.f2.toList) = tT at e0 eT
    generalize hB : (y.f1 == bid) = tB at e0
    clear hT ht
    cases tT <;> cases tB
    all_goals
      go_enter Tryz.func231, Tryz.ntmps231
      go_wp2_with fail
      go_quiet (fail)
      go_wp2
      go_ret
      rw [e0.out]
      exact ⟨rfl, ((Fr.refl [] w).alloc _).drewN _⟩
theorem ents_vals {w : World} {es : List EN} {g n c i : Nat} {y : EN} (h : kE.R 278 w 0 (fun _ => True) (.slice (some ⟨g, 0, none⟩) n c) es) (hy : es[i]? = some y) :
    ∃ A3 c3 A4 c4, ∀ j u, (enL y (.slice A3 y.f0.f3.length c3) (.slice A4 y.f0.f4.length c4))[j]? = some u → w.cell? ⟨g, i * 11 + j, none⟩ = some u := by
  obtain ⟨v3, v4, hm, hc, -⟩ := ents_at h hy
  obtain ⟨u3, u4, e, g3, g4⟩ := kE_open hm
  simp only [enL, List.cons.injEq, and_true, true_and] at e
  obtain ⟨rfl, rfl⟩ := e
  obtain ⟨A3, c3, rfl, -⟩ := ros_C g3
  obtain ⟨A4, c4, rfl, -⟩ := ros_C g4
  exact ⟨A3, c3, A4, c4, hc⟩
theorem step_false1 {p : EN → Bool} {acc : Option (Nat × Int)} {i : Nat} {x : EN} (h : decide (0 < x.f0.f8) = false) : dropStep p acc i x = acc := by unfold dropStep; rw [h]; rfl
theorem step_false2 {p : EN → Bool} {acc : Option (Nat × Int)} {i : Nat} {x : EN} (h : p x = false) : dropStep p acc i x = acc := by unfold dropStep; rw [h]; simp
theorem step_none {p : EN → Bool} {i : Nat} {x : EN} (h1 : decide (0 < x.f0.f8) = true) (h2 : p x = true) : dropStep p none i x = some (i, x.f0.f8) := by unfold dropStep; rw [h1, h2]; rfl
theorem step_some {p : EN → Bool} {i j : Nat} {x : EN} {gj : Int} (h1 : decide (0 < x.f0.f8) = true) (h2 : p x = true) : dropStep p (some (j, gj)) i x = if decide (gj ≤ x.f0.f8) = true then some (i, x.f0.f8) else some (j, gj) := by unfold dropStep; rw [h1, h2]; rfl
set_option maxRecDepth 100000 in
set_option maxHeartbeats 4000000 in
theorem dropped_any (db : Nat) (tv : Value) (A : Option Addr) (c : Nat) (d : Dr) (es : List EN) (xb bb : Nat) (x : DE) (bid : Int) (w : World) (D : DraftAt w db tv (.slice A es.length c) d es) (h1 : w.cell? ⟨xb, 1, none⟩ = some (.string x.f1)) (h2 : w.cell? ⟨xb, 2, none⟩ = some (.string x.f2))
    (hb : x.f2.toList ≠ [] → ∃ g i, w.cell? ⟨bb, 0, none⟩ = some (.pointer (some ⟨g, i, none⟩)) ∧ w.cell? ⟨g, i, none⟩ = some (.int .i64 bid)) :
    Calls Tryz.prog 230 #[.pointer (some ⟨db, 0, none⟩), .func (.func 231) #[] #[.pointer (some ⟨xb, 0, none⟩), .pointer (some ⟨bb, 0, none⟩)]] w
      fun e w' => e = .returned (ptrAt A (dropped es (ofDeed x bid))) ∧ Fr [] w w' := by
  have HD := hid D
  have hs := D.small
  have d3 := D.c3
  have hx1 := hid h1
  have hx2 := hid h2
  have HB : Hid (x.f2.toList ≠ [] → ∀ w', Fr [] w w' → ∃ g i, w'.cell? ⟨bb, 0, none⟩ = some (.pointer (some ⟨g, i, none⟩)) ∧ w'.cell? ⟨g, i, none⟩ = some (.int .i64 bid)) := fun ht w' f => by
    obtain ⟨g, i, k1, k2⟩ := hb ht
    exact ⟨g, i, f.cell0 k1, f.cell0 k2⟩
  clear D h1 h2 hb
  go_enter Tryz.func230, Tryz.ntmps230
  go_wp2
  clear d3
  go_loopw [5, 13] (fun out i wr => ∃ k : Nat, i = .int .i64 k ∧ k ≤ es.length ∧ out = ptrAt A ((dropUpTo (ofDeed x bid) es k).map (·.1)) ∧ Fr [] w wr) (fun _ i _ => es.length - (intOf i).toNat)
  case atStart => exact ⟨0, rfl, Nat.zero_le _, rfl, Fr.refl _ _⟩
  case round =>
    obtain ⟨k, rfl, hk, rfl, hfr⟩ := hrel
    have FR := hid hfr
    have d3 := (HD.out.fr0 hfr).c3
    by_cases hlt : k < es.length
    · obtain ⟨y, hy⟩ : ∃ y, es[k]? = some y := ⟨_, List.getElem?_eq_getElem hlt⟩
      have hyd : es.getD k z278 = y := by simp [List.getD_eq_getElem?_getD, hy]
      obtain ⟨g, c', eA, hgl⟩ := ents_form HD.out.ents hy
      injection eA with eA1 eA2 eA3
      subst eA1
      obtain ⟨A3, c3, A4, c4, hcell⟩ := ents_vals (HD.out.fr0 hfr).ents hy
      have m8 := hcell 8 _ rfl
      have HC := hid hcell
      have hm0 : (0 : Int) ≤ (k : Int) := by omega
      have hm1 : (k : Int) < (es.length : Int) := by omega
      have hU := hid (show dropUpTo (ofDeed x bid) es (k + 1) = dropStep (ofDeed x bid) (dropUpTo (ofDeed x bid) es k) k y by rw [← hyd]; rfl)
      have HY := hid hy
      clear hcell hfr hyd eA3 hy
      by_cases hg0 : 0 < y.f0.f8
      · have hg1 : decide (0 < y.f0.f8) = true := by simp [hg0]
        have r0 : ∀ z : Older wr, z.now.cell? ⟨g, k * 11, none⟩ = some (.int .i64 y.f0.f0) := fun z => z.fr.cell0 (HC.out 0 _ rfl)
        have r1 : ∀ z : Older wr, z.now.cell? ⟨g, k * 11 + 1, none⟩ = some (.string y.f0.f1) := fun z => z.fr.cell0 (HC.out 1 _ rfl)
        have r2 : ∀ z : Older wr, z.now.cell? ⟨g, k * 11 + 2, none⟩ = some (.string y.f0.f2) := fun z => z.fr.cell0 (HC.out 2 _ rfl)
        have r3 : ∀ z : Older wr, z.now.cell? ⟨g, k * 11 + 3, none⟩ = some (.slice A3 y.f0.f3.length c3) := fun z => z.fr.cell0 (HC.out 3 _ rfl)
        have r4 : ∀ z : Older wr, z.now.cell? ⟨g, k * 11 + 4, none⟩ = some (.slice A4 y.f0.f4.length c4) := fun z => z.fr.cell0 (HC.out 4 _ rfl)
        have r5 : ∀ z : Older wr, z.now.cell? ⟨g, k * 11 + 5, none⟩ = some (.int .i64 y.f0.f5) := fun z => z.fr.cell0 (HC.out 5 _ rfl)
        have r6 : ∀ z : Older wr, z.now.cell? ⟨g, k * 11 + 6, none⟩ = some (.int .i64 y.f0.f6) := fun z => z.fr.cell0 (HC.out 6 _ rfl)
        have r7 : ∀ z : Older wr, z.now.cell? ⟨g, k * 11 + 7, none⟩ = some (.int .i64 y.f0.f7) := fun z => z.fr.cell0 (HC.out 7 _ rfl)
        have r8 : ∀ z : Older wr, z.now.cell? ⟨g, k * 11 + 8, none⟩ = some (.int .i64 y.f0.f8) := fun z => z.fr.cell0 (HC.out 8 _ rfl)
        have r9 : ∀ z : Older wr, z.now.cell? ⟨g, k * 11 + 9, none⟩ = some (.int .i64 y.f1) := fun z => z.fr.cell0 (HC.out 9 _ rfl)
        have r10 : ∀ z : Older wr, z.now.cell? ⟨g, k * 11 + 10, none⟩ = some (.int .i64 y.f2) := fun z => z.fr.cell0 (HC.out 10 _ rfl)
        have CU := hid (fun z : Older wr => und1_any xb bb x y A3 y.f0.f3.length c3 A4 y.f0.f4.length c4 bid z.now ((FR.out.then z.fr).cell0 hx1.out) ((FR.out.then z.fr).cell0 hx2.out) (fun h => HB.out h _ (FR.out.then z.fr)))
        unfold entV at CU
        clear m8
        by_cases hp : ofDeed x bid y = true
        · rw [hp] at CU
          cases ha : dropUpTo (ofDeed x bid) es k with
          | none =>
            have HU := hid (show dropUpTo (ofDeed x bid) es (k + 1) = some (k, y.f0.f8) by rw [hU.out, ha]; exact step_none hg1 hp)
            clear hU ha hp
            rw [show ptrAt (some ⟨g, 0, none⟩) ((none : Option (Nat × Int)).map (·.1)) = .pointer none from rfl]
            go_wp2_with fail
            refine wp_region_older wr (by kernel_rfl) (by kernel_rfl) (Fr.refl _ _) ?_
            repeat (go_big_quiet_step ((go_at_call 231; exact Calls.older (CU.out _))))
            refine wpQuiet_nil ?_
            intro _ hw'
            obtain ⟨z, hw''⟩ := hw'
            subst hw''
            go_wp2
            go_roundw
            case rel => exact ⟨k + 1, by go_num, by omega, by rw [HU.out]; exact (ptr_some g k).symm, FR.out.then z.fr⟩
            case measure => simp [intOf]; omega
          | some jg =>
            obtain ⟨j, gj⟩ := jg
            obtain ⟨hj, hgj⟩ := dropUpTo_at ha
            obtain ⟨yj, hyj, -, hyjd⟩ := getD_of (es := es) (k := j) (by omega)
            rw [hyjd] at hgj
            have rj : ∀ z : Older wr, z.now.cell? ⟨g, j * 11 + 8, none⟩ = some (.int .i64 gj) := fun z => by
              rw [← hgj]
              exact (ents_enc (HD.out.fr0 (FR.out.then z.fr)).ents hyj).gone
            have HU0 := hid (show dropUpTo (ofDeed x bid) es (k + 1) = if decide (gj ≤ y.f0.f8) = true then some (k, y.f0.f8) else some (j, gj) by rw [hU.out, ha]; exact step_some hg1 hp)
            rw [show ptrAt (some ⟨g, 0, none⟩) ((some (j, gj)).map (·.1)) = .pointer (some ⟨g, j * 11, none⟩) from ptr_some g j]
            clear hU ha hp hgj hyjd hyj
            cases hd : decide (gj ≤ y.f0.f8) with
            | true =>
              have HU := hid (show dropUpTo (ofDeed x bid) es (k + 1) = some (k, y.f0.f8) by rw [HU0.out, hd]; rfl)
              clear HU0
              go_wp2_with fail
              refine wp_region_older wr (by kernel_rfl) (by kernel_rfl) (Fr.refl _ _) ?_
              repeat (go_big_quiet_step ((go_at_call 231; exact Calls.older (CU.out _))))
              refine wpQuiet_nil ?_
              intro _ hw'
              obtain ⟨z, hw''⟩ := hw'
              subst hw''
              go_wp2
              go_roundw
              case rel => exact ⟨k + 1, by go_num, by omega, by rw [HU.out]; exact (ptr_some g k).symm, FR.out.then z.fr⟩
              case measure => simp [intOf]; omega
            | false =>
              have HU := hid (show dropUpTo (ofDeed x bid) es (k + 1) = some (j, gj) by rw [HU0.out, hd]; rfl)
              clear HU0
              go_wp2_with fail
              refine wp_region_older wr (by kernel_rfl) (by kernel_rfl) (Fr.refl _ _) ?_
              repeat (go_big_quiet_step ((go_at_call 231; exact Calls.older (CU.out _))))
              refine wpQuiet_nil ?_
              intro _ hw'
              obtain ⟨z, hw''⟩ := hw'
              subst hw''
              go_wp2
              go_roundw
              case rel => exact ⟨k + 1, by go_num, by omega, by rw [HU.out]; exact (ptr_some g j).symm, FR.out.then z.fr⟩
              case measure => simp [intOf]; omega
        · have hp2 : ofDeed x bid y = false := by simpa using hp
          have HU := hid (hU.out.trans (step_false2 hp2))
          rw [hp2] at CU
          clear hU hp hp2
          obtain ⟨po, hpo⟩ : ∃ po, po = ptrAt (some ⟨g, 0, none⟩) ((dropUpTo (ofDeed x bid) es k).map (·.1)) := ⟨_, rfl⟩
          rw [← hpo]
          have HPO := hid hpo
          clear hpo
          go_wp2_with fail
          refine wp_region_older wr (by kernel_rfl) (by kernel_rfl) (Fr.refl _ _) ?_
          repeat (go_big_quiet_step ((go_at_call 231; exact Calls.older (CU.out _))))
          refine wpQuiet_nil ?_
          intro _ hw'
          obtain ⟨z, hw''⟩ := hw'
          subst hw''
          go_wp2
          go_roundw
          case rel => exact ⟨k + 1, by go_num, by omega, by rw [HU.out]; exact HPO.out, FR.out.then z.fr⟩
          case measure => simp [intOf]; omega
      · have hg1 : decide (0 < y.f0.f8) = false := by simp [hg0]
        have HU := hid (hU.out.trans (step_false1 hg1))
        clear hU hg0
        obtain ⟨po, hpo⟩ : ∃ po, po = ptrAt (some ⟨g, 0, none⟩) ((dropUpTo (ofDeed x bid) es k).map (·.1)) := ⟨_, rfl⟩
        rw [← hpo]
        have HPO := hid hpo
        clear hpo
        go_wp2_with fail
        go_quiet (fail)
        go_wp2
        go_roundw
        case rel => exact ⟨k + 1, by go_num, by omega, by rw [HU.out]; exact HPO.out, FR.out.drewN _⟩
        case measure => simp [intOf]; omega
    · obtain rfl : k = es.length := by omega
      go_wp2
      go_ret
      exact ⟨rfl, FR.out⟩
end Go.Proofs.YtkolnoadeihmoaaGreat
