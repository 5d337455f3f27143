/-
  Catalog: a draft in memory; an entry of it written.
  Catalog: keep, lay.
  Catalog: the tables of a database are visited.
-/
import Derived.Deep.RegionHeld3
import Derived.Test.YtkolnoadeihmoaaGreatKd4
namespace Go.Proofs.YtkolnoadeihmoaaGreat
open Go.RowKit Go.Proofs.YtkolnoadeihmoaaGreatW.PrintWords
structure DraftAt (w : World) (db : Nat) (tv ev : Value) (d : Dr) (es : List EN) : Prop where
  blk : w.heap[db]? = some (.cells #[.int .i64 d.commit, .int .i64 d.time, tv, ev] 281 (0, 0))
  times : kI.R 3 w 0 (fun _ => True) tv d.times
  ents : kE.R 278 w 0 (fun _ => True) ev es
  nil : es = [] → ev = .slice none 0 0
  small : es.length ≤ 1000000
section
variable {w : World} {db : Nat} {tv ev : Value} {d : Dr} {es : List EN}
theorem DraftAt.c0 (h : DraftAt w db tv ev d es) : w.cell? ⟨db, 0, none⟩ = some (.int .i64 d.commit) := cell_of_row w db 0 _ _ _ h.blk
theorem DraftAt.c1 (h : DraftAt w db tv ev d es) : w.cell? ⟨db, 1, none⟩ = some (.int .i64 d.time) := cell_of_row w db 1 _ _ _ h.blk
theorem DraftAt.c2 (h : DraftAt w db tv ev d es) : w.cell? ⟨db, 2, none⟩ = some tv := cell_of_row w db 2 _ _ _ h.blk
theorem DraftAt.c3 (h : DraftAt w db tv ev d es) : w.cell? ⟨db, 3, none⟩ = some ev := cell_of_row w db 3 _ _ _ h.blk
theorem DraftAt.lt (h : DraftAt w db tv ev d es) : db < w.heap.size := blk_lt h.blk
theorem DraftAt.ne (h : DraftAt w db tv ev d es) : ∀ k, ev.ownBlock = some k → k ≠ db ∧ k < w.heap.size := by
  intro k hk
  obtain ⟨cells, hc⟩ := Kd.R_typed h.ents k hk
  refine ⟨?_, blk_lt hc⟩
  rintro rfl
  rw [h.blk] at hc
  injection hc with hc; injection hc with _ hc; exact absurd hc (by decide)
theorem DraftAt.fr {w' : World} {S : List Nat} (h : DraftAt w db tv ev d es) (hf : Fr S w w') (h1 : db ∉ S) (h2 : NoT w [278, 192, 3] S) : DraftAt w' db tv ev d es :=
  ⟨hf.blk h.blk h1, R_fr h.times hf (fun k hk q hq => h2 k hk q (by
      rcases List.mem_cons.1 hq with rfl | hq
      · decide
      · simp [Kd.int, Kd.scalar] at hq)), R_fr h.ents hf (fun k hk q hq => h2 k hk q (by
      rcases List.mem_cons.1 hq with rfl | hq
      · decide
      · simp [kE, kA, Kd.iso, Kd.pair, Kd.int, Kd.string, Kd.scalar, ros, k192] at hq
        simp [hq])), h.nil, h.small⟩
theorem DraftAt.fr0 {w' : World} (h : DraftAt w db tv ev d es) (hf : Fr [] w w') : DraftAt w' db tv ev d es := h.fr hf (by simp) (NoT.nil _ _)
def enL (x : EN) (v3 v4 : Value) : List Value := [.int .i64 x.f0.f0, .string x.f0.f1, .string x.f0.f2, v3, v4, .int .i64 x.f0.f5, .int .i64 x.f0.f6, .int .i64 x.f0.f7, .int .i64 x.f0.f8, .int .i64 x.f1, .int .i64 x.f2]
theorem ents_at {g n c i : Nat} {x : EN} (h : kE.R 278 w 0 (fun _ => True) (.slice (some ⟨g, 0, none⟩) n c) es) (hx : es[i]? = some x) :
    ∃ v3 v4, kE.M w 0 (fun k => k ≠ g) x (enL x v3 v4) ∧ (∀ j u, (enL x v3 v4)[j]? = some u → w.cell? ⟨g, i * 11 + j, none⟩ = some u) ∧ ∀ j, w.frozen? ⟨g, i * 11 + j, none⟩ = false := by
  obtain ⟨hn, -, -⟩ := Kd.R_reads' h
  have hi := (List.getElem?_eq_some_iff.1 hx).1
  obtain ⟨c, h1, h2, h3, h4⟩ := Kd.R_elem h z278 (i : Int) (by omega) (by omega)
  have e : es.getD ((i : Int)).toNat z278 = x := by simp [List.getD_eq_getElem?_getD, hx]
  rw [e] at h2
  obtain ⟨v3, v4, rfl, g3, g4⟩ := kE_open h2
  refine ⟨v3, v4, kE.M_mono (fun k hk => hk.2) (kE_mk x g3 g4), h3, h4⟩
theorem ents_enc {g n c i : Nat} {x : EN} (h : kE.R 278 w 0 (fun _ => True) (.slice (some ⟨g, 0, none⟩) n c) es) (hx : es[i]? = some x) : EnC w g i x := by
  obtain ⟨v3, v4, -, hc, -⟩ := ents_at h hx
  exact ⟨hc 0 _ rfl, hc 1 _ rfl, hc 2 _ rfl, hc 5 _ rfl, hc 6 _ rfl, hc 7 _ rfl, hc 8 _ rfl, hc 9 _ rfl, hc 10 _ rfl⟩
theorem ents_form {v : Value} {i : Nat} {x : EN} (h : kE.R 278 w 0 (fun _ => True) v es) (hx : es[i]? = some x) : ∃ g c, v = .slice (some ⟨g, 0, none⟩) es.length c ∧ g < w.heap.size := by
  obtain ⟨g, c, e, _, hg, _⟩ := Kd.R_form h (by have := (List.getElem?_eq_some_iff.1 hx).1; omega)
  exact ⟨g, c, e, hg⟩
theorem ents_ens {A : Option Addr} {n c : Nat} (h : kE.R 278 w 0 (fun _ => True) (.slice A n c) es) (hl : es.length ≤ 1000000) : Ens w A n es := by
  obtain ⟨hn, -, -⟩ := Kd.R_reads' h
  refine ⟨hn.symm, by omega, fun i x hx => ?_⟩
  obtain ⟨g, c', e, -⟩ := ents_form h hx
  injection e with e1 e2 e3
  subst e1
  exact ⟨g, rfl, ents_enc h hx⟩
theorem DraftAt.open (h : DraftAt w db tv ev d es) : ∃ A c, ev = .slice A es.length c ∧ Ens w A es.length es := by
  obtain ⟨A, c, e⟩ := Kd.R_slice h.ents
  have := h.ents
  rw [e] at this
  exact ⟨A, c, e, ents_ens this h.small⟩
theorem kE_E {q : Nat} (hq : q ∈ 278 :: kE.E) : q = 278 ∨ q = 192 ∨ q = 3 := by
  rcases List.mem_cons.1 hq with h | hq
  · exact .inl h
  · simp [kE, kA, Kd.iso, Kd.pair, Kd.int, Kd.string, Kd.scalar, ros, k192] at hq
    exact .inr hq
theorem DraftAt.store {g c i : Nat} {x x' : EN} {u : Value} (j : Nat) (h : DraftAt w db tv (.slice (some ⟨g, 0, none⟩) es.length c) d es) (hx : es[i]? = some x) (hj : j < 11)
    (hM : ∀ v3 v4, kE.M w 0 (fun k => k ≠ g) x (enL x v3 v4) → kE.M w 0 (fun k => k ≠ g) x' ((enL x v3 v4).take j ++ [u] ++ (enL x v3 v4).drop (j + 1))) :
    DraftAt (w.setCell ⟨g, i * 11 + j, none⟩ u) db tv (.slice (some ⟨g, 0, none⟩) es.length c) d (es.set i x') := by
  obtain ⟨v3, v4, h1, h2, h3⟩ := ents_at h.ents hx
  have hi := (List.getElem?_eq_some_iff.1 hx).1
  have hg := h.ne g rfl
  obtain ⟨cells, hgc⟩ := Kd.R_typed h.ents g rfl
  have r := (Kd.R_seg h.ents (i : Int) (by omega) (by omega) (c := enL x v3 v4) (seg := [u]) (j := j) (okp := fun k => k ≠ g) rfl h2 (by show j + 1 ≤ 11; omega) (hM v3 v4 h1) (fun k hk => ⟨trivial, hk⟩)).1
  have fr : Fr [g] w (w.setCell ⟨g, i * 11 + j, none⟩ u) := (Fr.refl _ w).setCell (.inl (by simp)) u
  refine ⟨fr.blk h.blk (by simp; exact Ne.symm hg.1), R_fr h.times fr (NoT.one hgc (fun q hq => ?_)), ?_, fun he => ?_, by simp; exact h.small⟩
  · rcases List.mem_cons.1 hq with rfl | hq
    · decide
    · simp [Kd.int, Kd.scalar] at hq
  · simp only [Int.toNat_natCast] at r; exact r
  · have : es = [] := by simpa using he
    subst this; simp at hx
end
section
variable {w : World} {db : Nat} {tv : Value} {d : Dr} {es : List EN} {g c i : Nat} {x : EN}
theorem M_of {x x' : EN} {v3 v4 : Value} {ok : Nat → Prop} (h : kE.M w 0 ok x (enL x v3 v4)) (e3 : x'.f0.f3 = x.f0.f3) (e4 : x'.f0.f4 = x.f0.f4) : kE.M w 0 ok x' (enL x' v3 v4) := by
  obtain ⟨u3, u4, e, g3, g4⟩ := kE_open h
  simp only [enL, List.cons.injEq, and_true, true_and] at e
  obtain ⟨rfl, rfl⟩ := e
  exact kE_mk x' (by rw [e3]; exact g3) (by rw [e4]; exact g4)
theorem DraftAt.setBase (h : DraftAt w db tv (.slice (some ⟨g, 0, none⟩) es.length c) d es) (hx : es[i]? = some x) (s : ByteArray) : DraftAt (w.setCell ⟨g, i * 11 + 1, none⟩ (.string s)) db tv (.slice (some ⟨g, 0, none⟩) es.length c) d (es.set i ⟨{ x.f0 with f1 := s }, x.f1, x.f2⟩) :=
  h.store 1 hx (by omega) (fun _ _ hm => M_of (x' := ⟨{ x.f0 with f1 := s }, x.f1, x.f2⟩) hm rfl rfl)
theorem DraftAt.setTable (h : DraftAt w db tv (.slice (some ⟨g, 0, none⟩) es.length c) d es) (hx : es[i]? = some x) (s : ByteArray) : DraftAt (w.setCell ⟨g, i * 11 + 2, none⟩ (.string s)) db tv (.slice (some ⟨g, 0, none⟩) es.length c) d (es.set i ⟨{ x.f0 with f2 := s }, x.f1, x.f2⟩) :=
  h.store 2 hx (by omega) (fun _ _ hm => M_of (x' := ⟨{ x.f0 with f2 := s }, x.f1, x.f2⟩) hm rfl rfl)
theorem DraftAt.setKeep (h : DraftAt w db tv (.slice (some ⟨g, 0, none⟩) es.length c) d es) (hx : es[i]? = some x) (s : Int) : DraftAt (w.setCell ⟨g, i * 11 + 5, none⟩ (.int .i64 s)) db tv (.slice (some ⟨g, 0, none⟩) es.length c) d (es.set i ⟨{ x.f0 with f5 := s }, x.f1, x.f2⟩) :=
  h.store 5 hx (by omega) (fun _ _ hm => M_of (x' := ⟨{ x.f0 with f5 := s }, x.f1, x.f2⟩) hm rfl rfl)
theorem DraftAt.setLaid (h : DraftAt w db tv (.slice (some ⟨g, 0, none⟩) es.length c) d es) (hx : es[i]? = some x) (s : Int) : DraftAt (w.setCell ⟨g, i * 11 + 7, none⟩ (.int .i64 s)) db tv (.slice (some ⟨g, 0, none⟩) es.length c) d (es.set i ⟨{ x.f0 with f7 := s }, x.f1, x.f2⟩) :=
  h.store 7 hx (by omega) (fun _ _ hm => M_of (x' := ⟨{ x.f0 with f7 := s }, x.f1, x.f2⟩) hm rfl rfl)
theorem DraftAt.setGone (h : DraftAt w db tv (.slice (some ⟨g, 0, none⟩) es.length c) d es) (hx : es[i]? = some x) (s : Int) : DraftAt (w.setCell ⟨g, i * 11 + 8, none⟩ (.int .i64 s)) db tv (.slice (some ⟨g, 0, none⟩) es.length c) d (es.set i ⟨{ x.f0 with f8 := s }, x.f1, x.f2⟩) :=
  h.store 8 hx (by omega) (fun _ _ hm => M_of (x' := ⟨{ x.f0 with f8 := s }, x.f1, x.f2⟩) hm rfl rfl)
theorem DraftAt.setWith (h : DraftAt w db tv (.slice (some ⟨g, 0, none⟩) es.length c) d es) (hx : es[i]? = some x) (s : Int) : DraftAt (w.setCell ⟨g, i * 11 + 10, none⟩ (.int .i64 s)) db tv (.slice (some ⟨g, 0, none⟩) es.length c) d (es.set i ⟨x.f0, x.f1, s⟩) :=
  h.store 10 hx (by omega) (fun _ _ hm => M_of (x' := ⟨x.f0, x.f1, s⟩) hm rfl rfl)
theorem M_ne {α : Type} {k : Kd α} {w : World} {base : Nat} {y : α} {cs : List Value} {g : Nat} {cells : Array Value} {t : TypeId} (h : k.M w base (fun _ => True) y cs) (hg : w.heap[g]? = some (.cells cells t (0, 0))) (ht : ∀ q ∈ k.E, q ≠ t) : k.M w base (fun k => k ≠ g) y cs :=
  k.M_mono (fun _ hk => hk.2) (Kd.M_types h hg ht)
theorem DraftAt.setCols (h : DraftAt w db tv (.slice (some ⟨g, 0, none⟩) es.length c) d es) (hx : es[i]? = some x) (s : List CO) (v : Value) (hv : kC.R 192 w 0 (fun _ => True) v s) : DraftAt (w.setCell ⟨g, i * 11 + 3, none⟩ v) db tv (.slice (some ⟨g, 0, none⟩) es.length c) d (es.set i ⟨{ x.f0 with f3 := s }, x.f1, x.f2⟩) := by
  refine h.store 3 hx (by omega) (fun v3 v4 hm => ?_)
  obtain ⟨cells, hgc⟩ := Kd.R_typed h.ents g rfl
  obtain ⟨u3, u4, e, g3, g4⟩ := kE_open hm
  simp only [enL, List.cons.injEq, and_true, true_and] at e
  obtain ⟨rfl, rfl⟩ := e
  exact kE_mk ⟨{ x.f0 with f3 := s }, x.f1, x.f2⟩ (M_ne (ros_of_R hv) hgc (by decide)) g4
theorem DraftAt.setFiles (h : DraftAt w db tv (.slice (some ⟨g, 0, none⟩) es.length c) d es) (hx : es[i]? = some x) (s : List Int) (v : Value) (hv : kI.R 3 w 0 (fun _ => True) v s) : DraftAt (w.setCell ⟨g, i * 11 + 4, none⟩ v) db tv (.slice (some ⟨g, 0, none⟩) es.length c) d (es.set i ⟨{ x.f0 with f4 := s }, x.f1, x.f2⟩) := by
  refine h.store 4 hx (by omega) (fun v3 v4 hm => ?_)
  obtain ⟨cells, hgc⟩ := Kd.R_typed h.ents g rfl
  obtain ⟨u3, u4, e, g3, g4⟩ := kE_open hm
  simp only [enL, List.cons.injEq, and_true, true_and] at e
  obtain ⟨rfl, rfl⟩ := e
  exact kE_mk ⟨{ x.f0 with f4 := s }, x.f1, x.f2⟩ g3 (M_ne (ros_of_R hv) hgc (by decide))
end
def Deeded (db : Nat) (tv ev : Value) (d : Dr) (r : Int × List EN) (w : World) (e : Ending) (w' : World) : Prop :=
  e = .returned (.int .i64 r.1) ∧ ∃ ev', DraftAt w' db tv ev' d r.2 ∧ Fr (db :: ev.ownBlock.toList) w w' ∧ ∀ k, ev'.ownBlock = some k → ev.ownBlock = some k ∨ w.heap.size ≤ k
theorem Deeded.same {db : Nat} {tv ev : Value} {d : Dr} {es : List EN} {w w' : World} {r : Int} (h : DraftAt w db tv ev d es) (hf : Fr [] w w') : Deeded db tv ev d (r, es) w (.returned (.int .i64 r)) w' :=
  ⟨rfl, ev, h.fr0 hf, hf.mono (by simp), fun k hk => .inl hk⟩
theorem set_E {es : List EN} {i : Nat} {y : EN} (hy : es[i]? = some y) (f : EN → EN) : setE es i f = es.set i (f y) := by simp [setE, List.getD_eq_getElem?_getD, hy]
theorem Deeded.wrote {db : Nat} {tv : Value} {d : Dr} {es : List EN} {g n c : Nat} {w w1 w' : World} {i : Nat} {y y' : EN} (f : EN → EN) (hy : es[i]? = some y) (e : f y = y')
    (h : DraftAt w' db tv (.slice (some ⟨g, 0, none⟩) n c) d (es.set i y')) (f1 : Fr [] w w1) (f2 : Fr [g] w1 w') : Deeded db tv (.slice (some ⟨g, 0, none⟩) n c) d (0, setE es i f) w (.returned (.int .i64 0)) w' :=
  ⟨rfl, _, by rw [set_E hy, e]; exact h, (f1.mono (by simp)).trans f2 (fun z hz => by simp at hz; subst hz; exact .inl (by simp [Value.ownBlock])), fun k hk => .inl hk⟩
theorem find_get {es : List EN} {b t : ByteArray} {i : Nat} (h : findIx es b t = some i) : ∃ y, es[i]? = some y := ⟨_, List.getElem?_eq_getElem (find_lt h)⟩
set_option maxRecDepth 100000 in
theorem keep_any (db : Nat) (tv ev : Value) (d : Dr) (es : List EN) (x : DE) (A4 : Option Addr) (c4 : Nat) (A6 : Option Addr) (c6 : Nat) (w : World) (h : DraftAt w db tv ev d es) :
    Calls Tryz.prog 194 #[.pointer (some ⟨db, 0, none⟩), deedV x A4 c4 A6 c6] w (Deeded db tv ev d (keepIt es x) w) := by
  obtain ⟨A, c, rfl, hE⟩ := h.open
  have F0 := hid ((Fr.refl [] w).alloc (.cells #[.string x.f0, .string x.f1, .string x.f2, .string x.f3, .slice A4 x.f4.length c4, .int .i64 x.f5, .slice A6 x.f6.length c6] 135))
  have H := hid h
  have cF := hid (find_any db A es.length c es x A4 c4 A6 c6 _ (F0.out.cell0 h.c3) (hE.fr0 F0.out))
  clear h hE
  unfold deedV at cF ⊢
  cases hi : findIx es x.f1 x.f2 with
  | none =>
    have e0 : Hid (keepIt es x = (4, es)) := by unfold keepIt; rw [hi]; exact rfl
    rw [hi] at cF
    clear hi
    go_enter Tryz.func194, Tryz.ntmps194
    go_wp2_with fail
    refine cF.out.mono ?_
    rintro e w1 ⟨rfl, f1⟩
    rw [ptr_none]
    go_wp2
    go_ret
    rw [e0.out]
    exact Deeded.same H.out (F0.out.then f1)
  | some i =>
    have e0 : Hid (keepIt es x = (0, setE es i (keep1 x.f5))) := by unfold keepIt; rw [hi]; exact rfl
    obtain ⟨y, hy⟩ := find_get hi
    obtain ⟨g, c', e, -⟩ := ents_form H.out.ents hy
    injection e with e1 e2 e3
    subst e1
    rw [hi, ptr_some] at cF
    clear hi e3
    go_enter Tryz.func194, Tryz.ntmps194
    go_wp2_with fail
    refine cF.out.mono ?_
    rintro e w1 ⟨rfl, f1⟩
    have F1 := hid (F0.out.then f1)
    have D1 := H.out.fr0 F1.out
    obtain ⟨v3, v5, -, hc, hz⟩ := ents_at D1.ents hy
    have d5 := hc 5 _ rfl
    have z5 := hz 5
    have b5 : w1.cell? ⟨w.heap.size, 5, none⟩ = some (.int .i64 x.f5) := f1.cell0 (by simp)
    have HE := hid (D1.setKeep hy x.f5)
    have HY := hid hy
    clear f1 hc hz D1 hy
    go_wp2
    go_ret
    rw [e0.out]
    exact Deeded.wrote (keep1 x.f5) HY.out rfl HE.out F1.out ((Fr.refl _ _).setCell (.inl (by simp)) _)
theorem set_at {es : List EN} {i : Nat} {y : EN} (hy : es[i]? = some y) (z : EN) : (es.set i z)[i]? = some z := List.getElem?_set_self (List.getElem?_eq_some_iff.1 hy).1
theorem lay_end {db : Nat} {tv : Value} {d : Dr} {es : List EN} {x : DE} {g n c : Nat} {w w1 w3 : World} {i : Nat} {y : EN} {v4 v6 : Value} (hy : es[i]? = some y) (hn : n = es.length) (D : DraftAt w3 db tv (.slice (some ⟨g, 0, none⟩) n c) d es)
    (r4 : kC.R 192 w3 0 (fun _ => True) v4 x.f4) (r6 : kI.R 3 w3 0 (fun _ => True) v6 x.f6) (f1 : Fr [] w w1)
    (f2 : Fr [g] w1 (((w3.setCell ⟨g, i * 11 + 3, none⟩ v4).setCell ⟨g, i * 11 + 4, none⟩ v6).setCell ⟨g, i * 11 + 7, none⟩ (.int .i64 d.commit))) :
    Deeded db tv (.slice (some ⟨g, 0, none⟩) n c) d (0, setE es i (lay1 d x)) w (.returned (.int .i64 0)) (((w3.setCell ⟨g, i * 11 + 3, none⟩ v4).setCell ⟨g, i * 11 + 4, none⟩ v6).setCell ⟨g, i * 11 + 7, none⟩ (.int .i64 d.commit)) := by
  subst hn
  obtain ⟨cells, hgc⟩ := Kd.R_typed D.ents g rfl
  have h1 := D.setCols hy x.f4 v4 r4
  rw [show es.length = (es.set i ⟨{ y.f0 with f3 := x.f4 }, y.f1, y.f2⟩).length by simp] at h1
  have h2 := h1.setFiles (set_at hy _) x.f6 v6 (Kd.R_set r6 hgc (by
    intro q hq
    rcases List.mem_cons.1 hq with rfl | hq
    · decide
    · simp [Kd.int, Kd.scalar] at hq) _ _)
  rw [List.set_set] at h2
  rw [show (es.set i ⟨{ y.f0 with f3 := x.f4 }, y.f1, y.f2⟩).length = (es.set i ⟨{ y.f0 with f3 := x.f4, f4 := x.f6 }, y.f1, y.f2⟩).length by simp] at h2
  have h3 := h2.setLaid (set_at hy _) d.commit
  rw [List.set_set, List.length_set] at h3
  exact Deeded.wrote (lay1 d x) hy rfl h3 f1 f2
set_option maxRecDepth 100000 in
set_option maxHeartbeats 1000000 in
theorem lay_any (db : Nat) (tv ev : Value) (d : Dr) (es : List EN) (x : DE) (A4 : Option Addr) (c4 : Nat) (A6 : Option Addr) (c6 : Nat) (w : World) (h : DraftAt w db tv ev d es)
    (h4 : kC.C w A4 x.f4.length x.f4) (l4 : x.f4.length ≤ 1000000)
    (h6 : kI.C w A6 x.f6.length x.f6) (l6 : x.f6.length ≤ 17592186044416) :
    Calls Tryz.prog 193 #[.pointer (some ⟨db, 0, none⟩), deedV x A4 c4 A6 c6] w (Deeded db tv ev d (lay d es x) w) := by
  obtain ⟨A, c, rfl, hE⟩ := h.open
  have F0 := hid ((Fr.refl [] w).alloc (.cells #[.string x.f0, .string x.f1, .string x.f2, .string x.f3, .slice A4 x.f4.length c4, .int .i64 x.f5, .slice A6 x.f6.length c6] 135))
  have H := hid h
  have cF := hid (find_any db A es.length c es x A4 c4 A6 c6 _ (F0.out.cell0 h.c3) (hE.fr0 F0.out))
  have H4 := hid h4
  have H6 := hid h6
  clear h hE h4 h6
  unfold deedV at cF ⊢
  cases hi : findIx es x.f1 x.f2 with
  | none =>
    have e0 : Hid (lay d es x = (4, es)) := by unfold lay; rw [hi]; exact rfl
    rw [hi] at cF
    clear hi
    go_enter Tryz.func193, Tryz.ntmps193
    go_wp2_with fail
    refine cF.out.mono ?_
    rintro e w1 ⟨rfl, f1⟩
    rw [ptr_none]
    go_wp2
    go_ret
    rw [e0.out]
    exact Deeded.same H.out (F0.out.then f1)
  | some i =>
    have e0 : Hid (lay d es x = (0, setE es i (lay1 d x))) := by unfold lay; rw [hi]; exact rfl
    obtain ⟨y, hy⟩ := find_get hi
    obtain ⟨g, c', e, -⟩ := ents_form H.out.ents hy
    injection e with e1 e2 e3
    subst e1
    rw [hi, ptr_some] at cF
    clear hi e3
    go_enter Tryz.func193, Tryz.ntmps193
    go_wp2_with fail
    refine cF.out.mono ?_
    rintro e w1 ⟨rfl, f1⟩
    have F1 := hid (F0.out.then f1)
    have D1 := hid (H.out.fr0 F1.out)
    have b4 : w1.cell? ⟨w.heap.size, 4, none⟩ = some (.slice A4 x.f4.length c4) := f1.cell0 (by simp)
    have b6 : w1.cell? ⟨w.heap.size, 6, none⟩ = some (.slice A6 x.f6.length c6) := f1.cell0 (by simp)
    have c0 := D1.out.c0
    have HY := hid hy
    have HS : Hid (∀ w', Fr [] w1 w' → (fun w' => w'.cell? ⟨w.heap.size, 4, none⟩ = some (.slice A4 x.f4.length c4) ∧ w'.cell? ⟨w.heap.size, 6, none⟩ = some (.slice A6 x.f6.length c6) ∧ w'.cell? ⟨db, 0, none⟩ = some (.int .i64 d.commit)) w') := fun w' f => by
      exact ⟨f.cell0 b4, f.cell0 b6, f.cell0 c0⟩
    have HSg : Hid (∀ w', Fr [g] w1 w' → (fun w' => w'.cell? ⟨w.heap.size, 4, none⟩ = some (.slice A4 x.f4.length c4) ∧ w'.cell? ⟨w.heap.size, 6, none⟩ = some (.slice A6 x.f6.length c6) ∧ w'.cell? ⟨db, 0, none⟩ = some (.int .i64 d.commit)) w') := fun w' f => by
      have hg := H.out.ne g rfl
      exact ⟨f.cellE b4 (by simp; omega), f.cellE b6 (by simp; omega), f.cellE c0 (by simp; omega)⟩
    have S0 := HS.out _ (Fr.refl [] w1).drew
    have FD := hid (Fr.refl [] w1).drew
    clear f1 hy b4 b6 c0
    go_wp2_with fail
    go_region_held3 (fun w' => w'.cell? ⟨w.heap.size, 4, none⟩ = some (.slice A4 x.f4.length c4) ∧ w'.cell? ⟨w.heap.size, 6, none⟩ = some (.slice A6 x.f6.length c6) ∧ w'.cell? ⟨db, 0, none⟩ = some (.int .i64 d.commit)) ((with_reducible first | exact S0 | exact S2 | exact S3 | exact S4 | exact S5 | exact S6)) (first
      | (go_at_call 132; refine (clone_cols A4 c4 _ x.f4 (Kd.C_below H4.out F1.out.drew.below0) l4).mono ?_; rintro e w2 ⟨u4, rfl, r4, f2, -⟩; obtain ⟨A5, c5, rfl⟩ := Kd.R_slice r4; have F2 := hid (FD.out.then f2); have R4 := hid r4; have S2 := HS.out _ F2.out; clear f2 r4)
      | (go_at_call 133; refine (clone_ints A6 c6 _ x.f6 (Kd.C_below H6.out (F1.out.then F2.out).below0) l6).mono ?_; rintro e w3 ⟨u6, rfl, r6, f3, -⟩; obtain ⟨A7, c7, rfl⟩ := Kd.R_slice r6; have F3 := hid (F2.out.then f3); have R4' := hid (R_fr0 R4.out f3); have R6 := hid r6; have S3 := HS.out _ F3.out; have D3 := hid (D1.out.fr0 F3.out); obtain ⟨t3, t4, -, hc, hz⟩ := ents_at D3.out.ents HY.out; have q3 := hc 3 _ rfl; have q4 := hc 4 _ rfl; have q7 := hc 7 _ rfl; have z3 := hz 3; have z4 := hz 4; have z7 := hz 7; have f4 := (F3.out.mono (S' := [g]) (by simp)).setCell (p := ⟨g, i * 11 + 3, none⟩) (.inl (by simp)) (.slice A5 x.f4.length c5); have f5 := f4.setCell (p := ⟨g, i * 11 + 4, none⟩) (.inl (by simp)) (.slice A7 x.f6.length c7); have f6 := f5.setCell (p := ⟨g, i * 11 + 7, none⟩) (.inl (by simp)) (.int .i64 d.commit); have S4 := HSg.out _ f4; have S5 := HSg.out _ f5; have S6 := HSg.out _ f6; have F6 := hid f6; clear f3 r6 hc hz f4 f5 f6))
    go_wp2
    go_ret
    rw [e0.out]
    exact lay_end HY.out rfl D3.out R4'.out R6.out F1.out F6.out
structure Visits (db g n c : Nat) (hm : Nat → Int) (home : Int) (J : Nat → World → Prop) : Prop where
  d3 : ∀ k w, J k w → w.cell? ⟨db, 3, none⟩ = some (.slice (some ⟨g, 0, none⟩) n c)
  d9 : ∀ k w, k < n → J k w → w.cell? ⟨g, k * 11 + 9, none⟩ = some (.int .i64 (hm k))
  skip : ∀ k w, k < n → hm k ≠ home → J k w → J (k + 1) w
def Visited (J : Nat → World → Prop) (k : Nat) (e : Ending) (w' : World) : Prop := e = .returned (.tuple #[]) ∧ J k w'
set_option maxRecDepth 100000 in
set_option maxHeartbeats 1000000 in
theorem tables_drop (db g n c : Nat) (hn : n ≤ 1000000) (hm : Nat → Int) (home : Int) (J : Nat → World → Prop) (V : Visits db g n c hm home J) (c1 : Value)
    (hc : ∀ k w, k < n → hm k = home → J k w → Calls Tryz.prog 229 #[.pointer (some ⟨g, k * 11, none⟩), c1] w (Visited J (k + 1))) (w : World) (h : J 0 w) :
    Calls Tryz.prog 228 #[.pointer (some ⟨db, 0, none⟩), .int .i64 home, .func (.func 229) #[] #[c1]] w (Visited J n) := by
  have d3 := V.d3 0 w h
  have HV := hid V
  have HC := hid hc
  have HJ := hid h
  clear V hc h
  go_enter Tryz.func228, Tryz.ntmps228
  go_wp2
  clear d3
  go_loopw [12] (fun i wr => ∃ k : Nat, i = .int .i64 k ∧ k ≤ n ∧ J k wr) (fun i _ => n - (intOf i).toNat)
  case atStart => exact ⟨0, rfl, Nat.zero_le _, HJ.out⟩
  case round =>
    obtain ⟨k, rfl, hk, hj⟩ := hrel
    have d3 := HV.out.d3 k wr hj
    have HJ := hid hj
    by_cases hlt : k < n
    · have d9 := HV.out.d9 k wr hlt hj
      have hm0 : (0 : Int) ≤ (k : Int) := by omega
      have hm1 : (k : Int) < (n : Int) := by omega
      clear hj
      by_cases he : hm k = home
      · have he2 : (hm k == home) = true := by simp [he]
        have hx := hid he
        clear he
        go_wp2_with (go_at_call 229; refine (HC.out k wr hlt hx.out HJ.out).mono ?_; rintro e w1 ⟨rfl, j1⟩)
        go_roundw
        case rel => exact ⟨k + 1, by go_num, by omega, j1⟩
        case measure => simp [intOf]; omega
      · have he2 : (hm k == home) = false := by simp [he]
        have hx := hid he
        clear he
        go_wp2
        go_roundw
        case rel => exact ⟨k + 1, by go_num, by omega, HV.out.skip k wr hlt hx.out HJ.out⟩
        case measure => simp [intOf]; omega
    · clear hj
      go_wp2
      go_end0
      obtain rfl : k = n := by omega
      exact ⟨rfl, HJ.out⟩
set_option maxRecDepth 100000 in
set_option maxHeartbeats 1000000 in
theorem tables_und3 (db g n c : Nat) (hn : n ≤ 1000000) (hm : Nat → Int) (home : Int) (J : Nat → World → Prop) (V : Visits db g n c hm home J) (c1 c2 : Value)
    (hc : ∀ k w, k < n → hm k = home → J k w → Calls Tryz.prog 233 #[.pointer (some ⟨g, k * 11, none⟩), c1, c2] w (Visited J (k + 1))) (w : World) (h : J 0 w) :
    Calls Tryz.prog 228 #[.pointer (some ⟨db, 0, none⟩), .int .i64 home, .func (.func 233) #[] #[c1, c2]] w (Visited J n) := by
  have d3 := V.d3 0 w h
  have HV := hid V
  have HC := hid hc
  have HJ := hid h
  clear V hc h
  go_enter Tryz.func228, Tryz.ntmps228
  go_wp2
  clear d3
  go_loopw [12] (fun i wr => ∃ k : Nat, i = .int .i64 k ∧ k ≤ n ∧ J k wr) (fun i _ => n - (intOf i).toNat)
  case atStart => exact ⟨0, rfl, Nat.zero_le _, HJ.out⟩
  case round =>
    obtain ⟨k, rfl, hk, hj⟩ := hrel
    have d3 := HV.out.d3 k wr hj
    have HJ := hid hj
    by_cases hlt : k < n
    · have d9 := HV.out.d9 k wr hlt hj
      have hm0 : (0 : Int) ≤ (k : Int) := by omega
      have hm1 : (k : Int) < (n : Int) := by omega
      clear hj
      by_cases he : hm k = home
      · have he2 : (hm k == home) = true := by simp [he]
        have hx := hid he
        clear he
        go_wp2_with (go_at_call 233; refine (HC.out k wr hlt hx.out HJ.out).mono ?_; rintro e w1 ⟨rfl, j1⟩)
        go_roundw
        case rel => exact ⟨k + 1, by go_num, by omega, j1⟩
        case measure => simp [intOf]; omega
      · have he2 : (hm k == home) = false := by simp [he]
        have hx := hid he
        clear he
        go_wp2
        go_roundw
        case rel => exact ⟨k + 1, by go_num, by omega, HV.out.skip k wr hlt hx.out HJ.out⟩
        case measure => simp [intOf]; omega
    · clear hj
      go_wp2
      go_end0
      obtain rfl : k = n := by omega
      exact ⟨rfl, HJ.out⟩
set_option maxRecDepth 100000 in
set_option maxHeartbeats 1000000 in
theorem tables_und4 (db g n c : Nat) (hn : n ≤ 1000000) (hm : Nat → Int) (home : Int) (J : Nat → World → Prop) (V : Visits db g n c hm home J) (c1 c2 : Value)
    (hc : ∀ k w, k < n → hm k = home → J k w → Calls Tryz.prog 235 #[.pointer (some ⟨g, k * 11, none⟩), c1, c2] w (Visited J (k + 1))) (w : World) (h : J 0 w) :
    Calls Tryz.prog 228 #[.pointer (some ⟨db, 0, none⟩), .int .i64 home, .func (.func 235) #[] #[c1, c2]] w (Visited J n) := by
  have d3 := V.d3 0 w h
  have HV := hid V
  have HC := hid hc
  have HJ := hid h
  clear V hc h
  go_enter Tryz.func228, Tryz.ntmps228
  go_wp2
  clear d3
  go_loopw [12] (fun i wr => ∃ k : Nat, i = .int .i64 k ∧ k ≤ n ∧ J k wr) (fun i _ => n - (intOf i).toNat)
  case atStart => exact ⟨0, rfl, Nat.zero_le _, HJ.out⟩
  case round =>
    obtain ⟨k, rfl, hk, hj⟩ := hrel
    have d3 := HV.out.d3 k wr hj
    have HJ := hid hj
    by_cases hlt : k < n
    · have d9 := HV.out.d9 k wr hlt hj
      have hm0 : (0 : Int) ≤ (k : Int) := by omega
      have hm1 : (k : Int) < (n : Int) := by omega
      clear hj
      by_cases he : hm k = home
      · have he2 : (hm k == home) = true := by simp [he]
        have hx := hid he
        clear he
        go_wp2_with (go_at_call 235; refine (HC.out k wr hlt hx.out HJ.out).mono ?_; rintro e w1 ⟨rfl, j1⟩)
        go_roundw
        case rel => exact ⟨k + 1, by go_num, by omega, j1⟩
        case measure => simp [intOf]; omega
      · have he2 : (hm k == home) = false := by simp [he]
        have hx := hid he
        clear he
        go_wp2
        go_roundw
        case rel => exact ⟨k + 1, by go_num, by omega, HV.out.skip k wr hlt hx.out HJ.out⟩
        case measure => simp [intOf]; omega
    · clear hj
      go_wp2
      go_end0
      obtain rfl : k = n := by omega
      exact ⟨rfl, HJ.out⟩
set_option maxRecDepth 100000 in
set_option maxHeartbeats 1000000 in
theorem tables_ren (db g n c : Nat) (hn : n ≤ 1000000) (hm : Nat → Int) (home : Int) (J : Nat → World → Prop) (V : Visits db g n c hm home J) (c1 : Value)
    (hc : ∀ k w, k < n → hm k = home → J k w → Calls Tryz.prog 236 #[.pointer (some ⟨g, k * 11, none⟩), c1] w (Visited J (k + 1))) (w : World) (h : J 0 w) :
    Calls Tryz.prog 228 #[.pointer (some ⟨db, 0, none⟩), .int .i64 home, .func (.func 236) #[] #[c1]] w (Visited J n) := by
  have d3 := V.d3 0 w h
  have HV := hid V
  have HC := hid hc
  have HJ := hid h
  clear V hc h
  go_enter Tryz.func228, Tryz.ntmps228
  go_wp2
  clear d3
  go_loopw [12] (fun i wr => ∃ k : Nat, i = .int .i64 k ∧ k ≤ n ∧ J k wr) (fun i _ => n - (intOf i).toNat)
  case atStart => exact ⟨0, rfl, Nat.zero_le _, HJ.out⟩
  case round =>
    obtain ⟨k, rfl, hk, hj⟩ := hrel
    have d3 := HV.out.d3 k wr hj
    have HJ := hid hj
    by_cases hlt : k < n
    · have d9 := HV.out.d9 k wr hlt hj
      have hm0 : (0 : Int) ≤ (k : Int) := by omega
      have hm1 : (k : Int) < (n : Int) := by omega
      clear hj
      by_cases he : hm k = home
      · have he2 : (hm k == home) = true := by simp [he]
        have hx := hid he
        clear he
        go_wp2_with (go_at_call 236; refine (HC.out k wr hlt hx.out HJ.out).mono ?_; rintro e w1 ⟨rfl, j1⟩)
        go_roundw
        case rel => exact ⟨k + 1, by go_num, by omega, j1⟩
        case measure => simp [intOf]; omega
      · have he2 : (hm k == home) = false := by simp [he]
        have hx := hid he
        clear he
        go_wp2
        go_roundw
        case rel => exact ⟨k + 1, by go_num, by omega, HV.out.skip k wr hlt hx.out HJ.out⟩
        case measure => simp [intOf]; omega
    · clear hj
      go_wp2
      go_end0
      obtain rfl : k = n := by omega
      exact ⟨rfl, HJ.out⟩
end Go.Proofs.YtkolnoadeihmoaaGreat
