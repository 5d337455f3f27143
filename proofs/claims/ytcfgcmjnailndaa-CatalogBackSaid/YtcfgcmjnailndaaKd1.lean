/-
  Catalog: a draft in memory; an entry of it written.
  Words: value.Word answers for every string.
-/
import Derived.Test.YtcfgcmjnailndaaKd0
namespace Go.Proofs.Ytcfgcmjnailndaa
open Go.RowKit Go.Proofs.Ytcfgcmjnailndaa.PCatalogKept Go.Proofs.YtcfgcmjnailndaaW.PrintWords Go.Proofs.YtcfgcmjnailndaaW.PrintLast Go.Proofs.YtcfgcmjnailndaaW.PrintMore
structure DraftAt (w : World) (db : Nat) (tv ev : Value) (d : Dr) (es : List EN) : Prop where
 blk : w.heap[db]? = some (.cells #[.int .i64 d.commit, .int .i64 d.time, tv, ev] 76 (0, 0))
 times : kI.R 3 w 0 (fun _ => True) tv d.times
 ents : kE.R 64 w 0 (fun _ => True) ev es
 nil : es = [] → ev = .slice none 0 0
 small : es.length ≤ 1000000
section
variable {w : World} {db : Nat} {tv ev : Value} {d : Dr} {es : List EN}
theorem DraftAt.c0 (h : DraftAt w db tv ev d es) : w.cell? ⟨db, 0, none⟩ = some (.int .i64 d.commit) := cell_of_row w db 0 _ _ _ h.blk
theorem DraftAt.c1 (h : DraftAt w db tv ev d es) : w.cell? ⟨db, 1, none⟩ = some (.int .i64 d.time) := cell_of_row w db 1 _ _ _ h.blk
theorem DraftAt.c2 (h : DraftAt w db tv ev d es) : w.cell? ⟨db, 2, none⟩ = some tv := cell_of_row w db 2 _ _ _ h.blk
theorem DraftAt.c3 (h : DraftAt w db tv ev d es) : w.cell? ⟨db, 3, none⟩ = some ev := cell_of_row w db 3 _ _ _ h.blk
theorem DraftAt.lt (h : DraftAt w db tv ev d es) : db < w.heap.size := blk_lt h.blk
theorem DraftAt.ne (h : DraftAt w db tv ev d es) : ∀ k, ev.ownBlock = some k → k ≠ db ∧ k < w.heap.size := by
 intro k hk
 obtain ⟨cells, hc⟩ := Kd.R_typed h.ents k hk
 refine ⟨?_, blk_lt hc⟩
 rintro rfl
 rw [h.blk] at hc
 injection hc with hc; injection hc with _ hc; exact absurd hc (by decide)
theorem DraftAt.fr {w' : World} {S : List Nat} (h : DraftAt w db tv ev d es) (hf : Fr S w w') (h1 : db ∉ S) (h2 : NoT w [64, 83, 3] S) : DraftAt w' db tv ev d es :=
 ⟨hf.blk h.blk h1, R_fr h.times hf (fun k hk q hq => h2 k hk q (by
   rcases List.mem_cons.1 hq with rfl | hq
   ·decide
   ·simp [Kd.int, Kd.scalar] at hq)), R_fr h.ents hf (fun k hk q hq => h2 k hk q (by
   rcases List.mem_cons.1 hq with rfl | hq
   ·decide
   ·simp [kE, kA, Kd.iso, Kd.pair, Kd.int, Kd.string, Kd.scalar, ros, k83] at hq
    simp [hq])), h.nil, h.small⟩
theorem DraftAt.fr0 {w' : World} (h : DraftAt w db tv ev d es) (hf : Fr [] w w') : DraftAt w' db tv ev d es := h.fr hf (by simp) (NoT.nil _ _)
def enL (x : EN) (v3 v4 : Value) : List Value := [.int .i64 x.f0.f0, .string x.f0.f1, .string x.f0.f2, v3, v4, .int .i64 x.f0.f5, .int .i64 x.f0.f6, .int .i64 x.f0.f7, .int .i64 x.f0.f8, .int .i64 x.f1, .int .i64 x.f2]
theorem ents_at {g n c i : Nat} {x : EN} (h : kE.R 64 w 0 (fun _ => True) (.slice (some ⟨g, 0, none⟩) n c) es) (hx : es[i]? = some x) :
  ∃ v3 v4, kE.M w 0 (fun k => k ≠ g) x (enL x v3 v4) ∧ (∀ j u, (enL x v3 v4)[j]? = some u → w.cell? ⟨g, i * 11 + j, none⟩ = some u) ∧ ∀ j, w.frozen? ⟨g, i * 11 + j, none⟩ = false := by
 obtain ⟨hn, -, -⟩ := Kd.R_reads' h
 have hi := (List.getElem?_eq_some_iff.1 hx).1
 obtain ⟨c, h1, h2, h3, h4⟩ := Kd.R_elem h z64 (i : Int) (by omega) (by omega)
 have e : es.getD ((i : Int)).toNat z64 = x := by simp [List.getD_eq_getElem?_getD, hx]
 rw [e] at h2
 obtain ⟨v3, v4, rfl, g3, g4⟩ := kE_open h2
 refine ⟨v3, v4, kE.M_mono (fun k hk => hk.2) (kE_mk x g3 g4), h3, h4⟩
theorem ents_enc {g n c i : Nat} {x : EN} (h : kE.R 64 w 0 (fun _ => True) (.slice (some ⟨g, 0, none⟩) n c) es) (hx : es[i]? = some x) : EnC w g i x := by
 obtain ⟨v3, v4, -, hc, -⟩ := ents_at h hx
 exact ⟨hc 0 _ rfl, hc 1 _ rfl, hc 2 _ rfl, hc 5 _ rfl, hc 6 _ rfl, hc 7 _ rfl, hc 8 _ rfl, hc 9 _ rfl, hc 10 _ rfl⟩
theorem ents_form {v : Value} {i : Nat} {x : EN} (h : kE.R 64 w 0 (fun _ => True) v es) (hx : es[i]? = some x) : ∃ g c, v = .slice (some ⟨g, 0, none⟩) es.length c ∧ g < w.heap.size := by
 obtain ⟨g, c, e, _, hg, _⟩ := Kd.R_form h (by have := (List.getElem?_eq_some_iff.1 hx).1; omega)
 exact ⟨g, c, e, hg⟩
theorem ents_ens {A : Option Addr} {n c : Nat} (h : kE.R 64 w 0 (fun _ => True) (.slice A n c) es) (hl : es.length ≤ 1000000) : Ens w A n es := by
 obtain ⟨hn, -, -⟩ := Kd.R_reads' h
 refine ⟨hn.symm, by omega, fun i x hx => ?_⟩
 obtain ⟨g, c', e, -⟩ := ents_form h hx
 injection e with e1 e2 e3
 subst e1
 exact ⟨g, rfl, ents_enc h hx⟩
theorem DraftAt.open (h : DraftAt w db tv ev d es) : ∃ A c, ev = .slice A es.length c ∧ Ens w A es.length es := by
 obtain ⟨A, c, e⟩ := Kd.R_slice h.ents
 have := h.ents
 rw [e] at this
 exact ⟨A, c, e, ents_ens this h.small⟩
theorem kE_E {q : Nat} (hq : q ∈ 64 :: kE.E) : q = 64 ∨ q = 83 ∨ q = 3 := by
 rcases List.mem_cons.1 hq with h | hq
 ·exact .inl h
 ·simp [kE, kA, Kd.iso, Kd.pair, Kd.int, Kd.string, Kd.scalar, ros, k83] at hq
  exact .inr hq
theorem DraftAt.store {g c i : Nat} {x x' : EN} {u : Value} (j : Nat) (h : DraftAt w db tv (.slice (some ⟨g, 0, none⟩) es.length c) d es) (hx : es[i]? = some x) (hj : j < 11)
  (hM : ∀ v3 v4, kE.M w 0 (fun k => k ≠ g) x (enL x v3 v4) → kE.M w 0 (fun k => k ≠ g) x' ((enL x v3 v4).take j ++ [u] ++ (enL x v3 v4).drop (j + 1))) :
  DraftAt (w.setCell ⟨g, i * 11 + j, none⟩ u) db tv (.slice (some ⟨g, 0, none⟩) es.length c) d (es.set i x') := by
 obtain ⟨v3, v4, h1, h2, h3⟩ := ents_at h.ents hx
 have hi := (List.getElem?_eq_some_iff.1 hx).1
 have hg := h.ne g rfl
 obtain ⟨cells, hgc⟩ := Kd.R_typed h.ents g rfl
 have r := (Kd.R_seg h.ents (i : Int) (by omega) (by omega) (c := enL x v3 v4) (seg := [u]) (j := j) (okp := fun k => k ≠ g) rfl h2 (by show j + 1 ≤ 11; omega) (hM v3 v4 h1) (fun k hk => ⟨trivial, hk⟩)).1
 have fr : Fr [g] w (w.setCell ⟨g, i * 11 + j, none⟩ u) := (Fr.refl _ w).setCell (.inl (by simp)) u
 refine ⟨fr.blk h.blk (by simp; exact Ne.symm hg.1), R_fr h.times fr (NoT.one hgc (fun q hq => ?_)), ?_, fun he => ?_, by simp; exact h.small⟩
 ·rcases List.mem_cons.1 hq with rfl | hq
  ·decide
  ·simp [Kd.int, Kd.scalar] at hq
 ·simp only [Int.toNat_natCast] at r; exact r
 ·have : es = [] := by simpa using he
  subst this; simp at hx
end
section
variable {w : World} {db : Nat} {tv : Value} {d : Dr} {es : List EN} {g c i : Nat} {x : EN}
theorem M_of {x x' : EN} {v3 v4 : Value} {ok : Nat → Prop} (h : kE.M w 0 ok x (enL x v3 v4)) (e3 : x'.f0.f3 = x.f0.f3) (e4 : x'.f0.f4 = x.f0.f4) : kE.M w 0 ok x' (enL x' v3 v4) := by
 obtain ⟨u3, u4, e, g3, g4⟩ := kE_open h
 simp only [enL, List.cons.injEq, and_true, true_and] at e
 obtain ⟨rfl, rfl⟩ := e
 exact kE_mk x' (by rw [e3]; exact g3) (by rw [e4]; exact g4)
theorem DraftAt.setBase (h : DraftAt w db tv (.slice (some ⟨g, 0, none⟩) es.length c) d es) (hx : es[i]? = some x) (s : ByteArray) : DraftAt (w.setCell ⟨g, i * 11 + 1, none⟩ (.string s)) db tv (.slice (some ⟨g, 0, none⟩) es.length c) d (es.set i ⟨{ x.f0 with f1 := s }, x.f1, x.f2⟩) :=
 h.store 1 hx (by omega) (fun _ _ hm => M_of (x' := ⟨{ x.f0 with f1 := s }, x.f1, x.f2⟩) hm rfl rfl)
theorem DraftAt.setTable (h : DraftAt w db tv (.slice (some ⟨g, 0, none⟩) es.length c) d es) (hx : es[i]? = some x) (s : ByteArray) : DraftAt (w.setCell ⟨g, i * 11 + 2, none⟩ (.string s)) db tv (.slice (some ⟨g, 0, none⟩) es.length c) d (es.set i ⟨{ x.f0 with f2 := s }, x.f1, x.f2⟩) :=
 h.store 2 hx (by omega) (fun _ _ hm => M_of (x' := ⟨{ x.f0 with f2 := s }, x.f1, x.f2⟩) hm rfl rfl)
theorem DraftAt.setKeep (h : DraftAt w db tv (.slice (some ⟨g, 0, none⟩) es.length c) d es) (hx : es[i]? = some x) (s : Int) : DraftAt (w.setCell ⟨g, i * 11 + 5, none⟩ (.int .i64 s)) db tv (.slice (some ⟨g, 0, none⟩) es.length c) d (es.set i ⟨{ x.f0 with f5 := s }, x.f1, x.f2⟩) :=
 h.store 5 hx (by omega) (fun _ _ hm => M_of (x' := ⟨{ x.f0 with f5 := s }, x.f1, x.f2⟩) hm rfl rfl)
theorem DraftAt.setLaid (h : DraftAt w db tv (.slice (some ⟨g, 0, none⟩) es.length c) d es) (hx : es[i]? = some x) (s : Int) : DraftAt (w.setCell ⟨g, i * 11 + 7, none⟩ (.int .i64 s)) db tv (.slice (some ⟨g, 0, none⟩) es.length c) d (es.set i ⟨{ x.f0 with f7 := s }, x.f1, x.f2⟩) :=
 h.store 7 hx (by omega) (fun _ _ hm => M_of (x' := ⟨{ x.f0 with f7 := s }, x.f1, x.f2⟩) hm rfl rfl)
theorem DraftAt.setGone (h : DraftAt w db tv (.slice (some ⟨g, 0, none⟩) es.length c) d es) (hx : es[i]? = some x) (s : Int) : DraftAt (w.setCell ⟨g, i * 11 + 8, none⟩ (.int .i64 s)) db tv (.slice (some ⟨g, 0, none⟩) es.length c) d (es.set i ⟨{ x.f0 with f8 := s }, x.f1, x.f2⟩) :=
 h.store 8 hx (by omega) (fun _ _ hm => M_of (x' := ⟨{ x.f0 with f8 := s }, x.f1, x.f2⟩) hm rfl rfl)
theorem DraftAt.setWith (h : DraftAt w db tv (.slice (some ⟨g, 0, none⟩) es.length c) d es) (hx : es[i]? = some x) (s : Int) : DraftAt (w.setCell ⟨g, i * 11 + 10, none⟩ (.int .i64 s)) db tv (.slice (some ⟨g, 0, none⟩) es.length c) d (es.set i ⟨x.f0, x.f1, s⟩) :=
 h.store 10 hx (by omega) (fun _ _ hm => M_of (x' := ⟨x.f0, x.f1, s⟩) hm rfl rfl)
theorem M_ne {α : Type} {k : Kd α} {w : World} {base : Nat} {y : α} {cs : List Value} {g : Nat} {cells : Array Value} {t : TypeId} (h : k.M w base (fun _ => True) y cs) (hg : w.heap[g]? = some (.cells cells t (0, 0))) (ht : ∀ q ∈ k.E, q ≠ t) : k.M w base (fun k => k ≠ g) y cs :=
 k.M_mono (fun _ hk => hk.2) (Kd.M_types h hg ht)
theorem DraftAt.setCols (h : DraftAt w db tv (.slice (some ⟨g, 0, none⟩) es.length c) d es) (hx : es[i]? = some x) (s : List CO) (v : Value) (hv : kC.R 83 w 0 (fun _ => True) v s) : DraftAt (w.setCell ⟨g, i * 11 + 3, none⟩ v) db tv (.slice (some ⟨g, 0, none⟩) es.length c) d (es.set i ⟨{ x.f0 with f3 := s }, x.f1, x.f2⟩) := by
 refine h.store 3 hx (by omega) (fun v3 v4 hm => ?_)
 obtain ⟨cells, hgc⟩ := Kd.R_typed h.ents g rfl
 obtain ⟨u3, u4, e, g3, g4⟩ := kE_open hm
 simp only [enL, List.cons.injEq, and_true, true_and] at e
 obtain ⟨rfl, rfl⟩ := e
 exact kE_mk ⟨{ x.f0 with f3 := s }, x.f1, x.f2⟩ (M_ne (ros_of_R hv) hgc (by decide)) g4
theorem DraftAt.setFiles (h : DraftAt w db tv (.slice (some ⟨g, 0, none⟩) es.length c) d es) (hx : es[i]? = some x) (s : List Int) (v : Value) (hv : kI.R 3 w 0 (fun _ => True) v s) : DraftAt (w.setCell ⟨g, i * 11 + 4, none⟩ v) db tv (.slice (some ⟨g, 0, none⟩) es.length c) d (es.set i ⟨{ x.f0 with f4 := s }, x.f1, x.f2⟩) := by
 refine h.store 4 hx (by omega) (fun v3 v4 hm => ?_)
 obtain ⟨cells, hgc⟩ := Kd.R_typed h.ents g rfl
 obtain ⟨u3, u4, e, g3, g4⟩ := kE_open hm
 simp only [enL, List.cons.injEq, and_true, true_and] at e
 obtain ⟨rfl, rfl⟩ := e
 exact kE_mk ⟨{ x.f0 with f4 := s }, x.f1, x.f2⟩ g3 (M_ne (ros_of_R hv) hgc (by decide))
end
def Deeded (db : Nat) (tv ev : Value) (d : Dr) (r : Int × List EN) (w : World) (e : Ending) (w' : World) : Prop :=
 e = .returned (.int .i64 r.1) ∧ ∃ ev', DraftAt w' db tv ev' d r.2 ∧ Fr (db :: ev.ownBlock.toList) w w' ∧ ∀ k, ev'.ownBlock = some k → ev.ownBlock = some k ∨ w.heap.size ≤ k
theorem word_l0 {s : ByteArray} (hs : s.size ≤ maxLen) : ∀ (d i k : Nat), i ≤ s.size → s.size - i = d → 2 * d + 1 ≤ k → ∃ r, value_Word.l0 k s (s.size : Int) (i : Int) = some r := by
 have hs' : s.size ≤ 9223372036854775807 := hs
 intro d
 induction d with
 | zero =>
  intro i k hi hd hk
  obtain ⟨k, rfl⟩ : ∃ m, k = m + 1 := ⟨k - 1, by omega⟩
  unfold value_Word.l0
  rw [if_neg (by omega)]
  split
  ·exact ⟨_, rfl⟩
  ·exact ⟨_, rfl⟩
 | succ d ih =>
  intro i k hi hd hk
  obtain ⟨k, rfl⟩ : ∃ m, k = m + 2 := ⟨k - 2, by omega⟩
  obtain ⟨r, hr⟩ := ih (i + 1) k (by omega) (by omega) (by omega)
  have e : wrap64 ((i : Int) + 1) = ((i + 1 : Nat) : Int) := by unfold wrap64; omega
  unfold value_Word.l0
  rw [if_pos (by omega), if_pos (by omega), if_pos (by omega)]
  have hj : ∀ (a b : Int) (c : Bool), ∃ r, value_Word.j1 (k + 1) s a b (s.size : Int) (i : Int) c = some r := by
   intro a b c
   unfold value_Word.j1
   rw [e, hr]
   repeat' split
   all_goals exact ⟨_, rfl⟩
  split
  ·exact hj _ _ _
  ·exact hj _ _ _
def wordB (s : ByteArray) : Bool := (value_Word.f (2 * s.size + 1) s).getD false
theorem word_any (s : ByteArray) (hs : s.size ≤ maxLen) (w : World) :
  Calls Try.prog 37 #[.string s] w fun e w' => e = .returned (.bool (wordB s)) ∧ Drawn0 w w' := by
 obtain ⟨r, hr⟩ := word_l0 hs s.size 0 (2 * s.size + 1) (Nat.zero_le _) rfl (Nat.le_refl _)
 have hr' : value_Word.f (2 * s.size + 1) s = some r := hr
 have e : wordB s = r := by unfold wordB; rw [hr']; rfl
 rw [e]
 exact value_Word.calls _ s r w hr'
end Go.Proofs.Ytcfgcmjnailndaa
