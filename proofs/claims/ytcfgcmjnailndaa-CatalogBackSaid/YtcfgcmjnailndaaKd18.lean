/-
  The walk of CatalogIds.
  Plain: what a deed (no undrop) makes of two lists that are the same but for the numbers of commits.
  Plain: the deeds of a commit, and the same ones in one commit each.
  Plain: swap twice, and drop followed by undrop, restore all entries.
-/
import Derived.Test.YtcfgcmjnailndaaKd17
namespace Go.Proofs.Ytcfgcmjnailndaa
open Go.RowKit Go.Proofs.Ytcfgcmjnailndaa.PCatalogKept Go.Proofs.YtcfgcmjnailndaaW.PrintWords Go.Proofs.YtcfgcmjnailndaaW.PrintLast Go.Proofs.YtcfgcmjnailndaaW.PrintMore
def homeOf (ss : List ST) (j : Nat) : Int := ((lastOf ss).f2.getD j z64).f1
def HomesOk (ss : List ST) (hs : List Int) : Prop := ∀ (q : Nat) (g : Int), hs[q]? = some g → g = 0 ∨ g = homeOf ss q
theorem HomesOk.push {ss : List ST} {hs : List Int} (h : HomesOk ss hs) : HomesOk ss (hs ++ [0]) := fun q g hq => by
 by_cases hl : q < hs.length
 ·rw [List.getElem?_append_left hl] at hq; exact h q g hq
 ·have := (List.getElem?_eq_some_iff.1 hq).1
  simp at this
  have : q = hs.length := by omega
  subst this
  simp at hq
  exact .inl hq.symm
theorem HomesOk.put {ss : List ST} {hs : List Int} (h : HomesOk ss hs) {j : Nat} {x : Int} (hx : x = homeOf ss j) : HomesOk ss (hs.set j x) := fun q g hq => by
 by_cases hj : j = q
 ·subst hj
  have hl := (List.getElem?_eq_some_iff.1 hq).1
  simp at hl
  rw [List.getElem?_set_self hl] at hq
  cases hq
  exact .inr hx
 ·rw [List.getElem?_set_ne hj] at hq
  exact h q g hq
theorem int_append {w : World} {v : Value} {xs : List Int} (R : kI.R 3 w 0 (fun _ => True) v xs) (hl : xs.length ≤ 1000000) (x : Int) :
  ∃ A1 c1 w1, (Builtin.append_ #[29, 29] 29 #[v, .slice (some ⟨w.heap.size, 0, none⟩) 1 1]).run Try.prog (w.alloc (.cells #[.int .i64 x] 3)) = .ok (.slice A1 (xs.length + 1) c1) w1 ∧
   kI.R 3 w1 0 (fun _ => True) (.slice A1 (xs.length + 1) c1) (xs ++ [x]) ∧ w.grownBy w1 v.ownBlock ∧ ((Value.slice A1 (xs.length + 1) c1).ownBlock = v.ownBlock ∨ ∃ b, (Value.slice A1 (xs.length + 1) c1).ownBlock = some b ∧ w.heap.size ≤ b) := by
 obtain ⟨v1, w1, hrun, r5, g5, a5⟩ := R_run (P := Try.prog) kI (W := w) 29 29 3 (.int .i64 0) 8 Try.underlying29 info_int rfl (by decide) (by decide) v xs x [.int .i64 x] (fun _ => False) rfl (fun _ h => h.elim) R (by omega)
 obtain ⟨A1, c1, e⟩ := Kd.R_slice r5
 rw [List.length_append, List.length_singleton] at e
 subst e
 exact ⟨A1, c1, w1, hrun, r5, g5, a5⟩
structure HomesAt (w5 w : World) (v : Value) (hs : List Int) : Prop where
 row : kI.R 3 w 0 (fun _ => True) v hs
 own : ∀ k, v.ownBlock = some k → w5.heap.size ≤ k
 fr : Fr [] w5 w
theorem HomesAt.fr0 {w5 w w' : World} {v : Value} {hs : List Int} (h : HomesAt w5 w v hs) (f : Fr [] w w') : HomesAt w5 w' v hs := ⟨R_fr0 h.row f, h.own, h.fr.then f⟩
theorem HomesAt.push {w5 w : World} {v : Value} {hs : List Int} (h : HomesAt w5 w v hs) (hl : hs.length ≤ 1000000) :
  ∃ A1 c1 w1, (Builtin.append_ #[29, 29] 29 #[v, .slice (some ⟨w.heap.size, 0, none⟩) 1 1]).run Try.prog (w.alloc (.cells #[.int .i64 0] 3)) = .ok (.slice A1 (hs.length + 1) c1) w1 ∧ HomesAt w5 w1 (.slice A1 (hs.length + 1) c1) (hs ++ [0]) ∧ w.grownBy w1 v.ownBlock := by
 obtain ⟨A1, c1, w1, hrun, r1, g1, a1⟩ := int_append h.row hl 0
 obtain ⟨f1, o1⟩ := grow_own h.fr h.own g1 a1
 exact ⟨A1, c1, w1, hrun, ⟨r1, o1, f1⟩, g1⟩
theorem HomesAt.put {w5 w : World} {g n c : Nat} {hs : List Int} (h : HomesAt w5 w (.slice (some ⟨g, 0, none⟩) n c) hs) (j : Nat) (x : Int) : HomesAt w5 (w.setCell ⟨g, j, none⟩ (.int .i64 x)) (.slice (some ⟨g, 0, none⟩) n c) (hs.set j x) := by
 have r := Kd.R_putn h.row (j : Int) x
 rw [Int.toNat_natCast] at r
 exact ⟨r, h.own, h.fr.trans ((Fr.refl [g] w).setCell (p := ⟨g, j, none⟩) (.inl (List.mem_singleton.2 rfl)) (.int .i64 x)) (fun z hz => .inr (by rw [List.mem_singleton.1 hz]; exact h.own g rfl))⟩
theorem HomesAt.cell {w5 w : World} {g n c : Nat} {hs : List Int} (h : HomesAt w5 w (.slice (some ⟨g, 0, none⟩) n c) hs) {j : Nat} {x : Int} (hx : hs[j]? = some x) : w.cell? ⟨g, j, none⟩ = some (.int .i64 x) ∧ w.frozen? ⟨g, j, none⟩ = false := by
 obtain ⟨hn, -, -⟩ := Kd.R_reads' h.row
 have hj := (List.getElem?_eq_some_iff.1 hx).1
 have := Kd.R_celln (0 : Int) h.row (j : Int) (by omega) (by omega)
 simpa [rdOf, List.getD_eq_getElem?_getD, hx] using this
theorem HomesAt.len {w5 w : World} {A : Option Addr} {n c : Nat} {hs : List Int} (h : HomesAt w5 w (.slice A n c) hs) : n = hs.length := (Kd.R_reads' h.row).1
theorem HomesAt.form {w5 w : World} {A : Option Addr} {n c : Nat} {hs : List Int} (h : HomesAt w5 w (.slice A n c) hs) (hp : 0 < hs.length) : ∃ g, A = some ⟨g, 0, none⟩ ∧ g < w.heap.size := by
 obtain ⟨g, c', e, -, hg, -⟩ := Kd.R_form h.row hp
 injection e with e1 e2 e3
 exact ⟨g, e1, hg⟩
structure RowAt (w : World) (ga n : Nat) (A : Option Addr) (c : Nat) (s : ST) : Prop where
 list : w.cell? ⟨ga, n, none⟩ = some (.slice A s.f2.length c)
 read : Kd.C k49 w A (allOf s).length (allOf s)
theorem RowAt.fr0 {w w' : World} {ga n c : Nat} {A : Option Addr} {s : ST} (h : RowAt w ga n A c s) (f : Fr [] w w') : RowAt w' ga n A c s := ⟨f.cell0 h.list, Kd.C_below h.read f.below0⟩
structure EntAt (w : World) (b off j : Nat) (y : EN) (A3 : Option Addr) (c3 : Nat) (A4 : Option Addr) (c4 : Nat) : Prop where
 m0 : w.cell? ⟨b, off + j * 9, none⟩ = some (.int .i64 y.f0.f0)
 m1 : w.cell? ⟨b, off + j * 9 + 1, none⟩ = some (.string y.f0.f1)
 m2 : w.cell? ⟨b, off + j * 9 + 2, none⟩ = some (.string y.f0.f2)
 m3 : w.cell? ⟨b, off + j * 9 + 3, none⟩ = some (.slice A3 y.f0.f3.length c3)
 m4 : w.cell? ⟨b, off + j * 9 + 4, none⟩ = some (.slice A4 y.f0.f4.length c4)
 m5 : w.cell? ⟨b, off + j * 9 + 5, none⟩ = some (.int .i64 y.f0.f5)
 m6 : w.cell? ⟨b, off + j * 9 + 6, none⟩ = some (.int .i64 y.f0.f6)
 m7 : w.cell? ⟨b, off + j * 9 + 7, none⟩ = some (.int .i64 y.f0.f7)
 m8 : w.cell? ⟨b, off + j * 9 + 8, none⟩ = some (.int .i64 y.f0.f8)
theorem EntAt.fr0 {w w' : World} {b off j : Nat} {y : EN} {A3 : Option Addr} {c3 : Nat} {A4 : Option Addr} {c4 : Nat} (h : EntAt w b off j y A3 c3 A4 c4) (f : Fr [] w w') : EntAt w' b off j y A3 c3 A4 c4 :=
 ⟨f.cell0 h.m0, f.cell0 h.m1, f.cell0 h.m2, f.cell0 h.m3, f.cell0 h.m4, f.cell0 h.m5, f.cell0 h.m6, f.cell0 h.m7, f.cell0 h.m8⟩
def bare (y : EN) : EN := ⟨{ y.f0 with f6 := 0, f7 := 0, f8 := if y.f0.f8 = 0 then 0 else 1 }, y.f1, 0⟩
theorem bare_gone (y : EN) : ((bare y).f0.f8 == 0) = (y.f0.f8 == 0) := by
 unfold bare
 dsimp only
 by_cases h : y.f0.f8 = 0 <;> simp [h]
theorem isBase_bare (n : ByteArray) (y : EN) : isBase n (bare y) = isBase n y := by
 unfold isBase
 rw [bare_gone]
 rfl
theorem isTable_bare (h : Int) (n : ByteArray) (y : EN) : isTable h n (bare y) = isTable h n y := by
 unfold isTable
 rw [bare_gone]
 rfl
theorem baseIx_bare (es : List EN) (n : ByteArray) : baseIx (es.map bare) n = baseIx es n := by
 unfold baseIx
 rw [List.findIdx?_map]
 congr 1
 funext y
 exact isBase_bare n y
theorem tableIx_bare (es : List EN) (h : Int) (n : ByteArray) : tableIx (es.map bare) h n = tableIx es h n := by
 unfold tableIx
 rw [List.findIdx?_map]
 congr 1
 funext y
 exact isTable_bare h n y
theorem getD_bare (es : List EN) (i : Nat) : (es.map bare).getD i z64 = bare (es.getD i z64) := by
 rw [List.getD_eq_getElem?_getD, List.getD_eq_getElem?_getD, List.getElem?_map]
 cases es[i]? <;> rfl
theorem idOf_bare (es : List EN) (i : Nat) : idOf (es.map bare) i = idOf es i := by
 unfold idOf
 rw [getD_bare]
 rfl
theorem tabs_bare {es es' : List EN} {h : Int} {f g : EN → EN} (he : es.map bare = es'.map bare) (hf : ∀ y y', bare y = bare y' → bare (f y) = bare (g y')) : (es.map (tabs h f)).map bare = (es'.map (tabs h g)).map bare := by
 apply List.ext_getElem?
 intro j
 have hj : (es.map bare)[j]? = (es'.map bare)[j]? := by rw [he]
 simp only [List.getElem?_map, Option.map_map] at hj ⊢
 rcases h1 : es[j]? with _ | y <;> rcases h2 : es'[j]? with _ | y' <;> rw [h1, h2] at hj <;> simp at hj ⊢
 have h3 : y.f1 = y'.f1 := by
  have t : (bare y).f1 = (bare y').f1 := by rw [hj]
  exact t
 unfold tabs
 rw [h3]
 split
 ·exact hf y y' hj
 ·exact hj
def Alike (es es' : List EN) : Prop := es.map bare = es'.map bare
theorem Alike.len {es es' : List EN} (h : Alike es es') : es.length = es'.length := by
 have := congrArg List.length h
 simpa using this
theorem Alike.base {es es' : List EN} (h : Alike es es') (n : ByteArray) : baseIx es n = baseIx es' n := by rw [← baseIx_bare, h, baseIx_bare]
theorem Alike.table {es es' : List EN} (h : Alike es es') (i : Int) (n : ByteArray) : tableIx es i n = tableIx es' i n := by rw [← tableIx_bare, h, tableIx_bare]
theorem Alike.idOf {es es' : List EN} (h : Alike es es') (i : Nat) : idOf es i = idOf es' i := by rw [← idOf_bare, h, idOf_bare]
theorem Alike.at {es es' : List EN} (h : Alike es es') (i : Nat) : bare (es.getD i z64) = bare (es'.getD i z64) := by rw [← getD_bare, h, getD_bare]
theorem Alike.set {es es' : List EN} (h : Alike es es') (i : Nat) {f g : EN → EN} (hf : ∀ y y', bare y = bare y' → bare (f y) = bare (g y')) : Alike (setE es i f) (setE es' i g) := by
 unfold Alike setE
 rw [List.map_set, List.map_set, h, hf _ _ (h.at i)]
theorem Alike.tabs {es es' : List EN} (h : Alike es es') (i : Int) {f g : EN → EN} (hf : ∀ y y', bare y = bare y' → bare (f y) = bare (g y')) : Alike (es.map (tabs i f)) (es'.map (tabs i g)) := tabs_bare h hf
theorem Alike.push {es es' : List EN} (h : Alike es es') {y y' : EN} (hy : bare y = bare y') : Alike (es ++ [y]) (es' ++ [y']) := by
 unfold Alike
 rw [List.map_append, List.map_append, h]
 simp [hy]
theorem Alike.refl (es : List EN) : Alike es es := rfl
def bigBy (d : Dr) (es : List EN) (xs : List DE) : List EN := xs.foldl (fun l x => (deedBy d l x).2) es
theorem done_is {d : Dr} : ∀ {xs : List DE} {es es' : List EN}, doneBy d es xs = (0, es') → es' = bigBy d es xs ∧ es'.length ≤ 4000 ∧ ∀ (k : Nat) (x : DE), xs[k]? = some x → (deedBy d (bigBy d es (xs.take k)) x).1 = 0
 | [], es, es', h => by
  unfold doneBy at h
  split at h
  ·cases h
  ·rename_i hl
   injection h with _ h
   subst h
   exact ⟨rfl, by omega, by simp⟩
 | x :: r, es, es', h => by
  unfold doneBy at h
  dsimp only at h
  split at h
  ·rename_i h0
   obtain ⟨e1, e2, e3⟩ := done_is h
   refine ⟨e1, e2, fun k y hy => ?_⟩
   cases k with
   | zero => simp at hy; subst hy; exact h0
   | succ k => exact e3 k y (by simpa using hy)
  ·rename_i h0
   rw [h] at h0
   exact absurd rfl h0
theorem last_append (ss : List ST) (s : ST) : lastOf (ss ++ [s]) = s := by simp [lastOf]
theorem bad_one {x : DE} (h : validB x = true) : anyBad [x] = false := by
 unfold anyBad
 rw [bad_none]
 ·rfl
 ·intro j y hj hy
  have hj0 : j = 0 := by simpa using hj
  subst hj0
  simp at hy
  subst hy
  exact h
theorem list_last {ss : List ST} (h : 0 < ss.length) {n : Int} (hn : n = (ss.length : Int) - 1) : listBy ss n = (picked isThere (lastOf ss).f2, 0) := by
 have hl := last_at h
 obtain rfl : n = ((ss.length - 1 : Nat) : Int) := by omega
 unfold listBy someBy
 rw [if_neg (by omega)]
 simp [List.getD_eq_getElem?_getD, hl]
section
variable {n c : Int} {es : List EN}
theorem EInv.ix (h : EInv n es) {i j : Nat} {y z : EN} (hy : es[i]? = some y) (hz : es[j]? = some z) (e : y.f0.f0 = z.f0.f0) : i = j := by
 have h1 := h.id i y hy
 have h2 := h.id j z hz
 omega
theorem base_find (h : EInv n es) {i : Nat} {y : EN} (hy : es[i]? = some y) (hd : isDb y) (hg : y.f0.f8 = 0) : baseIx es y.f0.f1 = some i := by
 cases hb : baseIx es y.f0.f1 with
 | none => exact absurd rfl (base_none hb y (mem_of hy) hd hg)
 | some j =>
  obtain ⟨b, h1, h2, h3, h4⟩ := base_is hb
  rw [h.ix h1 hy (h.uniqB b (mem_of h1) y (mem_of hy) h2 hd h4 hg h3)]
theorem table_find (h : EInv n es) {i : Nat} {y : EN} (hy : es[i]? = some y) (hd : ¬ isDb y) (hg : y.f0.f8 = 0) : tableIx es y.f1 y.f0.f2 = some i := by
 cases hb : tableIx es y.f1 y.f0.f2 with
 | none => exact absurd rfl (table_none hb y (mem_of hy) rfl hg)
 | some j =>
  obtain ⟨b, h1, h2, h3, h4⟩ := table_is hb
  have hbd : ¬ isDb b := by unfold isDb; rw [h3]; exact hd
  rw [h.ix h1 hy (h.uniqT b (mem_of h1) y (mem_of hy) hbd hd h2 (.inl h4) (.inl hg) h3)]
theorem swap_twice (h : EInv n es) {x : DE} (ht : x.f2.toList ≠ []) (hto : x.f3.toList ≠ []) (h0 : (swap es x).1 = 0) : swap (swap es x).2 x = (0, es) := by
 have hinv : EInv n (swap es x).2 := swap_inv h ⟨n, 0, []⟩ x (Int.le_refl _) ht hto
 unfold swap at h0
 split at h0
 ·rename_i i k hi hk
  obtain ⟨y, b, hy, hb, hbd, hbn, hbg, e1, e2, hg⟩ := in_is hi
  obtain ⟨z, b', hz, hb', hbd', hbn', hbg', e1', e2', hg'⟩ := in_is hk
  have hyd0 : es.getD i z64 = y := by simp [List.getD_eq_getElem?_getD, hy]
  have hzd0 : es.getD k z64 = z := by simp [List.getD_eq_getElem?_getD, hz]
  have hym := mem_of hy
  have hzm := mem_of hz
  have hyd : ¬ isDb y := by unfold isDb; rw [e2]; exact ht
  have hzd : ¬ isDb z := by unfold isDb; rw [e2']; exact hto
  have hbb : b' = b := h.inj hb' hb (h.uniqB b' hb' b hb hbd' hbd hbg' hbg (hbn'.trans hbn.symm))
  subst hbb
  have hes1 : (swap es x).2 = es.map (fun u => if u.f0.f0 = z.f0.f0 then table1 y.f0.f2 u else if u.f0.f0 = y.f0.f0 then table1 z.f0.f2 u else u) := by
   rw [← set2_map h hy hz]
   unfold swap
   rw [hi, hk]
   dsimp only
   rw [hyd0, hzd0]
  generalize (swap es x).2 = es1 at hinv hes1 ⊢
  obtain ⟨q, hq⟩ := List.mem_iff_getElem?.1 hb
  have hby : b'.f0.f0 ≠ y.f0.f0 := fun e => hyd (by rw [← h.inj hb hym e]; exact hbd)
  have hbz : b'.f0.f0 ≠ z.f0.f0 := fun e => hzd (by rw [← h.inj hb hzm e]; exact hbd)
  have hq1 : es1[q]? = some b' := by
   rw [hes1, List.getElem?_map, hq]
   simp only [Option.map_some]
   rw [if_neg hbz, if_neg hby]
  obtain ⟨y1, hy1e⟩ : ∃ y1, y1 = table1 z.f0.f2 y := ⟨_, rfl⟩
  obtain ⟨z1, hz1e⟩ : ∃ z1, z1 = table1 y.f0.f2 z := ⟨_, rfl⟩
  have hy1 : es1[i]? = some y1 := by
   rw [hes1, List.getElem?_map, hy]
   simp only [Option.map_some]
   by_cases e : y.f0.f0 = z.f0.f0
   ·rw [if_pos e, hy1e, h.inj hym hzm e]
   ·rw [if_neg e]
    simp only [if_true]
    rw [hy1e]
  have hz1 : es1[k]? = some z1 := by
   rw [hes1, List.getElem?_map, hz]
   simp only [Option.map_some, if_true]
   rw [hz1e]
  have hbase : baseIx es1 x.f1 = some q := by rw [← hbn]; exact base_find hinv hq1 hbd hbg
  have hd1 : ¬ isDb y1 := by rw [hy1e]; exact hzd
  have hd2 : ¬ isDb z1 := by rw [hz1e]; exact hyd
  have t1 : inIx es1 (some q) x.f2 = some k := by
   show tableIx es1 (idOf es1 q) x.f2 = some k
   rw [id_of hq1]
   have := table_find hinv hz1 hd2 (by rw [hz1e]; exact hg')
   rw [hz1e] at this
   rw [← e1', ← e2]
   exact this
  have t2 : inIx es1 (some q) x.f3 = some i := by
   show tableIx es1 (idOf es1 q) x.f3 = some i
   rw [id_of hq1]
   have := table_find hinv hy1 hd1 (by rw [hy1e]; exact hg)
   rw [hy1e] at this
   rw [← e1, ← e2']
   exact this
  have hy1d : es1.getD i z64 = y1 := by simp [List.getD_eq_getElem?_getD, hy1]
  have hz1d : es1.getD k z64 = z1 := by simp [List.getD_eq_getElem?_getD, hz1]
  unfold swap
  rw [hbase, t1, t2]
  dsimp only
  rw [hy1d, hz1d, set2_map hinv hz1 hy1, hes1, List.map_map]
  congr 1
  have hid : (es.map fun u => u) = es := List.map_id' es
  refine Eq.trans (List.map_congr_left fun u hu => ?_) hid
  have i1 : y1.f0.f0 = y.f0.f0 := by rw [hy1e]; rfl
  have i2 : z1.f0.f0 = z.f0.f0 := by rw [hz1e]; rfl
  have n1 : y1.f0.f2 = z.f0.f2 := by rw [hy1e]; rfl
  have n2 : z1.f0.f2 = y.f0.f2 := by rw [hz1e]; rfl
  rw [i1, i2, n1, n2]
  simp only [Function.comp_apply]
  by_cases m : u.f0.f0 = z.f0.f0
  ·rw [if_pos m]
   obtain rfl := h.inj hu hzm m
   by_cases m2 : u.f0.f0 = y.f0.f0
   ·obtain rfl := h.inj hu hym m2
    simp only [table1, if_true]
   ·rw [if_neg (show ¬ (table1 y.f0.f2 u).f0.f0 = y.f0.f0 from m2), if_pos (show (table1 y.f0.f2 u).f0.f0 = u.f0.f0 from rfl)]
    rfl
  ·rw [if_neg m]
   by_cases m2 : u.f0.f0 = y.f0.f0
   ·obtain rfl := h.inj hu hym m2
    rw [if_pos rfl, if_pos (show (table1 z.f0.f2 u).f0.f0 = u.f0.f0 from rfl)]
    rfl
   ·rw [if_neg m2, if_neg m2, if_neg m]
 ·exact absurd (show (4 : Int) = 0 from h0) (by decide)
theorem dropped_max {p : EN → Bool} {i : Nat} {y : EN} (hy : es[i]? = some y) (hp : p y = true) (hg : 0 < y.f0.f8) (ho : ∀ (j : Nat) (z : EN), es[j]? = some z → p z = true → j ≠ i → z.f0.f8 < y.f0.f8) : dropped es p = some i := by
 have hil := (List.getElem?_eq_some_iff.1 hy).1
 have key : ∀ k, k ≤ es.length → (k ≤ i → ∀ j g, dropUpTo p es k = some (j, g) → g < y.f0.f8) ∧ (i < k → dropUpTo p es k = some (i, y.f0.f8)) := by
  intro k
  induction k with
  | zero => intro _; exact ⟨fun _ j g e => by simp [dropUpTo] at e, fun e => absurd e (by omega)⟩
  | succ k ih =>
   intro hk
   obtain ⟨h1, h2⟩ := ih (by omega)
   obtain ⟨z, hz⟩ : ∃ z, es[k]? = some z := ⟨_, List.getElem?_eq_getElem (by omega)⟩
   have hzd : es.getD k z64 = z := by simp [List.getD_eq_getElem?_getD, hz]
   refine ⟨fun hki j g e => ?_, fun hik => ?_⟩
   ·unfold dropUpTo at e
    rw [hzd] at e
    cases hpz : p z with
    | false =>
     rw [step_false2 hpz] at e
     exact h1 (by omega) j g e
    | true =>
     rcases dropStep_or p (dropUpTo p es k) k z with e2 | e2
     ·rw [e2] at e
      injection e with e; injection e with e1 e3
      rw [← e3]
      exact ho k z hz hpz (by omega)
     ·rw [e2] at e
      exact h1 (by omega) j g e
   ·unfold dropUpTo
    rw [hzd]
    unfold dropStep
    by_cases hki : k = i
    ·subst hki
     rw [hz] at hy; cases hy
     rw [if_pos]
     simp only [Bool.and_eq_true, decide_eq_true_eq]
     refine ⟨hg, hp, ?_⟩
     cases hacc : dropUpTo p es k with
     | none => rfl
     | some o =>
      obtain ⟨j, g⟩ := o
      have := h1 (Nat.le_refl _) j g hacc
      simp; omega
    ·rw [h2 (by omega), if_neg]
     simp only [Bool.and_eq_true, decide_eq_true_eq]
     rintro ⟨-, hpz, hle⟩
     have := ho k z hz hpz hki
     omega
 have := (key es.length (Nat.le_refl _)).2 hil
 unfold dropped
 rw [this]
 rfl
theorem foldl_same {α : Type} {f g : Int → α → Int} : ∀ {l : List α} (k : Int), (∀ z ∈ l, ∀ k, f k z = g k z) → l.foldl f k = l.foldl g k
 | [], _, _ => rfl
 | a :: r, k, h => by
  simp only [List.foldl_cons]
  rw [h a (by simp)]
  exact foldl_same _ (fun z hz => h z (by simp [hz]))
def keepsBy (es : List EN) (y : EN) : Int := if y.f0.f2.toList = [] then (picked (isIn y.f0.f0) es).foldl (fun k t => min k t.f5) y.f0.f5 else y.f0.f5
theorem fold_picked (P : EN → Bool) (es : List EN) (k : Int) : (picked P es).foldl (fun k t => min k t.f5) k = es.foldl (fun k z => if P z = true then min k z.f0.f5 else k) k := by
 unfold picked
 rw [List.foldl_map, List.foldl_filter]
theorem fold_none {f : Int → EN → Int} (k : Int) (h : ∀ z ∈ es, ∀ k, f k z = k) : es.foldl f k = k := by
 rw [foldl_same (g := fun k _ => k) k h]
 clear h
 induction es with
 | nil => rfl
 | cons a r ih => exact ih
theorem map_self {G : EN → EN} (h : ∀ z ∈ es, G z = z) : es.map G = es := by
 conv => rhs; rw [← List.map_id' es]
 exact List.map_congr_left h
theorem back_law (h : EInv n es) (hn : 0 ≤ n) (hc : n < c) {x x' : DE} (hx1 : x'.f1 = x.f1) (hx2 : x'.f2 = x.f2) {i : Nat} {y : EN} (hi : findIx es x.f1 x.f2 = some i) (hy : es[i]? = some y) {d d2 : Dr} (hd : d.commit = c) :
  ∃ es1, drop d es x = (0, es1) ∧ es1.length = es.length ∧ findIx es1 x.f1 x.f2 = none ∧ undrop d2 es1 x' = if wrap64 (atTime d2 c + keepsBy es y) < d2.time then (9, es1) else (0, es) := by
 have hdrop : EInv d.commit (drop d es x).2 := drop_inv h d x (by omega) (by omega)
 rw [hd] at hdrop
 have hyd0 : es.getD i z64 = y := by simp [List.getD_eq_getElem?_getD, hy]
 have hym := mem_of hy
 have hil := (List.getElem?_eq_some_iff.1 hy).1
 rcases find_is hi with ⟨ht, y', hy', hdb, hb, hg⟩ | ⟨ht, y', b, hy', hbm, hbd, hbn, hbg, e1, e2, hg⟩
 ·rw [hy] at hy'; cases hy'
  have hp := h.pos hym
  have h0 := (h.db y hym hdb).1
  have hw0 := (h.db y hym hdb).2
  obtain ⟨G, hG⟩ : ∃ G : EN → EN, G = fun z => if z.f0.f0 = y.f0.f0 then gone1 c z else if z.f1 = y.f0.f0 then goneT c z else z := ⟨_, rfl⟩
  have hes : drop d es x = (0, es.map G) := by
   unfold drop
   rw [hi]
   dsimp only
   rw [if_pos ht, id_of hy, hd, h.set_tabs hy hdb _ _ rfl, hG]
  rw [hes] at hdrop
  have hdrop' : EInv c (es.map G) := hdrop
  have hGy : G y = gone1 c y := by rw [hG]; simp
  have hGdb : ∀ z ∈ es, isDb z → z.f0.f0 ≠ y.f0.f0 → G z = z := fun z hz dz m => by
   rw [hG]
   dsimp only
   rw [if_neg m, if_neg (by rw [(h.db z hz dz).1]; omega)]
  have hGt : ∀ z ∈ es, z.f1 = y.f0.f0 → G z = goneT c z := fun z hz m => by
   rw [hG]
   dsimp only
   rw [if_neg (fun m2 => by rw [h.inj hz hym m2] at m; omega), if_pos m]
  have hGid : ∀ z ∈ es, (G z).f0.f0 = z.f0.f0 := fun z _ => by
   rw [hG]; unfold gone1 goneT; dsimp only
   repeat' split
   all_goals rfl
  have hGdb2 : ∀ z ∈ es, isDb (G z) ↔ isDb z := fun z _ => by
   rw [hG]; unfold gone1 goneT isDb; dsimp only
   repeat' split
   all_goals rfl
  have hGf1 : ∀ z ∈ es, (G z).f1 = z.f1 := fun z _ => by
   rw [hG]; unfold gone1 goneT; dsimp only
   repeat' split
   all_goals rfl
  have hnone : findIx (es.map G) x.f1 x.f2 = none := by
   unfold findIx
   rw [if_pos ht]
   cases hbx : baseIx (es.map G) x.f1 with
   | none => rfl
   | some j =>
    exfalso
    obtain ⟨u, u1, u2, u3, u4⟩ := base_is hbx
    obtain ⟨z, hz, rfl⟩ := List.mem_map.1 (mem_of u1)
    have dz := (hGdb2 z hz).1 u2
    by_cases m : z.f0.f0 = y.f0.f0
    ·rw [h.inj hz hym m, hGy] at u4
     have : c = 0 := u4
     omega
    ·rw [hGdb z hz dz m] at u3 u4
     exact m (h.uniqB z hz y hym dz hdb u4 hg (u3.trans hb.symm))
  have hi1 : (es.map G)[i]? = some (gone1 c y) := by rw [List.getElem?_map, hy]; simp only [Option.map_some]; rw [hGy]
  have hi1d : (es.map G).getD i z64 = gone1 c y := by simp only [List.getD_eq_getElem?_getD, hi1, Option.getD_some]
  have hdr : dropped (es.map G) (ofDeed x' 0) = some i := by
   refine dropped_max hi1 ?_ (by show 0 < c; omega) ?_
   ·unfold ofDeed
    rw [hx1, hx2, if_pos ht]
    simp only [Bool.and_eq_true, decide_eq_true_eq]
    exact ⟨hdb.trans ht.symm, by show y.f0.f1.toList = _; rw [hb]⟩
   ·intro j z hz hp hj
    unfold ofDeed at hp
    rw [hx1, hx2, if_pos ht] at hp
    simp only [Bool.and_eq_true, decide_eq_true_eq] at hp
    rw [List.getElem?_map] at hz
    cases hz2 : es[j]? with
    | none => rw [hz2] at hz; cases hz
    | some z0 =>
     rw [hz2] at hz; cases hz
     have hz0 := mem_of hz2
     have dz : isDb z0 := (hGdb2 z0 hz0).1 (hp.1.trans ht)
     have m : z0.f0.f0 ≠ y.f0.f0 := fun m => hj (h.ix hz2 hy m)
     rw [hGdb z0 hz0 dz m]
     have := (h.gone z0 hz0).2
     show z0.f0.f8 < c
     omega
  refine ⟨es.map G, hes, by simp, hnone, ?_⟩
  unfold undrop
  rw [if_pos (by rw [hx2]; exact ht)]
  unfold undropAt
  rw [hdr]
  dsimp only
  rw [hx1, hx2, hnone, hi1d]
  have hw : ∀ z : EN, withIt x' c z = true ↔ z.f0.f8 = c ∧ z.f2 = c := fun z => by unfold withIt; rw [hx2]; simp [ht]
  have hfold : (es.map G).foldl (keepStep x' (gone1 c y).f0.f0 (gone1 c y).f0.f8) (gone1 c y).f0.f5 = keepsBy es y := by
   unfold keepsBy
   have hdb' : y.f0.f2.toList = [] := hdb
   rw [if_pos hdb', fold_picked, List.foldl_map]
   refine foldl_same _ fun z hz k => ?_
   show keepStep x' y.f0.f0 c k (G z) = _
   unfold keepStep isIn
   rw [hGf1 z hz]
   by_cases m : z.f1 = y.f0.f0
   ·rw [if_pos m, hGt z hz m]
    unfold goneT
    by_cases hl : z.f0.f8 = 0
    ·rw [if_pos hl, if_pos ((hw _).2 ⟨rfl, rfl⟩), if_pos (by simp [m, hl])]
    ·rw [if_neg hl, if_neg (fun q => by have := ((hw _).1 q).1; have := (h.gone z hz).2; omega), if_neg (by simp [hl])]
   ·rw [if_neg m, if_neg (by simp [m])]
  rw [hfold]
  simp only [Option.isSome_none, if_neg (show ¬ (false = true) by decide)]
  show (if wrap64 (atTime d2 c + keepsBy es y) < d2.time then _ else _) = _
  split
  ·rfl
  ·congr 1
   have := hdrop'.set_tabs (f := back1 x') (g := backT x' c) hi1 (by exact hdb) rfl
   show (setE (es.map G) i (back1 x')).map (tabs (gone1 c y).f0.f0 (backT x' c)) = es
   rw [this, List.map_map]
   refine map_self fun z hz => ?_
   show (if (G z).f0.f0 = y.f0.f0 then back1 x' (G z) else if (G z).f1 = y.f0.f0 then backT x' c (G z) else G z) = z
   rw [hGid z hz, hGf1 z hz]
   by_cases m : z.f0.f0 = y.f0.f0
   ·rw [if_pos m]
    obtain rfl := h.inj hz hym m
    rw [hGy]
    obtain ⟨⟨a0, a1, a2, a3, a4, a5, a6, a7, a8⟩, f1, f2⟩ := z
    simp only at hg hb hw0
    subst hg hw0
    simp only [back1, gone1, hx1, hb]
   ·rw [if_neg m]
    by_cases m1 : z.f1 = y.f0.f0
    ·rw [if_pos m1, hGt z hz m1]
     have dz : ¬ isDb z := fun dz => by rw [(h.db z hz dz).1] at m1; omega
     obtain ⟨b, hbm, hH⟩ := h.home z hz dz
     obtain rfl := h.home_is hym hbm hH m1
     unfold goneT
     by_cases hl : z.f0.f8 = 0
     ·rw [if_pos hl]
      unfold backT
      rw [if_pos ((hw _).2 ⟨rfl, rfl⟩)]
      obtain ⟨l1, -, l3⟩ := hH.live hl
      obtain ⟨⟨a0, a1, a2, a3, a4, a5, a6, a7, a8⟩, f1, f2⟩ := z
      simp only at hl l1 l3
      subst hl l1
      simp only [hx1, ← hb, l3]
     ·rw [if_neg hl]
      unfold backT
      rw [if_neg (fun q => by have := ((hw _).1 q).1; have := (h.gone z hz).2; omega)]
    ·rw [if_neg m1]
     rw [hG]
     dsimp only
     rw [if_neg m, if_neg m1]
 ·rw [hy] at hy'; cases hy'
  have hyd : ¬ isDb y := by unfold isDb; rw [e2]; exact ht
  obtain ⟨b', hb', hH⟩ := h.home y hym hyd
  obtain rfl := h.home_is hbm hb' hH e1
  obtain ⟨l1, -, l3⟩ := hH.live hg
  have hby : b'.f0.f0 ≠ y.f0.f0 := fun e => hyd (by rw [← h.inj hbm hym e]; exact hbd)
  obtain ⟨G, hG⟩ : ∃ G : EN → EN, G = fun z => if z.f0.f0 = y.f0.f0 then gone1 c z else z := ⟨_, rfl⟩
  have hes : drop d es x = (0, es.map G) := by
   unfold drop
   rw [hi]
   dsimp only
   rw [if_neg ht, hd, h.set_map hy, hG]
  rw [hes] at hdrop
  have hdrop' : EInv c (es.map G) := hdrop
  have hGy : G y = gone1 c y := by rw [hG]; simp
  have hGn : ∀ z : EN, z.f0.f0 ≠ y.f0.f0 → G z = z := fun z m => by rw [hG]; dsimp only; rw [if_neg m]
  obtain ⟨q, hq⟩ := List.mem_iff_getElem?.1 hbm
  have hq1 : (es.map G)[q]? = some b' := by rw [List.getElem?_map, hq]; simp only [Option.map_some]; rw [hGn b' hby]
  have hbase : baseIx (es.map G) x.f1 = some q := by rw [← hbn]; exact base_find hdrop' hq1 hbd hbg
  have hnone : findIx (es.map G) x.f1 x.f2 = none := by
   unfold findIx
   rw [if_neg ht, hbase]
   show tableIx (es.map G) (idOf (es.map G) q) x.f2 = none
   rw [id_of hq1]
   cases hbx : tableIx (es.map G) b'.f0.f0 x.f2 with
   | none => rfl
   | some j =>
    exfalso
    obtain ⟨u, u1, u2, u3, u4⟩ := table_is hbx
    obtain ⟨z, hz, rfl⟩ := List.mem_map.1 (mem_of u1)
    by_cases m : z.f0.f0 = y.f0.f0
    ·rw [h.inj hz hym m, hGy] at u4
     have : c = 0 := u4
     omega
    ·rw [hGn z m] at u2 u3 u4
     have dz : ¬ isDb z := by unfold isDb; rw [u3]; exact ht
     exact m (h.uniqT z hz y hym dz hyd (u2.trans e1.symm) (.inl u4) (.inl hg) (u3.trans e2.symm))
  have hi1 : (es.map G)[i]? = some (gone1 c y) := by rw [List.getElem?_map, hy]; simp only [Option.map_some]; rw [hGy]
  have hi1d : (es.map G).getD i z64 = gone1 c y := by simp only [List.getD_eq_getElem?_getD, hi1, Option.getD_some]
  have hdr : dropped (es.map G) (ofDeed x' b'.f0.f0) = some i := by
   refine dropped_max hi1 ?_ (by show 0 < c; omega) ?_
   ·unfold ofDeed
    rw [hx1, hx2, if_neg ht]
    simp only [Bool.and_eq_true, decide_eq_true_eq, beq_iff_eq]
    exact ⟨by show y.f0.f2.toList = _; rw [e2], e1⟩
   ·intro j z hz _ hj
    rw [List.getElem?_map] at hz
    cases hz2 : es[j]? with
    | none => rw [hz2] at hz; cases hz
    | some z0 =>
     rw [hz2] at hz; cases hz
     have hz0 := mem_of hz2
     have m : z0.f0.f0 ≠ y.f0.f0 := fun m => hj (h.ix hz2 hy m)
     rw [hGn z0 m]
     have := (h.gone z0 hz0).2
     show z0.f0.f8 < c
     omega
  refine ⟨es.map G, hes, by simp, hnone, ?_⟩
  unfold undrop
  rw [if_neg (by rw [hx2]; exact ht), hx1, hbase]
  dsimp only
  rw [id_of hq1]
  unfold undropAt
  rw [hdr]
  dsimp only
  rw [hx1, hx2, hnone, hi1d]
  have hw : ∀ (g : Int) (z : EN), withIt x' g z = false := fun g z => by unfold withIt; rw [hx2]; simp [ht]
  have hfold : (es.map G).foldl (keepStep x' (gone1 c y).f0.f0 (gone1 c y).f0.f8) (gone1 c y).f0.f5 = keepsBy es y := by
   unfold keepsBy
   have hyd' : ¬ y.f0.f2.toList = [] := hyd
   rw [if_neg hyd']
   refine fold_none _ fun z _ k => ?_
   unfold keepStep
   rw [hw]
   simp
  rw [hfold]
  simp only [Option.isSome_none, if_neg (show ¬ (false = true) by decide)]
  show (if wrap64 (atTime d2 c + keepsBy es y) < d2.time then _ else _) = _
  split
  ·rfl
  ·congr 1
   show (setE (es.map G) i (back1 x')).map (tabs (gone1 c y).f0.f0 (backT x' c)) = es
   rw [hdrop'.set_map hi1, List.map_map, List.map_map]
   refine map_self fun z hz => ?_
   have hbk : ∀ u : EN, tabs (gone1 c y).f0.f0 (backT x' c) u = u := fun u => by
    unfold tabs backT
    rw [hw]
    simp
   simp only [Function.comp_apply]
   rw [hbk]
   show (if (G z).f0.f0 = y.f0.f0 then back1 x' (G z) else G z) = z
   by_cases m : z.f0.f0 = y.f0.f0
   ·obtain rfl := h.inj hz hym m
    rw [hGy, if_pos (show (gone1 c z).f0.f0 = z.f0.f0 from rfl)]
    have hzb : z.f0.f1 = x.f1 := l3.trans hbn
    obtain ⟨⟨a0, a1, a2, a3, a4, a5, a6, a7, a8⟩, f1, f2⟩ := z
    simp only at hg l1 hzb
    subst hg l1
    simp only [back1, gone1, hx1, hzb]
   ·rw [hGn z m, if_neg m]
end
end Go.Proofs.Ytcfgcmjnailndaa
