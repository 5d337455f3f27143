/-
  Catalog: the deeds of a commit, one after the other.
  Catalog: deeds copied.
  Readers: the closures of List and All; copied.
  Readers: copied.
  Readers: words for some; the closure of Within; an entry appended to a list.
  Readers: some, of within. (printed by wip/tools/gen_some.py)
  Readers: Get, Within.
-/
import Derived.Deep.RegionWith
import Derived.Test.YtcfgcmjnailndaaKd6
import Derived.Test.YtcfgcmjnailndaaKd3
import Derived.Test.YtcfgcmjnailndaaKd8
import Derived.Test.YtcfgcmjnailndaaKd7
namespace Go.Proofs.Ytcfgcmjnailndaa
open Go.RowKit Go.Proofs.Ytcfgcmjnailndaa.PCatalogKept Go.Proofs.YtcfgcmjnailndaaW.PrintWords Go.Proofs.YtcfgcmjnailndaaW.PrintLast Go.Proofs.YtcfgcmjnailndaaW.PrintMore
theorem spot_none {w : World} {a : Addr} {v : Value} (h : w.cell? a = some v) : a.spot = none := by
 unfold World.cell? at h
 split at h
 ·cases hs : a.spot with
  | none => rfl
  | some _ => rw [hs] at h; simp at h
 ·cases h
theorem addr_plain {a : Addr} (h : a.spot = none) : a = ⟨a.block, a.off, none⟩ := by cases a; simp_all
structure DeedAt (w : World) (b o : Nat) (x : DE) (A4 : Option Addr) (c4 : Nat) (A6 : Option Addr) (c6 : Nat) : Prop where
 d0 : w.cell? ⟨b, o, none⟩ = some (.string x.f0)
 d1 : w.cell? ⟨b, o + 1, none⟩ = some (.string x.f1)
 d2 : w.cell? ⟨b, o + 2, none⟩ = some (.string x.f2)
 d3 : w.cell? ⟨b, o + 3, none⟩ = some (.string x.f3)
 d4 : w.cell? ⟨b, o + 4, none⟩ = some (.slice A4 x.f4.length c4)
 d5 : w.cell? ⟨b, o + 5, none⟩ = some (.int .i64 x.f5)
 d6 : w.cell? ⟨b, o + 6, none⟩ = some (.slice A6 x.f6.length c6)
 l4 : x.f4.length ≤ c4
 r4 : kC.C w A4 x.f4.length x.f4
 l6 : x.f6.length ≤ c6
 r6 : kI.C w A6 x.f6.length x.f6
theorem DeedAt.fr {w w' : World} {b o : Nat} {x : DE} {A4 : Option Addr} {c4 : Nat} {A6 : Option Addr} {c6 : Nat} (h : DeedAt w b o x A4 c4 A6 c6) (f : Fr [] w w') : DeedAt w' b o x A4 c4 A6 c6 :=
 ⟨f.cell0 h.d0, f.cell0 h.d1, f.cell0 h.d2, f.cell0 h.d3, f.cell0 h.d4, f.cell0 h.d5, f.cell0 h.d6, h.l4, Kd.C_below h.r4 f.below0, h.l6, Kd.C_below h.r6 f.below0⟩
theorem deeds_at {w : World} {A : Option Addr} {n k : Nat} {xs : List DE} {x : DE} (h : Kd.C k31 w A n xs) (hx : xs[k]? = some x) :
  ∃ b off A4 c4 A6 c6, A = some ⟨b, off, none⟩ ∧ DeedAt w b (off + k * 7) x A4 c4 A6 c6 := by
 have hk := (List.getElem?_eq_some_iff.1 hx).1
 have hn : xs.length = n := h.1
 obtain ⟨ad, A4, c4, A6, c6, e, h0, h1, h2, h3, h4, h5, h6, l4, r4, l6, r6⟩ := at_T31 h (k : Int) (by omega) (by omega)
 have ex : rd_T31 xs (k : Int) = x := by simp [rd_T31, List.getD_eq_getElem?_getD, hx]
 rw [ex] at h0 h1 h2 h3 h4 h5 h6 l4 r4 l6 r6
 have hsp : ad.spot = none := by
  obtain ⟨ad', _, _, _, _, e', h0', _⟩ := at_T31 h 0 (by omega) (by omega)
  rw [e] at e'
  cases e'
  have hs := spot_none h0'
  simpa [Addr.add] using hs
 rw [addr_plain hsp] at e
 have ea : ad.add (((k : Int)).toNat * 7) = ⟨ad.block, ad.off + k * 7, none⟩ := by rw [addr_plain hsp, add_mk]; simp
 rw [ea] at h0 h1 h2 h3 h4 h5 h6
 exact ⟨ad.block, ad.off, A4, c4, A6, c6, e, h0, h1, h2, h3, h4, h5, h6, l4, r4, l6, r6⟩
theorem op_cases {s : ByteArray} (h : isOp s = true) : s = kCreate ∨ s = kDrop ∨ s = kUndrop ∨ s = kRename ∨ s = kSwap ∨ s = kLay ∨ s = kKeep := by
 simpa [isOp] using h
structure DeedOk (x : DE) : Prop where
 op : isOp x.f0 = true
 l4 : x.f4.length ≤ 1000000
 l6 : x.f6.length ≤ 1000000000
theorem setE_len (es : List EN) (i : Nat) (f : EN → EN) : (setE es i f).length = es.length := by simp [setE]
theorem deed_len (d : Dr) (es : List EN) (x : DE) : (deedBy d es x).2.length ≤ es.length + 1 := by
 have h1 : (create d es x).2.length ≤ es.length + 1 := by unfold create; grind
 have h2 : (drop d es x).2.length ≤ es.length + 1 := by unfold drop; grind [setE_len]
 have h3 : (undrop d es x).2.length ≤ es.length + 1 := by unfold undrop undropAt; grind [setE_len]
 have h4 : (rename es x).2.length ≤ es.length + 1 := by unfold rename; grind [setE_len]
 have h5 : (swap es x).2.length ≤ es.length + 1 := by unfold swap; grind [setE_len]
 have h6 : (lay d es x).2.length ≤ es.length + 1 := by unfold lay; grind [setE_len]
 have h7 : (keepIt es x).2.length ≤ es.length + 1 := by unfold keepIt; grind [setE_len]
 unfold deedBy
 grind
theorem okl_tail {xs : List DE} {k : Nat} {x : DE} (h : ∀ y ∈ xs, DeedOk y) (hx : xs[k]? = some x) : DeedOk x := h x (List.mem_iff_getElem?.2 ⟨k, hx⟩)
def doneK (d : Dr) (es : List EN) (xs : List DE) : Nat → Option (List EN)
 | 0 => some es
 | k + 1 => match doneK d es xs k with
  | none => none
  | some l => match xs[k]? with
   | none => none
   | some x => if (deedBy d l x).1 = 0 then some (deedBy d l x).2 else none
theorem doneBy_nil (d : Dr) (es : List EN) : doneBy d es [] = if 4000 < es.length then (2, es) else (0, es) := rfl
theorem doneBy_cons (d : Dr) (es : List EN) (x : DE) (r : List DE) : doneBy d es (x :: r) = if (deedBy d es x).1 = 0 then doneBy d (deedBy d es x).2 r else deedBy d es x := rfl
theorem doneK_by (d : Dr) (es : List EN) (xs : List DE) : ∀ {k : Nat} {l : List EN}, doneK d es xs k = some l → doneBy d es xs = doneBy d l (xs.drop k)
 | 0, l, h => by simp [doneK] at h; subst h; simp
 | k + 1, l, h => by
  unfold doneK at h
  split at h
  ·cases h
  ·rename_i l0 h0
   split at h
   ·cases h
   ·rename_i x hx
    split at h
    ·rename_i he
     cases h
     have hk := (List.getElem?_eq_some_iff.1 hx)
     rw [doneK_by d es xs h0, List.drop_eq_getElem_cons hk.1, hk.2, doneBy_cons, if_pos he]
    ·cases h
theorem doneK_len (d : Dr) (es : List EN) (xs : List DE) : ∀ {k : Nat} {l : List EN}, doneK d es xs k = some l → l.length ≤ es.length + k
 | 0, l, h => by simp [doneK] at h; subst h; simp
 | k + 1, l, h => by
  unfold doneK at h
  split at h
  ·cases h
  ·rename_i l0 h0
   split at h
   ·cases h
   ·rename_i x hx
    split at h
    ·cases h
     have := doneK_len d es xs h0
     have := deed_len d l0 x
     omega
    ·cases h
def Doing (w0 : World) (db : Nat) (tv : Value) (d : Dr) (l : List EN) (w : World) : Prop :=
 ∃ ev, DraftAt w db tv ev d l ∧ Fr [] w0 w ∧ w0.heap.size ≤ db ∧ ∀ k, ev.ownBlock = some k → w0.heap.size ≤ k
theorem Doing.next {w0 w1 w2 : World} {db : Nat} {tv ev : Value} {d : Dr} {l : List EN} {r : Int × List EN} {e : Ending} (h : DraftAt w1 db tv ev d l) (f : Fr [] w0 w1) (h1 : w0.heap.size ≤ db) (h2 : ∀ k, ev.ownBlock = some k → w0.heap.size ≤ k) (hd : Deeded db tv ev d r w1 e w2) : e = .returned (.int .i64 r.1) ∧ Doing w0 db tv d r.2 w2 := by
 obtain ⟨he, ev', hD, hF, ho⟩ := hd
 refine ⟨he, ev', hD, f.trans hF (fun z hz => ?_), h1, fun k hk => ?_⟩
 ·rcases List.mem_cons.1 hz with rfl | hz
  ·exact .inr h1
  ·exact .inr (h2 z (by simpa using hz))
 ·rcases ho k hk with h | h
  ·exact h2 k h
  ·have := f.size; omega
theorem by_create {d : Dr} {es : List EN} {x : DE} (h : x.f0 = kCreate) : deedBy d es x = create d es x := by unfold deedBy; rw [if_pos h]
theorem by_drop {d : Dr} {es : List EN} {x : DE} (h : x.f0 = kDrop) : deedBy d es x = drop d es x := by unfold deedBy; simp [h, show kDrop ≠ kCreate by decide]
theorem by_undrop {d : Dr} {es : List EN} {x : DE} (h : x.f0 = kUndrop) : deedBy d es x = undrop d es x := by unfold deedBy; simp [h, show kUndrop ≠ kCreate by decide, show kUndrop ≠ kDrop by decide]
theorem by_rename {d : Dr} {es : List EN} {x : DE} (h : x.f0 = kRename) : deedBy d es x = rename es x := by unfold deedBy; simp [h, show kRename ≠ kCreate by decide, show kRename ≠ kDrop by decide, show kRename ≠ kUndrop by decide]
theorem by_swap {d : Dr} {es : List EN} {x : DE} (h : x.f0 = kSwap) : deedBy d es x = swap es x := by unfold deedBy; simp [h, show kSwap ≠ kCreate by decide, show kSwap ≠ kDrop by decide, show kSwap ≠ kUndrop by decide, show kSwap ≠ kRename by decide]
theorem by_lay {d : Dr} {es : List EN} {x : DE} (h : x.f0 = kLay) : deedBy d es x = lay d es x := by unfold deedBy; simp [h, show kLay ≠ kCreate by decide, show kLay ≠ kDrop by decide, show kLay ≠ kUndrop by decide, show kLay ≠ kRename by decide, show kLay ≠ kSwap by decide]
theorem by_keep {d : Dr} {es : List EN} {x : DE} (h : x.f0 = kKeep) : deedBy d es x = keepIt es x := by unfold deedBy; simp [h, show kKeep ≠ kCreate by decide, show kKeep ≠ kDrop by decide, show kKeep ≠ kUndrop by decide, show kKeep ≠ kRename by decide, show kKeep ≠ kSwap by decide, show kKeep ≠ kLay by decide]
def Made {α : Type} (d : Kd α) (t : TypeId) (xs : List α) (w : World) (e : Ending) (w' : World) : Prop :=
 ∃ v, e = .returned v ∧ d.R t w' 0 (fun _ => True) v xs ∧ Fr [] w w' ∧ ∀ k, v.ownBlock = some k → w.heap.size ≤ k
theorem infoD : (Try.prog.info? 31).map (fun i => (i.zero, i.size, i.bytes)) = some (some (.agg #[.string ⟨#[]⟩, .string ⟨#[]⟩, .string ⟨#[]⟩, .string ⟨#[]⟩, .slice none 0 0, .int .i64 0, .slice none 0 0]), 7, 120) := by kernel_rfl
theorem M_ownR {α β : Type} {k : Kd α} {d : Kd β} {t : TypeId} {w : World} {y : α} {cs : List Value} {v : Value} {es : List β} (h : k.M w 0 (fun _ => True) y cs) (hv : d.R t w 0 (fun _ => True) v es) (ht : ∀ q ∈ k.E, q ≠ t) : k.M w 0 (fun k => some k ≠ v.ownBlock) y cs := by
 refine k.M_mono (fun j hj => ?_) (k.M_bound h)
 obtain ⟨-, -, -, q, hq, cells, hc⟩ := hj
 intro e
 obtain ⟨cells', hc'⟩ := Kd.R_typed hv j e.symm
 rw [hc] at hc'
 injection hc' with hc'; injection hc' with _ hc'
 exact ht q hq hc'
theorem deed_append {w : World} {v : Value} {xs : List DE} (R : kD.R 31 w 0 (fun _ => True) v xs) (hl : xs.length < 1000000) (x : DE) (v4 v6 : Value) (h4 : kC.R 83 w 0 (fun _ => True) v4 x.f4) (h6 : kI.R 3 w 0 (fun _ => True) v6 x.f6) :
  ∃ A1 c1 w1, (Builtin.append_ #[23, 23] 23 #[v, .slice (some ⟨w.heap.size, 0, none⟩) 1 1]).run Try.prog (w.alloc (.cells #[.string x.f0, .string x.f1, .string x.f2, .string x.f3, v4, .int .i64 x.f5, v6] 31)) = .ok (.slice A1 (xs.length + 1) c1) w1 ∧
   kD.R 31 w1 0 (fun _ => True) (.slice A1 (xs.length + 1) c1) (xs ++ [x]) ∧ w.grownBy w1 v.ownBlock ∧ ((Value.slice A1 (xs.length + 1) c1).ownBlock = v.ownBlock ∨ ∃ b, (Value.slice A1 (xs.length + 1) c1).ownBlock = some b ∧ w.heap.size ≤ b) := by
 obtain ⟨v1, w1, hrun, r5, g5, a5⟩ := R_run (P := Try.prog) kD (W := w) 23 23 31 _ 120 Try.underlying23 infoD rfl (by decide) (by decide) v xs x [.string x.f0, .string x.f1, .string x.f2, .string x.f3, v4, .int .i64 x.f5, v6] (fun k => some k ≠ v.ownBlock)
  (kD_mk x (M_ownR (ros_of_R h4) R (by decide)) (M_ownR (ros_of_R h6) R (by decide))) (fun _ h => h) R (by omega)
 obtain ⟨A1, c1, e⟩ := Kd.R_slice r5
 rw [List.length_append, List.length_singleton] at e
 subst e
 exact ⟨A1, c1, w1, hrun, r5, g5, a5⟩
theorem grow_own {w0 w w1 : World} {v v1 : Value} (f : Fr [] w0 w) (ho : ∀ k, v.ownBlock = some k → w0.heap.size ≤ k) (g : w.grownBy w1 v.ownBlock) (a : v1.ownBlock = v.ownBlock ∨ ∃ b, v1.ownBlock = some b ∧ w.heap.size ≤ b) : Fr [] w0 w1 ∧ ∀ k, v1.ownBlock = some k → w0.heap.size ≤ k := by
 refine ⟨f.grown g (fun k hk => .inr (ho k hk)), fun k hk => ?_⟩
 rcases a with a | ⟨b, hb, hle⟩
 ·exact ho k (by rw [← a]; exact hk)
 ·rw [hb] at hk; cases hk; have := f.size; omega
theorem box_end {wr w3 : World} {b : Nat} {x : DE} {A4 A6 A5 A7 : Option Addr} {c4 c6 c5 c7 : Nat} (B : w3.heap[b]? = some (.cells #[.string x.f0, .string x.f1, .string x.f2, .string x.f3, .slice A4 x.f4.length c4, .int .i64 x.f5, .slice A6 x.f6.length c6] 31 (0, 0)))
  (r5 : kC.R 83 w3 0 (fun _ => True) (.slice A5 x.f4.length c5) x.f4) (r7 : kI.R 3 w3 0 (fun _ => True) (.slice A7 x.f6.length c7) x.f6) (f : Fr [] wr w3) (hb : wr.heap.size ≤ b) :
  Fr [] wr ((w3.setCell ⟨b, 4, none⟩ (.slice A5 x.f4.length c5)).setCell ⟨b, 6, none⟩ (.slice A7 x.f6.length c7)) ∧
  kC.R 83 ((w3.setCell ⟨b, 4, none⟩ (.slice A5 x.f4.length c5)).setCell ⟨b, 6, none⟩ (.slice A7 x.f6.length c7)) 0 (fun _ => True) (.slice A5 x.f4.length c5) x.f4 ∧
  kI.R 3 ((w3.setCell ⟨b, 4, none⟩ (.slice A5 x.f4.length c5)).setCell ⟨b, 6, none⟩ (.slice A7 x.f6.length c7)) 0 (fun _ => True) (.slice A7 x.f6.length c7) x.f6 ∧
  ((w3.setCell ⟨b, 4, none⟩ (.slice A5 x.f4.length c5)).setCell ⟨b, 6, none⟩ (.slice A7 x.f6.length c7)).heap[b]? = some (.cells #[.string x.f0, .string x.f1, .string x.f2, .string x.f3, .slice A5 x.f4.length c5, .int .i64 x.f5, .slice A7 x.f6.length c7] 31 (0, 0)) := by
 have g : Fr [b] w3 ((w3.setCell ⟨b, 4, none⟩ (.slice A5 x.f4.length c5)).setCell ⟨b, 6, none⟩ (.slice A7 x.f6.length c7)) := ((Fr.refl _ _).setCell (.inl (by simp)) _).setCell (.inl (by simp)) _
 refine ⟨f.trans g (fun z hz => .inr (by simp at hz; omega)), R_fr r5 g (NoT.one B (by
  intro q hq
  simp [k83, Kd.iso, Kd.pair, Kd.int, Kd.string, Kd.scalar] at hq
  subst hq; decide)), R_fr r7 g (NoT.one B (by
  intro q hq
  simp [Kd.int, Kd.scalar] at hq
  subst hq; decide)), ?_⟩
 have h1 := blk_setCell B 4 (.slice A5 x.f4.length c5)
 simp only [List.setIfInBounds_toArray, List.set_cons_succ, List.set_cons_zero] at h1
 have h2 := blk_setCell h1 6 (.slice A7 x.f6.length c7)
 simp only [List.setIfInBounds_toArray, List.set_cons_succ, List.set_cons_zero] at h2
 exact h2
set_option maxRecDepth 100000 in
set_option maxHeartbeats 4000000 in
theorem copyDeeds_any (A : Option Addr) (c : Nat) (xs : List DE) (w : World) (hC : Kd.C k31 w A xs.length xs) (hok : ∀ y ∈ xs, DeedOk y) (hl : xs.length ≤ 100000) :
  Calls Try.prog 49 #[.slice A xs.length c] w (Made kD 31 xs w) := by
 have HC := hid hC
 have HK := hid hok
 clear hC hok
 go_enter Try.func49, Try.ntmps49
 go_wp2
 go_loopw [3, 8] (fun out i wr => ∃ (k : Nat), i = .int .i64 k ∧ k ≤ xs.length ∧ kD.R 31 wr 0 (fun _ => True) out (xs.take k) ∧ Fr [] w wr ∧ ∀ q, out.ownBlock = some q → w.heap.size ≤ q) (fun _ i _ => xs.length - (intOf i).toNat)
 case atStart => exact ⟨0, rfl, Nat.zero_le _, Kd.R_nil _ _ _ _ _, Fr.refl _ _, fun q hq => by simp [Value.ownBlock] at hq⟩
 case round =>
  obtain ⟨k, rfl, hk, hR, hF, hO⟩ := hrel
  have HR := hid hR
  have HF := hid hF
  have HO := hid hO
  clear hR hF hO
  by_cases hlt : k < xs.length
  ·obtain ⟨x, hx⟩ : ∃ x, xs[k]? = some x := ⟨_, List.getElem?_eq_getElem hlt⟩
   obtain ⟨b, off, A4, c4, A6, c6, eA, hat⟩ := deeds_at HC.out hx
   have hxk := okl_tail HK.out hx
   subst eA
   obtain ⟨d0, d1, d2, d3, d4, d5, d6, l4, r4, l6, r6⟩ := hat.fr HF.out
   have HX := hid hx
   have hm0 : (0 : Int) ≤ (k : Int) := by omega
   have hm1 : (k : Int) < (xs.length : Int) := by omega
   have R4 := hid r4
   have R6 := hid r6
   have XK := hid hxk
   have F0 := hid ((Fr.refl [] wr).alloc (.cells #[.string x.f0, .string x.f1, .string x.f2, .string x.f3, .slice A4 x.f4.length c4, .int .i64 x.f5, .slice A6 x.f6.length c6] 31)).drew
   clear hat r4 r6 hx hxk
   go_wp2_with fail
   refine (fun (KEY : Hid (∀ w4 A5 c5 A7 c7, Fr [] wr w4 → kC.R 83 w4 0 (fun _ => True) (.slice A5 x.f4.length c5) x.f4 → kI.R 3 w4 0 (fun _ => True) (.slice A7 x.f6.length c7) x.f6 → w4.heap[wr.heap.size]? = some (.cells #[.string x.f0, .string x.f1, .string x.f2, .string x.f3, .slice A5 x.f4.length c5, .int .i64 x.f5, .slice A7 x.f6.length c7] 31 (0, 0)) → (?KEYP : World → Option Addr → Nat → Option Addr → Nat → Prop) w4 A5 c5 A7 c7)) => ?main) ?key
   case main =>
    go_region_with (first
     | (go_at_call 53; refine (clone_cols A4 c4 _ x.f4 (Kd.C_below R4.out F0.out.below0) XK.out.l4).mono ?_; rintro e w2 ⟨u4, rfl, r4, f2, -⟩; obtain ⟨A5, c5, rfl⟩ := Kd.R_slice r4; have F2 := hid (F0.out.then f2); have R5 := hid r4; have b2 := f2.blk ((Fr.refl [] _).drew.blk (heap_alloc_new wr _) (by simp)) (by simp); have B2 := hid b2; have t4 := cell_of_row w2 wr.heap.size 4 _ _ _ b2; have t6 := cell_of_row w2 wr.heap.size 6 _ _ _ b2; simp at t4 t6; clear f2 r4 b2)
     | (go_at_call 54; refine (clone_ints A6 c6 _ x.f6 (Kd.C_below R6.out F2.out.below0) XK.out.l6).mono ?_; rintro e w3 ⟨u6, rfl, r6, f3, -⟩; obtain ⟨A7, c7, rfl⟩ := Kd.R_slice r6; have F3 := hid (F2.out.then f3); have R5' := hid (R_fr0 R5.out f3); have R7 := hid r6; have b3 := f3.blk B2.out (by simp); have B3 := hid b3; have s4 := cell_of_row w3 wr.heap.size 4 _ _ _ b3; have s6 := cell_of_row w3 wr.heap.size 6 _ _ _ b3; have z4 := blk_free b3 4; have z6 := blk_free b3 6; simp at s4 s6; clear f3 r6 b3))
    all_goals
     obtain ⟨e1, e2, e3, e4⟩ := box_end B3.out R5'.out R7.out F3.out (Nat.le_refl _)
     generalize (w3.setCell ⟨wr.heap.size, 4, none⟩ (.slice A5 x.f4.length c5)).setCell ⟨wr.heap.size, 6, none⟩ (.slice A7 x.f6.length c7) = w4 at e1 e2 e3 e4
     exact KEY.out w4 A5 c5 A7 c7 e1 e2 e3 e4
   refine hid (fun w4 A5 c5 A7 c7 f4 r5 r7 b4 => ?_)
   obtain ⟨T, hT⟩ : ∃ T, T = xs.take k := ⟨_, rfl⟩
   have hR := HR.out
   rw [← hT] at hR
   have hTl : T.length ≤ 100000 := by rw [hT]; simp; omega
   have HT := hid hT
   obtain ⟨A8, c8, rfl⟩ := Kd.R_slice hR
   obtain ⟨A9, c9, w5, hrun, r9, g9, a9⟩ := deed_append (R_fr0 hR f4) (by omega) x _ _ r5 r7
   obtain ⟨f9, o9⟩ := grow_own (HF.out.then f4) HO.out g9 a9
   have HRUN := hid hrun
   have R9 := hid r9
   have F9 := hid f9
   have O9 := hid o9
   have n0 := cell_of_row w4 wr.heap.size 0 _ _ _ b4
   have n1 := cell_of_row w4 wr.heap.size 1 _ _ _ b4
   have n2 := cell_of_row w4 wr.heap.size 2 _ _ _ b4
   have n3 := cell_of_row w4 wr.heap.size 3 _ _ _ b4
   have n4 := cell_of_row w4 wr.heap.size 4 _ _ _ b4
   have n5 := cell_of_row w4 wr.heap.size 5 _ _ _ b4
   have n6 := cell_of_row w4 wr.heap.size 6 _ _ _ b4
   simp at n0 n1 n2 n3 n4 n5 n6
   clear hR hT f4 r5 r7 b4 hrun r9 g9 a9 f9 o9 d0 d1 d2 d3 d4 d5 d6 HR HO HF
   go_wp2_with ((with_reducible refine gate_dst (N := 23) rfl ?_); refine step_append (v := .slice A8 T.length c8) (y := .slice (some ⟨w4.heap.size, 0, none⟩) 1 1) (v1 := .slice A9 (T.length + 1) c9) (w1 := w5) rfl (.tmp 20) (.tmp 22) 23 rfl rfl rfl HRUN.out ?_)
   go_roundw
   case rel => exact ⟨k + 1, by go_num, by omega, by rw [List.take_succ_eq_append_getElem hlt, (List.getElem?_eq_some_iff.1 HX.out).2, ← HT.out]; exact R9.out, F9.out, O9.out⟩
   case measure => simp [intOf]; omega
  ·obtain rfl : k = xs.length := by omega
   have hr := HR.out
   rw [List.take_length] at hr
   have HR2 := hid hr
   clear hr
   go_wp2
   go_ret
   exact ⟨_, rfl, HR2.out, HF.out, HO.out⟩
set_option maxRecDepth 100000 in
theorem list1_any (y : EN) (A3 : Option Addr) (c3 : Nat) (A4 : Option Addr) (c4 : Nat) (w : World) :
  Calls Try.prog 31 #[entV y (.slice A3 y.f0.f3.length c3) (.slice A4 y.f0.f4.length c4)] w fun e w' => e = .returned (.bool (y.f0.f8 == 0)) ∧ Fr [] w w' := by
 unfold entV
 have F1 := hid ((Fr.refl [] w).alloc (.cells #[.int .i64 y.f0.f0, .string y.f0.f1, .string y.f0.f2, .slice A3 y.f0.f3.length c3, .slice A4 y.f0.f4.length c4, .int .i64 y.f0.f5, .int .i64 y.f0.f6, .int .i64 y.f0.f7, .int .i64 y.f0.f8, .int .i64 y.f1, .int .i64 y.f2] 64))
 go_enter Try.func31, Try.ntmps31
 go_wp2
 go_ret
 exact ⟨rfl, F1.out⟩
def Copied (y : EN) (w : World) (e : Ending) (w' : World) : Prop :=
 ∃ A5 c5 A7 c7, e = .returned (.agg #[.int .i64 y.f0.f0, .string y.f0.f1, .string y.f0.f2, .slice A5 y.f0.f3.length c5, .slice A7 y.f0.f4.length c7, .int .i64 y.f0.f5, .int .i64 y.f0.f6, .int .i64 y.f0.f7, .int .i64 y.f0.f8]) ∧
  kC.R 83 w' 0 (fun _ => True) (.slice A5 y.f0.f3.length c5) y.f0.f3 ∧ kI.R 3 w' 0 (fun _ => True) (.slice A7 y.f0.f4.length c7) y.f0.f4 ∧ Fr [] w w'
theorem ent_end {w w3 : World} {b : Nat} {y : EN} {A3 A4 A5 A7 : Option Addr} {c3 c4 c5 c7 : Nat} (B : w3.heap[b]? = some (.cells #[.int .i64 y.f0.f0, .string y.f0.f1, .string y.f0.f2, .slice A3 y.f0.f3.length c3, .slice A4 y.f0.f4.length c4, .int .i64 y.f0.f5, .int .i64 y.f0.f6, .int .i64 y.f0.f7, .int .i64 y.f0.f8, .int .i64 y.f1, .int .i64 y.f2] 64 (0, 0)))
  (r5 : kC.R 83 w3 0 (fun _ => True) (.slice A5 y.f0.f3.length c5) y.f0.f3) (r7 : kI.R 3 w3 0 (fun _ => True) (.slice A7 y.f0.f4.length c7) y.f0.f4) (f : Fr [] w w3) (hb : w.heap.size ≤ b) :
  Fr [] w ((w3.setCell ⟨b, 3, none⟩ (.slice A5 y.f0.f3.length c5)).setCell ⟨b, 4, none⟩ (.slice A7 y.f0.f4.length c7)) ∧
  kC.R 83 ((w3.setCell ⟨b, 3, none⟩ (.slice A5 y.f0.f3.length c5)).setCell ⟨b, 4, none⟩ (.slice A7 y.f0.f4.length c7)) 0 (fun _ => True) (.slice A5 y.f0.f3.length c5) y.f0.f3 ∧
  kI.R 3 ((w3.setCell ⟨b, 3, none⟩ (.slice A5 y.f0.f3.length c5)).setCell ⟨b, 4, none⟩ (.slice A7 y.f0.f4.length c7)) 0 (fun _ => True) (.slice A7 y.f0.f4.length c7) y.f0.f4 ∧
  ((w3.setCell ⟨b, 3, none⟩ (.slice A5 y.f0.f3.length c5)).setCell ⟨b, 4, none⟩ (.slice A7 y.f0.f4.length c7)).heap[b]? = some (.cells #[.int .i64 y.f0.f0, .string y.f0.f1, .string y.f0.f2, .slice A5 y.f0.f3.length c5, .slice A7 y.f0.f4.length c7, .int .i64 y.f0.f5, .int .i64 y.f0.f6, .int .i64 y.f0.f7, .int .i64 y.f0.f8, .int .i64 y.f1, .int .i64 y.f2] 64 (0, 0)) ∧
  Fr [b] w3 ((w3.setCell ⟨b, 3, none⟩ (.slice A5 y.f0.f3.length c5)).setCell ⟨b, 4, none⟩ (.slice A7 y.f0.f4.length c7)) := by
 have g : Fr [b] w3 ((w3.setCell ⟨b, 3, none⟩ (.slice A5 y.f0.f3.length c5)).setCell ⟨b, 4, none⟩ (.slice A7 y.f0.f4.length c7)) := ((Fr.refl _ _).setCell (.inl (by simp)) _).setCell (.inl (by simp)) _
 refine ⟨f.trans g (fun z hz => .inr (by simp at hz; omega)), R_fr r5 g (NoT.one B (by
  intro q hq
  simp [k83, Kd.iso, Kd.pair, Kd.int, Kd.string, Kd.scalar] at hq
  subst hq; decide)), R_fr r7 g (NoT.one B (by
  intro q hq
  simp [Kd.int, Kd.scalar] at hq
  subst hq; decide)), ?_, g⟩
 have h1 := blk_setCell B 3 (.slice A5 y.f0.f3.length c5)
 simp only [List.setIfInBounds_toArray, List.set_cons_succ, List.set_cons_zero] at h1
 have h2 := blk_setCell h1 4 (.slice A7 y.f0.f4.length c7)
 simp only [List.setIfInBounds_toArray, List.set_cons_succ, List.set_cons_zero] at h2
 exact h2
set_option maxRecDepth 100000 in
set_option maxHeartbeats 4000000 in
theorem copied_any (y : EN) (A3 : Option Addr) (c3 : Nat) (A4 : Option Addr) (c4 : Nat) (w : World) (r3 : kC.C w A3 y.f0.f3.length y.f0.f3) (r4 : kI.C w A4 y.f0.f4.length y.f0.f4) (l3 : y.f0.f3.length ≤ 1000000) (l4 : y.f0.f4.length ≤ 1000000000) :
  Calls Try.prog 39 #[entV y (.slice A3 y.f0.f3.length c3) (.slice A4 y.f0.f4.length c4)] w (Copied y w) := by
 unfold entV
 have R3 := hid r3
 have R4 := hid r4
 clear r3 r4
 go_enter Try.func39, Try.ntmps39
 go_wp2_with fail
 have F0 := hid (((Fr.refl [] w).alloc (.cells #[.int .i64 y.f0.f0, .string y.f0.f1, .string y.f0.f2, .slice A3 y.f0.f3.length c3, .slice A4 y.f0.f4.length c4, .int .i64 y.f0.f5, .int .i64 y.f0.f6, .int .i64 y.f0.f7, .int .i64 y.f0.f8, .int .i64 y.f1, .int .i64 y.f2] 64)).alloc (.cells #[.int .i64 0, .string ⟨#[]⟩, .string ⟨#[]⟩, .slice none 0 0, .slice none 0 0, .int .i64 0, .int .i64 0, .int .i64 0, .int .i64 0] 49)).drew
 have B0 := hid (((Fr.refl [] (w.alloc (.cells #[.int .i64 y.f0.f0, .string y.f0.f1, .string y.f0.f2, .slice A3 y.f0.f3.length c3, .slice A4 y.f0.f4.length c4, .int .i64 y.f0.f5, .int .i64 y.f0.f6, .int .i64 y.f0.f7, .int .i64 y.f0.f8, .int .i64 y.f1, .int .i64 y.f2] 64))).alloc (.cells #[.int .i64 0, .string ⟨#[]⟩, .string ⟨#[]⟩, .slice none 0 0, .slice none 0 0, .int .i64 0, .int .i64 0, .int .i64 0, .int .i64 0] 49)).drew.blk (heap_alloc_new w _) (by simp))
 have Z0 := hid ((Fr.refl [] ((w.alloc (.cells #[.int .i64 y.f0.f0, .string y.f0.f1, .string y.f0.f2, .slice A3 y.f0.f3.length c3, .slice A4 y.f0.f4.length c4, .int .i64 y.f0.f5, .int .i64 y.f0.f6, .int .i64 y.f0.f7, .int .i64 y.f0.f8, .int .i64 y.f1, .int .i64 y.f2] 64)).alloc (.cells #[.int .i64 0, .string ⟨#[]⟩, .string ⟨#[]⟩, .slice none 0 0, .slice none 0 0, .int .i64 0, .int .i64 0, .int .i64 0, .int .i64 0] 49))).drew.blk (heap_alloc_new _ _) (by simp))
 rw [World.size_alloc] at Z0
 refine (fun (KEY : Hid (∀ w4 A5 c5 A7 c7, Fr [] w w4 → kC.R 83 w4 0 (fun _ => True) (.slice A5 y.f0.f3.length c5) y.f0.f3 → kI.R 3 w4 0 (fun _ => True) (.slice A7 y.f0.f4.length c7) y.f0.f4 → w4.heap[w.heap.size]? = some (.cells #[.int .i64 y.f0.f0, .string y.f0.f1, .string y.f0.f2, .slice A5 y.f0.f3.length c5, .slice A7 y.f0.f4.length c7, .int .i64 y.f0.f5, .int .i64 y.f0.f6, .int .i64 y.f0.f7, .int .i64 y.f0.f8, .int .i64 y.f1, .int .i64 y.f2] 64 (0, 0)) → w4.heap[w.heap.size + 1]? = some (.cells #[.int .i64 0, .string ⟨#[]⟩, .string ⟨#[]⟩, .slice none 0 0, .slice none 0 0, .int .i64 0, .int .i64 0, .int .i64 0, .int .i64 0] 49 (0, 0)) → (?KEYP : World → Option Addr → Nat → Option Addr → Nat → Prop) w4 A5 c5 A7 c7)) => ?main) ?key
 case main =>
  go_region_with (first
   | (go_at_call 53; refine (clone_cols A3 c3 _ y.f0.f3 (Kd.C_below R3.out F0.out.below0) l3).mono ?_; rintro e w2 ⟨u4, rfl, r4, f2, -⟩; obtain ⟨A5, c5, rfl⟩ := Kd.R_slice r4; have F2 := hid (F0.out.then f2); have R5 := hid r4; have b2 := f2.blk B0.out (by simp); have B2 := hid b2; have t4 := cell_of_row w2 w.heap.size 3 _ _ _ b2; have t6 := cell_of_row w2 w.heap.size 4 _ _ _ b2; simp at t4 t6; have Z2 := hid (f2.blk Z0.out (by simp)); clear f2 r4 b2)
   | (go_at_call 54; refine (clone_ints A4 c4 _ y.f0.f4 (Kd.C_below R4.out F2.out.below0) l4).mono ?_; rintro e w3 ⟨u6, rfl, r6, f3, -⟩; obtain ⟨A7, c7, rfl⟩ := Kd.R_slice r6; have F3 := hid (F2.out.then f3); have R5' := hid (R_fr0 R5.out f3); have R7 := hid r6; have b3 := f3.blk B2.out (by simp); have B3 := hid b3; have s4 := cell_of_row w3 w.heap.size 3 _ _ _ b3; have s6 := cell_of_row w3 w.heap.size 4 _ _ _ b3; have z4 := blk_free b3 3; have z6 := blk_free b3 4; simp at s4 s6; have Z3 := hid (f3.blk Z2.out (by simp)); clear f3 r6 b3))
  all_goals
   obtain ⟨e1, e2, e3, e4, e5⟩ := ent_end B3.out R5'.out R7.out F3.out (Nat.le_refl _)
   have e6 := e5.blk Z3.out (by simp)
   clear e5
   generalize (w3.setCell ⟨w.heap.size, 3, none⟩ (.slice A5 y.f0.f3.length c5)).setCell ⟨w.heap.size, 4, none⟩ (.slice A7 y.f0.f4.length c7) = w4 at e1 e2 e3 e4 e6
   exact KEY.out w4 A5 c5 A7 c7 e1 e2 e3 e4 e6
 refine hid (fun w4 A5 c5 A7 c7 f4 r5 r7 b4 g4 => ?_)
 clear B0 Z0 F0
 have n0 := cell_of_row w4 w.heap.size 0 _ _ _ b4
 have n1 := cell_of_row w4 w.heap.size 1 _ _ _ b4
 have n2 := cell_of_row w4 w.heap.size 2 _ _ _ b4
 have n3 := cell_of_row w4 w.heap.size 3 _ _ _ b4
 have n4 := cell_of_row w4 w.heap.size 4 _ _ _ b4
 have n5 := cell_of_row w4 w.heap.size 5 _ _ _ b4
 have n6 := cell_of_row w4 w.heap.size 6 _ _ _ b4
 have n7 := cell_of_row w4 w.heap.size 7 _ _ _ b4
 have n8 := cell_of_row w4 w.heap.size 8 _ _ _ b4
 have m0 := cell_of_row w4 (w.heap.size + 1) 0 _ _ _ g4
 have v0 := blk_free g4 0
 have m1 := cell_of_row w4 (w.heap.size + 1) 1 _ _ _ g4
 have v1 := blk_free g4 1
 have m2 := cell_of_row w4 (w.heap.size + 1) 2 _ _ _ g4
 have v2 := blk_free g4 2
 have m3 := cell_of_row w4 (w.heap.size + 1) 3 _ _ _ g4
 have v3 := blk_free g4 3
 have m4 := cell_of_row w4 (w.heap.size + 1) 4 _ _ _ g4
 have v4 := blk_free g4 4
 have m5 := cell_of_row w4 (w.heap.size + 1) 5 _ _ _ g4
 have v5 := blk_free g4 5
 have m6 := cell_of_row w4 (w.heap.size + 1) 6 _ _ _ g4
 have v6 := blk_free g4 6
 have m7 := cell_of_row w4 (w.heap.size + 1) 7 _ _ _ g4
 have v7 := blk_free g4 7
 have m8 := cell_of_row w4 (w.heap.size + 1) 8 _ _ _ g4
 have v8 := blk_free g4 8
 simp at n0 n1 n2 n3 n4 n5 n6 n7 n8 m0 m1 m2 m3 m4 m5 m6 m7 m8
 have K4 := hid f4
 have K5 := hid r5
 have K7 := hid r7
 have G4 := hid g4
 clear f4 r5 r7 b4 g4
 go_wp2
 have p0 := blk_setCell G4.out 0 (.int .i64 y.f0.f0)
 have p1 := blk_setCell p0 1 (.string y.f0.f1)
 have p2 := blk_setCell p1 2 (.string y.f0.f2)
 have p3 := blk_setCell p2 3 (.slice A5 y.f0.f3.length c5)
 have p4 := blk_setCell p3 4 (.slice A7 y.f0.f4.length c7)
 have p5 := blk_setCell p4 5 (.int .i64 y.f0.f5)
 have p6 := blk_setCell p5 6 (.int .i64 y.f0.f6)
 have p7 := blk_setCell p6 7 (.int .i64 y.f0.f7)
 have p8 := blk_setCell p7 8 (.int .i64 y.f0.f8)
 simp only [List.setIfInBounds_toArray, List.set_cons_succ, List.set_cons_zero] at p8
 have fz := ((((((((((Fr.refl [w.heap.size + 1] w4).setCell (p := ⟨w.heap.size + 1, 0, none⟩) (.inl (List.mem_singleton.2 rfl)) (.int .i64 y.f0.f0)).setCell (p := ⟨w.heap.size + 1, 1, none⟩) (.inl (List.mem_singleton.2 rfl)) (.string y.f0.f1)).setCell (p := ⟨w.heap.size + 1, 2, none⟩) (.inl (List.mem_singleton.2 rfl)) (.string y.f0.f2)).setCell (p := ⟨w.heap.size + 1, 3, none⟩) (.inl (List.mem_singleton.2 rfl)) (.slice A5 y.f0.f3.length c5)).setCell (p := ⟨w.heap.size + 1, 4, none⟩) (.inl (List.mem_singleton.2 rfl)) (.slice A7 y.f0.f4.length c7)).setCell (p := ⟨w.heap.size + 1, 5, none⟩) (.inl (List.mem_singleton.2 rfl)) (.int .i64 y.f0.f5)).setCell (p := ⟨w.heap.size + 1, 6, none⟩) (.inl (List.mem_singleton.2 rfl)) (.int .i64 y.f0.f6)).setCell (p := ⟨w.heap.size + 1, 7, none⟩) (.inl (List.mem_singleton.2 rfl)) (.int .i64 y.f0.f7)).setCell (p := ⟨w.heap.size + 1, 8, none⟩) (.inl (List.mem_singleton.2 rfl)) (.int .i64 y.f0.f8))
 clear p0 p1 p2 p3 p4 p5 p6 p7
 refine bodyPost_ret (results_cell_row (fn := Try.f39) (p := 2) rfl _ _ (w.heap.size + 1) 49 #[.int .i64 y.f0.f0, .string y.f0.f1, .string y.f0.f2, .slice A5 y.f0.f3.length c5, .slice A7 y.f0.f4.length c7, .int .i64 y.f0.f5, .int .i64 y.f0.f6, .int .i64 y.f0.f7, .int .i64 y.f0.f8] (0, 0) _ ?_ p8 Try.underlying49 rfl (by kernel_rfl)) rfl ?_
 ·rfl
 refine ⟨A5, c5, A7, c7, rfl, R_fr K5.out fz (NoT.one G4.out (by
  intro q hq
  simp [k83, Kd.iso, Kd.pair, Kd.int, Kd.string, Kd.scalar] at hq
  subst hq; decide)), R_fr K7.out fz (NoT.one G4.out (by
  intro q hq
  simp [Kd.int, Kd.scalar] at hq
  subst hq; decide)), K4.out.trans fz (fun z hz => .inr (by simp at hz; omega))⟩
structure CatOk (ss : List ST) : Prop where
 ents : ∀ s ∈ ss, ∀ y ∈ s.f2, y.f0.f3.length ≤ 1000000 ∧ y.f0.f4.length ≤ 1000000000
 deeds : ∀ s ∈ ss, s.f1.length ≤ 100000 ∧ ∀ x ∈ s.f1, DeedOk x
def picked (P : EN → Bool) (es : List EN) : List AE := (es.filter P).map (·.f0)
theorem picked_len (P : EN → Bool) (es : List EN) : (picked P es).length ≤ es.length := by unfold picked; rw [List.length_map]; exact List.length_filter_le _ _
theorem picked_no {P : EN → Bool} {es : List EN} {j : Nat} {y : EN} (hy : es[j]? = some y) (h : P y = false) : picked P (es.take (j + 1)) = picked P (es.take j) := by
 obtain ⟨hj, he⟩ := List.getElem?_eq_some_iff.1 hy
 unfold picked
 rw [List.take_succ_eq_append_getElem hj, he, List.filter_append]
 simp [h]
theorem picked_yes {P : EN → Bool} {es : List EN} {j : Nat} {y : EN} (hy : es[j]? = some y) (h : P y = true) : picked P (es.take (j + 1)) = picked P (es.take j) ++ [y.f0] := by
 obtain ⟨hj, he⟩ := List.getElem?_eq_some_iff.1 hy
 unfold picked
 rw [List.take_succ_eq_append_getElem hj, he, List.filter_append]
 simp [h]
def someBy (P : EN → Bool) (ss : List ST) (k : Int) : List AE × Int := if k < 0 ∨ (ss.length : Int) ≤ k then ([], 6) else (picked P (ss.getD k.toNat z71).f2, 0)
def Listed (r : List AE × Int) (w : World) (e : Ending) (w' : World) : Prop :=
 ∃ v, e = .returned (.tuple #[v, .int .i64 r.2]) ∧ kA.R 49 w' 0 (fun _ => True) v r.1 ∧ Fr [] w w' ∧ ∀ q, v.ownBlock = some q → w.heap.size ≤ q
def Found (P : EN → Bool) (ss : List ST) (k : Int) : World → Ending → World → Prop := Listed (someBy P ss k)
theorem Found.no_ {P : EN → Bool} {ss : List ST} {k : Int} {w : World} (h : k < 0 ∨ (ss.length : Int) ≤ k) : Found P ss k w (.returned (.tuple #[.slice none 0 0, .int .i64 6])) w := by
 refine ⟨.slice none 0 0, ?_, ?_, Fr.refl _ _, fun q hq => by simp [Value.ownBlock] at hq⟩
 ·unfold someBy; rw [if_pos h]
 ·unfold someBy; rw [if_pos h]; exact Kd.R_nil _ _ _ _ _
theorem Found.mk {P : EN → Bool} {ss : List ST} {n : Nat} {s : ST} {v : Value} {w w' : World} (hs : ss[n]? = some s) (hr : kA.R 49 w' 0 (fun _ => True) v (picked P s.f2)) (hf : Fr [] w w') (ho : ∀ q, v.ownBlock = some q → w.heap.size ≤ q) :
  Found P ss (n : Int) w (.returned (.tuple #[v, .int .i64 0])) w' := by
 have hn := (List.getElem?_eq_some_iff.1 hs).1
 have e : someBy P ss (n : Int) = (picked P s.f2, 0) := by
  unfold someBy
  rw [if_neg (by omega)]
  simp [List.getD_eq_getElem?_getD, hs]
 refine ⟨v, by rw [e], by rw [e]; exact hr, hf, ho⟩
theorem ents_read {w : World} {es : List EN} {g n c i : Nat} {y : EN} (h : kE.R 64 w 0 (fun _ => True) (.slice (some ⟨g, 0, none⟩) n c) es) (hy : es[i]? = some y) :
  ∃ A3 c3 A4 c4, (∀ j u, (enL y (.slice A3 y.f0.f3.length c3) (.slice A4 y.f0.f4.length c4))[j]? = some u → w.cell? ⟨g, i * 11 + j, none⟩ = some u) ∧ kC.C w A3 y.f0.f3.length y.f0.f3 ∧ kI.C w A4 y.f0.f4.length y.f0.f4 := by
 obtain ⟨v3, v4, hm, hc, -⟩ := ents_at h hy
 obtain ⟨u3, u4, e, g3, g4⟩ := kE_open hm
 simp only [enL, List.cons.injEq, and_true, true_and] at e
 obtain ⟨rfl, rfl⟩ := e
 obtain ⟨A3, c3, rfl, -, C3⟩ := ros_C g3
 obtain ⟨A4, c4, rfl, -, C4⟩ := ros_C g4
 exact ⟨A3, c3, A4, c4, hc, C3, C4⟩
theorem infoA : (Try.prog.info? 49).map (fun i => (i.zero, i.size, i.bytes)) = some (some (.agg #[.int .i64 0, .string ⟨#[]⟩, .string ⟨#[]⟩, .slice none 0 0, .slice none 0 0, .int .i64 0, .int .i64 0, .int .i64 0, .int .i64 0]), 9, 120) := by kernel_rfl
theorem api_append {w : World} {v : Value} {xs : List AE} (R : kA.R 49 w 0 (fun _ => True) v xs) (hl : xs.length < 1000000) (x : AE) (v3 v4 : Value) (h3 : kC.R 83 w 0 (fun _ => True) v3 x.f3) (h4 : kI.R 3 w 0 (fun _ => True) v4 x.f4) :
  ∃ A1 c1 w1, (Builtin.append_ #[37, 37] 37 #[v, .slice (some ⟨w.heap.size, 0, none⟩) 1 1]).run Try.prog (w.alloc (.cells #[.int .i64 x.f0, .string x.f1, .string x.f2, v3, v4, .int .i64 x.f5, .int .i64 x.f6, .int .i64 x.f7, .int .i64 x.f8] 49)) = .ok (.slice A1 (xs.length + 1) c1) w1 ∧
   kA.R 49 w1 0 (fun _ => True) (.slice A1 (xs.length + 1) c1) (xs ++ [x]) ∧ w.grownBy w1 v.ownBlock ∧ ((Value.slice A1 (xs.length + 1) c1).ownBlock = v.ownBlock ∨ ∃ b, (Value.slice A1 (xs.length + 1) c1).ownBlock = some b ∧ w.heap.size ≤ b) := by
 obtain ⟨v1, w1, hrun, r5, g5, a5⟩ := R_run (P := Try.prog) kA (W := w) 37 37 49 _ 120 Try.underlying37 infoA rfl (by decide) (by decide) v xs x [.int .i64 x.f0, .string x.f1, .string x.f2, v3, v4, .int .i64 x.f5, .int .i64 x.f6, .int .i64 x.f7, .int .i64 x.f8] (fun k => some k ≠ v.ownBlock)
  (kA_mk x (M_ownR (ros_of_R h3) R (by decide)) (M_ownR (ros_of_R h4) R (by decide))) (fun _ h => h) R (by omega)
 obtain ⟨A1, c1, e⟩ := Kd.R_slice r5
 rw [List.length_append, List.length_singleton] at e
 subst e
 exact ⟨A1, c1, w1, hrun, r5, g5, a5⟩
set_option maxRecDepth 100000 in
theorem within1_any (y : EN) (A3 : Option Addr) (c3 : Nat) (A4 : Option Addr) (c4 : Nat) (ib : Nat) (id : Int) (w : World) (h : w.cell? ⟨ib, 0, none⟩ = some (.int .i64 id)) :
  Calls Try.prog 56 #[entV y (.slice A3 y.f0.f3.length c3) (.slice A4 y.f0.f4.length c4), .pointer (some ⟨ib, 0, none⟩)] w fun e w' => e = .returned (.bool ((y.f1 == id) && (y.f0.f8 == 0))) ∧ Fr [] w w' := by
 unfold entV
 have F1 := hid ((Fr.refl [] w).alloc (.cells #[.int .i64 y.f0.f0, .string y.f0.f1, .string y.f0.f2, .slice A3 y.f0.f3.length c3, .slice A4 y.f0.f4.length c4, .int .i64 y.f0.f5, .int .i64 y.f0.f6, .int .i64 y.f0.f7, .int .i64 y.f0.f8, .int .i64 y.f1, .int .i64 y.f2] 64))
 have hib := cell_block h
 have hne : ib ≠ w.heap.size := Nat.ne_of_lt hib
 cases hh : (y.f1 == id) with
 | true =>
  go_enter Try.func56, Try.ntmps56
  go_wp2
  go_ret
  exact ⟨by simp, F1.out⟩
 | false =>
  go_enter Try.func56, Try.ntmps56
  go_wp2
  go_ret
  exact ⟨by simp, F1.out⟩
set_option maxRecDepth 100000 in
set_option maxHeartbeats 8000000 in
theorem some_within (cb : Nat) (v : Value) (ss : List ST) (k : Int) (ib : Nat) (id : Int) (w : World) (h : CatAt w cb v ss) (hE : CatOk ss) (hid_ : w.cell? ⟨ib, 0, none⟩ = some (.int .i64 id)) :
  Calls Try.prog 30 #[.pointer (some ⟨cb, 0, none⟩), .int .i64 k, .func (.func 56) #[] #[.pointer (some ⟨ib, 0, none⟩)]] w (Found (fun y => (y.f1 == id) && (y.f0.f8 == 0)) ss k w) := by
 obtain ⟨P, hP⟩ : ∃ P : EN → Bool, P = (fun y => (y.f1 == id) && (y.f0.f8 == 0)) := ⟨_, rfl⟩
 rw [← hP]
 have HP := hid hP
 clear hP
 have HI := hid hid_
 clear hid_
 obtain ⟨g, c, rfl, hgl, hlc⟩ := h.form
 have c0 := h.c0
 have HT := hid (there_any cb (some ⟨g, 0, none⟩) ss.length c k 0 w c0 h.pos)
 by_cases h0 : k < 0 ∨ (ss.length : Int) ≤ k
 ·have e0 := hid (show thereE ss.length k 0 = 6 by unfold thereE; rw [if_pos h0])
  have HR := hid h0
  rw [e0.out] at HT
  clear h0 h hE
  go_enter Try.func30, Try.ntmps30
  go_wp2_with (go_at_call 36; refine HT.out.mono ?_; rintro e w1 ⟨rfl, rfl⟩)
  go_ret2
  exact Found.no_ HR.out
 ·have hk0 : 0 ≤ k := by omega
  obtain ⟨n, rfl⟩ := Int.eq_ofNat_of_zero_le hk0
  have hn : n < ss.length := by omega
  have e0 := hid (show thereE ss.length (n : Int) 0 = 0 by unfold thereE; rw [if_neg (by omega)])
  rw [e0.out] at HT
  obtain ⟨s, hs⟩ : ∃ s, ss[n]? = some s := ⟨_, List.getElem?_eq_getElem hn⟩
  have H := hid h
  obtain ⟨A1, c1, v2, -, -, m2, -, -, hr, hnil⟩ := states_at h.row hs
  have HS := hid hs
  have hsl : s.f2.length ≤ 4000 := h.ents s (List.mem_iff_getElem?.2 ⟨n, hs⟩)
  have HE := hid (hE.ents s (List.mem_iff_getElem?.2 ⟨n, hs⟩))
  obtain ⟨A2, c2, rfl⟩ := Kd.R_slice hr
  have HR := hid hr
  have hnl : (n : Int) < (ss.length : Int) := by omega
  have hn0 : (0 : Int) ≤ (n : Int) := by omega
  clear h h0 hk0 hs hr hnil hE e0
  go_enter Try.func30, Try.ntmps30
  go_wp2_with (go_at_call 36; refine HT.out.mono ?_; rintro e w1 ⟨rfl, rfl⟩)
  clear c0 m2
  go_loopw [9, 27] (fun out i wr => ∃ (j : Nat), i = .int .i64 j ∧ j ≤ s.f2.length ∧ kA.R 49 wr 0 (fun _ => True) out (picked P (s.f2.take j)) ∧ Fr [] w wr ∧ ∀ q, out.ownBlock = some q → w.heap.size ≤ q) (fun _ i _ => s.f2.length - (intOf i).toNat)
  case atStart => exact ⟨0, rfl, Nat.zero_le _, Kd.R_nil _ _ _ _ _, Fr.refl _ _, fun q hq => by simp [Value.ownBlock] at hq⟩
  case round =>
   obtain ⟨j, rfl, hj, hR, hF, hO⟩ := hrel
   have HR2 := hid hR
   have HF := hid hF
   have HO := hid hO
   clear hR hF hO
   by_cases hlt : j < s.f2.length
   ·obtain ⟨y, hy⟩ : ∃ y, s.f2[j]? = some y := ⟨_, List.getElem?_eq_getElem hlt⟩
    obtain ⟨g2, c2', eA, hgl2⟩ := ents_form HR.out hy
    injection eA with eA1 eA2 eA3
    subst eA1
    obtain ⟨A3, c3, A4, c4, hcell, r3, r4⟩ := ents_read (R_fr0 HR.out HF.out) hy
    have m0 : wr.cell? ⟨g2, j * 11, none⟩ = some (.int .i64 y.f0.f0) := hcell 0 _ rfl
    have m1 := hcell 1 _ rfl
    have m2 := hcell 2 _ rfl
    have m3 := hcell 3 _ rfl
    have m4 := hcell 4 _ rfl
    have m5 := hcell 5 _ rfl
    have m6 := hcell 6 _ rfl
    have m7 := hcell 7 _ rfl
    have m8 := hcell 8 _ rfl
    have m9 := hcell 9 _ rfl
    have m10 := hcell 10 _ rfl
    have hm0 : (0 : Int) ≤ (j : Int) := by omega
    have hm1 : (j : Int) < (s.f2.length : Int) := by omega
    have HY := hid hy
    have R3 := hid r3
    have R4 := hid r4
    have hYE := hid (HE.out y (List.mem_iff_getElem?.2 ⟨j, hy⟩))
    have F1 := hid ((Fr.refl [] wr).alloc (.cells #[.int .i64 y.f0.f0, .string y.f0.f1, .string y.f0.f2, .slice A3 y.f0.f3.length c3, .slice A4 y.f0.f4.length c4, .int .i64 y.f0.f5, .int .i64 y.f0.f6, .int .i64 y.f0.f7, .int .i64 y.f0.f8, .int .i64 y.f1, .int .i64 y.f2] 64))
    have CALL := hid (within1_any y A3 c3 A4 c4 ib id (wr.alloc (.cells #[.int .i64 y.f0.f0, .string y.f0.f1, .string y.f0.f2, .slice A3 y.f0.f3.length c3, .slice A4 y.f0.f4.length c4, .int .i64 y.f0.f5, .int .i64 y.f0.f6, .int .i64 y.f0.f7, .int .i64 y.f0.f8, .int .i64 y.f1, .int .i64 y.f2] 64)) ((HF.out.then F1.out).cell0 HI.out))
    obtain ⟨pb, hpb⟩ : ∃ pb, pb = P y := ⟨_, rfl⟩
    have HPB := hid hpb
    have HPB2 := hid (show pb = ((y.f1 == id) && (y.f0.f8 == 0)) by rw [HPB.out, HP.out])
    rw [← HPB2.out] at CALL
    unfold entV at CALL
    clear hcell r3 r4 hpb eA3 hy HPB2
    cases pb with
    | false =>
     go_wp2_with (go_at_call 56; refine CALL.out.mono ?_; rintro e w2 ⟨rfl, f2⟩; have F2 := hid (HF.out.then (F1.out.then f2)); have G2 := hid (F1.out.then f2); clear f2)
     go_roundw
     case rel => exact ⟨j + 1, by go_num, by omega, by rw [picked_no HY.out HPB.out.symm]; exact R_fr0 HR2.out G2.out, F2.out, HO.out⟩
     case measure => simp [intOf]; omega
    | true =>
     obtain ⟨T, hT⟩ : ∃ T, T = picked P (s.f2.take j) := ⟨_, rfl⟩
     have hR := HR2.out
     rw [← hT] at hR
     have hTl : T.length ≤ 4000 := by rw [hT]; exact Nat.le_trans (picked_len _ _) (by simp; omega)
     have HT2 := hid hT
     obtain ⟨A8, c8, rfl⟩ := Kd.R_slice hR
     have HRT := hid hR
     clear hR hT
     go_wp2_with (first
      | ((with_reducible refine gate_dst (N := 38) rfl ?_); refine step_append (v := .slice A8 T.length c8) (y := .slice (some ⟨w4.heap.size, 0, none⟩) 1 1) (v1 := .slice A9 (T.length + 1) c9) (w1 := w5) rfl (.tmp 34) (.tmp 37) 37 rfl rfl rfl HRUN.out ?_)
      | (go_at_call 56; refine CALL.out.mono ?_; rintro e w2 ⟨rfl, f2⟩; have F2 := hid (HF.out.then (F1.out.then f2)); have G2 := hid (F1.out.then f2); have B2 := f2.blk (heap_alloc_new wr _) (by simp); have n0 := cell_of_row w2 wr.heap.size 0 _ _ _ B2; have n1 := cell_of_row w2 wr.heap.size 1 _ _ _ B2; have n2 := cell_of_row w2 wr.heap.size 2 _ _ _ B2; have n3 := cell_of_row w2 wr.heap.size 3 _ _ _ B2; have n4 := cell_of_row w2 wr.heap.size 4 _ _ _ B2; have n5 := cell_of_row w2 wr.heap.size 5 _ _ _ B2; have n6 := cell_of_row w2 wr.heap.size 6 _ _ _ B2; have n7 := cell_of_row w2 wr.heap.size 7 _ _ _ B2; have n8 := cell_of_row w2 wr.heap.size 8 _ _ _ B2; have n9 := cell_of_row w2 wr.heap.size 9 _ _ _ B2; have n10 := cell_of_row w2 wr.heap.size 10 _ _ _ B2; simp at n0 n1 n2 n3 n4 n5 n6 n7 n8 n9 n10; have COP := hid (copied_any y A3 c3 A4 c4 w2 (Kd.C_below R3.out G2.out.below0) (Kd.C_below R4.out G2.out.below0) hYE.out.1 hYE.out.2); unfold entV at COP; clear B2 f2)
      | (go_at_call 39; refine COP.out.mono ?_; rintro e w4 ⟨A5, c5, A7, c7, rfl, r5, r7, f4⟩; obtain ⟨A9, c9, w5, hrun, r9, g9, a9⟩ := api_append (R_fr0 HRT.out (G2.out.then f4)) (by omega) y.f0 _ _ r5 r7; obtain ⟨f9, o9⟩ := grow_own (F2.out.then f4) HO.out g9 a9; have HRUN := hid hrun; have R9 := hid r9; have F9 := hid f9; have O9 := hid o9; clear r5 r7 f4 hrun r9 g9 a9 f9 o9))
     go_roundw
     case rel => exact ⟨j + 1, by go_num, by omega, by rw [picked_yes HY.out HPB.out.symm, ← HT2.out]; exact R9.out, F9.out, O9.out⟩
     case measure => simp [intOf]; omega
   ·obtain rfl : j = s.f2.length := by omega
    have hr := HR2.out
    rw [List.take_length] at hr
    have HR3 := hid hr
    clear hr
    go_wp2
    go_ret2
    exact Found.mk HS.out HR3.out HF.out HO.out
def apiV (x : AE) (v3 v4 : Value) : Value := .agg #[.int .i64 x.f0, .string x.f1, .string x.f2, v3, v4, .int .i64 x.f5, .int .i64 x.f6, .int .i64 x.f7, .int .i64 x.f8]
def AE.zero : AE := ⟨0, ⟨#[]⟩, ⟨#[]⟩, [], [], 0, 0, 0, 0⟩
def Got (r : AE × Int) (w : World) (e : Ending) (w' : World) : Prop :=
 ∃ A3 c3 A4 c4, e = .returned (.tuple #[apiV r.1 (.slice A3 r.1.f3.length c3) (.slice A4 r.1.f4.length c4), .int .i64 r.2]) ∧
  kC.R 83 w' 0 (fun _ => True) (.slice A3 r.1.f3.length c3) r.1.f3 ∧ kI.R 3 w' 0 (fun _ => True) (.slice A4 r.1.f4.length c4) r.1.f4 ∧ Fr [] w w'
theorem Got.zero {w w' : World} (e : Int) (f : Fr [] w w') : Got (AE.zero, e) w (.returned (.tuple #[.agg #[.int .i64 0, .string ⟨#[]⟩, .string ⟨#[]⟩, .slice none 0 0, .slice none 0 0, .int .i64 0, .int .i64 0, .int .i64 0, .int .i64 0], .int .i64 e])) w' :=
 ⟨none, 0, none, 0, rfl, Kd.R_nil _ _ _ _ _, Kd.R_nil _ _ _ _ _, f⟩
def getBy (ss : List ST) (k id : Int) : AE × Int :=
 if k < 0 ∨ (ss.length : Int) ≤ k then (AE.zero, 6)
 else if id < 1 ∨ ((ss.getD k.toNat z71).f2.length : Int) < id then (AE.zero, 4)
 else (((ss.getD k.toNat z71).f2.getD (id - 1).toNat z64).f0, 0)
theorem results_row_tmp {P : Program} {fn : Func} {p u : Tmp} {ty : TypeId} (h : fn.results = #[.cell p ty, .tmp u]) (tmps : Array Value) (w : World) (g : Nat) (t : TypeId) (cs : Array Value) (fr : Nat × Nat) (d : TypeDesc)
  (hp : tmps.getD p undef = .pointer (some ⟨g, 0, none⟩)) (hg : w.heap[g]? = some (.cells cs t fr))
  (hu : P.underlying ty = some d) (hd : (match d with | .struct _ | .array _ _ => true | _ => false) = true) (hi : (P.info? ty).map (·.size) = some cs.size) :
  (results fn tmps).run P w = .ok (.tuple #[.agg cs, tmps.getD u undef]) w := by
 rw [results_cell_tmp h, hp]
 simp [asAddr, run_loadVar_row w g t ty cs fr d hg hu hd hi]
theorem apiBox {w : World} {b : Nat} {o0 o1 o2 o3 o4 o5 o6 o7 o8 : Value} (h : w.heap[b]? = some (.cells #[o0, o1, o2, o3, o4, o5, o6, o7, o8] 49 (0, 0))) (v0 v1 v2 v3 v4 v5 v6 v7 v8 : Value) :
  (((((((((w.setCell ⟨b, 0, none⟩ v0).setCell ⟨b, 1, none⟩ v1).setCell ⟨b, 2, none⟩ v2).setCell ⟨b, 3, none⟩ v3).setCell ⟨b, 4, none⟩ v4).setCell ⟨b, 5, none⟩ v5).setCell ⟨b, 6, none⟩ v6).setCell ⟨b, 7, none⟩ v7).setCell ⟨b, 8, none⟩ v8).heap[b]? = some (.cells #[v0, v1, v2, v3, v4, v5, v6, v7, v8] 49 (0, 0)) ∧
  Fr [b] w (((((((((w.setCell ⟨b, 0, none⟩ v0).setCell ⟨b, 1, none⟩ v1).setCell ⟨b, 2, none⟩ v2).setCell ⟨b, 3, none⟩ v3).setCell ⟨b, 4, none⟩ v4).setCell ⟨b, 5, none⟩ v5).setCell ⟨b, 6, none⟩ v6).setCell ⟨b, 7, none⟩ v7).setCell ⟨b, 8, none⟩ v8) := by
 constructor
 ·have p := blk_setCell (blk_setCell (blk_setCell (blk_setCell (blk_setCell (blk_setCell (blk_setCell (blk_setCell (blk_setCell h 0 v0) 1 v1) 2 v2) 3 v3) 4 v4) 5 v5) 6 v6) 7 v7) 8 v8
  simp only [List.setIfInBounds_toArray, List.set_cons_succ, List.set_cons_zero] at p
  exact p
 ·exact (((((((((Fr.refl [b] w).setCell (p := ⟨b, 0, none⟩) (.inl (List.mem_singleton.2 rfl)) v0).setCell (p := ⟨b, 1, none⟩) (.inl (List.mem_singleton.2 rfl)) v1).setCell (p := ⟨b, 2, none⟩) (.inl (List.mem_singleton.2 rfl)) v2).setCell (p := ⟨b, 3, none⟩) (.inl (List.mem_singleton.2 rfl)) v3).setCell (p := ⟨b, 4, none⟩) (.inl (List.mem_singleton.2 rfl)) v4).setCell (p := ⟨b, 5, none⟩) (.inl (List.mem_singleton.2 rfl)) v5).setCell (p := ⟨b, 6, none⟩) (.inl (List.mem_singleton.2 rfl)) v6).setCell (p := ⟨b, 7, none⟩) (.inl (List.mem_singleton.2 rfl)) v7).setCell (p := ⟨b, 8, none⟩) (.inl (List.mem_singleton.2 rfl)) v8
theorem Got.mk {x : AE} {A5 A7 : Option Addr} {c5 c7 : Nat} {w w4 w5 : World} {b : Nat} {e : Int} {r : AE × Int} (he : r = (x, e)) (r5 : kC.R 83 w4 0 (fun _ => True) (.slice A5 x.f3.length c5) x.f3) (r7 : kI.R 3 w4 0 (fun _ => True) (.slice A7 x.f4.length c7) x.f4)
  (f4 : Fr [] w w4) (hb : w4.heap[b]? = some (.cells #[.int .i64 0, .string ⟨#[]⟩, .string ⟨#[]⟩, .slice none 0 0, .slice none 0 0, .int .i64 0, .int .i64 0, .int .i64 0, .int .i64 0] 49 (0, 0))) (hw : w.heap.size ≤ b) (g : Fr [b] w4 w5) :
  Got r w (.returned (.tuple #[.agg #[.int .i64 x.f0, .string x.f1, .string x.f2, .slice A5 x.f3.length c5, .slice A7 x.f4.length c7, .int .i64 x.f5, .int .i64 x.f6, .int .i64 x.f7, .int .i64 x.f8], .int .i64 e])) w5 := by
 subst he
 refine ⟨A5, c5, A7, c7, rfl, R_fr r5 g (NoT.one hb (by
  intro q hq
  simp [k83, Kd.iso, Kd.pair, Kd.int, Kd.string, Kd.scalar] at hq
  subst hq; decide)), R_fr r7 g (NoT.one hb (by
  intro q hq
  simp [Kd.int, Kd.scalar] at hq
  subst hq; decide)), f4.trans g (fun z hz => .inr (by simp at hz; omega))⟩
theorem Got.ofZero {w w4 w5 : World} {b : Nat} {e : Int} {r : AE × Int} (he : r = (AE.zero, e)) (f4 : Fr [] w w4) (hb : w4.heap[b]? = some (.cells #[.int .i64 0, .string ⟨#[]⟩, .string ⟨#[]⟩, .slice none 0 0, .slice none 0 0, .int .i64 0, .int .i64 0, .int .i64 0, .int .i64 0] 49 (0, 0))) (hw : w.heap.size ≤ b) (g : Fr [b] w4 w5) :
  Got r w (.returned (.tuple #[.agg #[.int .i64 0, .string ⟨#[]⟩, .string ⟨#[]⟩, .slice none 0 0, .slice none 0 0, .int .i64 0, .int .i64 0, .int .i64 0, .int .i64 0], .int .i64 e])) w5 :=
 Got.mk (x := AE.zero) he (Kd.R_nil _ _ _ _ _) (Kd.R_nil _ _ _ _ _) f4 hb hw g
set_option maxRecDepth 100000 in
set_option maxHeartbeats 4000000 in
theorem get_any (cb : Nat) (v : Value) (ss : List ST) (k id : Int) (w : World) (h : CatAt w cb v ss) (hE : CatOk ss) :
  Calls Try.prog 55 #[.pointer (some ⟨cb, 0, none⟩), .int .i64 k, .int .i64 id] w (Got (getBy ss k id) w) := by
 have B0 := hid (heap_alloc_new w (.cells #[.int .i64 0, .string ⟨#[]⟩, .string ⟨#[]⟩, .slice none 0 0, .slice none 0 0, .int .i64 0, .int .i64 0, .int .i64 0, .int .i64 0] 49))
 have F0 := hid ((Fr.refl [] w).alloc (.cells #[.int .i64 0, .string ⟨#[]⟩, .string ⟨#[]⟩, .slice none 0 0, .slice none 0 0, .int .i64 0, .int .i64 0, .int .i64 0, .int .i64 0] 49))
 have H0 := hid (h.fr0 F0.out)
 obtain ⟨g, c, rfl, hgl, hlc⟩ := h.form
 have c0 := H0.out.c0
 have HT := hid (there_any cb (some ⟨g, 0, none⟩) ss.length c k 0 (w.alloc (.cells #[.int .i64 0, .string ⟨#[]⟩, .string ⟨#[]⟩, .slice none 0 0, .slice none 0 0, .int .i64 0, .int .i64 0, .int .i64 0, .int .i64 0] 49)) c0 h.pos)
 have z0 := blk_free B0.out 0
 have z1 := blk_free B0.out 1
 have z2 := blk_free B0.out 2
 have z3 := blk_free B0.out 3
 have z4 := blk_free B0.out 4
 have z5 := blk_free B0.out 5
 have z6 := blk_free B0.out 6
 have z7 := blk_free B0.out 7
 have z8 := blk_free B0.out 8
 by_cases h0 : k < 0 ∨ (ss.length : Int) ≤ k
 ·have e0 := hid (show thereE ss.length k 0 = 6 by unfold thereE; rw [if_pos h0])
  have e1 := hid (show getBy ss k id = (AE.zero, 6) by unfold getBy; rw [if_pos h0])
  rw [e0.out] at HT
  clear h0 h hE
  go_enter Try.func55, Try.ntmps55
  go_wp2_with (go_at_call 36; refine HT.out.mono ?_; rintro e w1 ⟨rfl, rfl⟩)
  refine bodyPost_ret (results_row_tmp (fn := Try.f55) (p := 6) (u := 7) rfl _ _ w.heap.size 49 #[.int .i64 0, .string ⟨#[]⟩, .string ⟨#[]⟩, .slice none 0 0, .slice none 0 0, .int .i64 0, .int .i64 0, .int .i64 0, .int .i64 0] (0, 0) _ rfl B0.out Try.underlying49 rfl (by kernel_rfl)) rfl ?_
  exact Got.ofZero e1.out F0.out B0.out (Nat.le_refl _) (Fr.refl _ _)
 ·have hk0 : 0 ≤ k := by omega
  obtain ⟨n, rfl⟩ := Int.eq_ofNat_of_zero_le hk0
  have hn : n < ss.length := by omega
  have e0 := hid (show thereE ss.length (n : Int) 0 = 0 by unfold thereE; rw [if_neg (by omega)])
  rw [e0.out] at HT
  obtain ⟨s, hs⟩ : ∃ s, ss[n]? = some s := ⟨_, List.getElem?_eq_getElem hn⟩
  obtain ⟨A1, c1, v2, -, -, m2, -, -, hr, hnil⟩ := states_at H0.out.row hs
  have hsl : s.f2.length ≤ 4000 := h.ents s (List.mem_iff_getElem?.2 ⟨n, hs⟩)
  have hHE := hE.ents s (List.mem_iff_getElem?.2 ⟨n, hs⟩)
  have hnl : (n : Int) < (ss.length : Int) := by omega
  have hn0 : (0 : Int) ≤ (n : Int) := by omega
  have hsd : ss.getD ((n : Int)).toNat z71 = s := by simp [List.getD_eq_getElem?_getD, hs]
  obtain ⟨A2, c2, rfl⟩ := Kd.R_slice hr
  by_cases h1 : id < 1 ∨ (s.f2.length : Int) < id
  ·have e1 := hid (show getBy ss (n : Int) id = (AE.zero, 4) by unfold getBy; rw [if_neg (by omega), hsd, if_pos h1])
   clear h h0 hk0 hs hnil hE e0 hHE hsd hr
   by_cases h2 : id < 1
   ·clear h1
    go_enter Try.func55, Try.ntmps55
    go_wp2_with (go_at_call 36; refine HT.out.mono ?_; rintro e w1 ⟨rfl, rfl⟩)
    refine bodyPost_ret (results_row_tmp (fn := Try.f55) (p := 6) (u := 7) rfl _ _ w.heap.size 49 #[.int .i64 0, .string ⟨#[]⟩, .string ⟨#[]⟩, .slice none 0 0, .slice none 0 0, .int .i64 0, .int .i64 0, .int .i64 0, .int .i64 0] (0, 0) _ rfl B0.out Try.underlying49 rfl (by kernel_rfl)) rfl ?_
    exact Got.ofZero e1.out F0.out B0.out (Nat.le_refl _) (Fr.refl _ _)
   ·have h3 : (s.f2.length : Int) < id := by omega
    clear h1
    go_enter Try.func55, Try.ntmps55
    go_wp2_with (go_at_call 36; refine HT.out.mono ?_; rintro e w1 ⟨rfl, rfl⟩)
    refine bodyPost_ret (results_row_tmp (fn := Try.f55) (p := 6) (u := 7) rfl _ _ w.heap.size 49 #[.int .i64 0, .string ⟨#[]⟩, .string ⟨#[]⟩, .slice none 0 0, .slice none 0 0, .int .i64 0, .int .i64 0, .int .i64 0, .int .i64 0] (0, 0) _ rfl B0.out Try.underlying49 rfl (by kernel_rfl)) rfl ?_
    exact Got.ofZero e1.out F0.out B0.out (Nat.le_refl _) (Fr.refl _ _)
  ·have hi0 : 0 ≤ id - 1 := by omega
   obtain ⟨m, hm⟩ := Int.eq_ofNat_of_zero_le hi0
   obtain rfl : id = (m : Int) + 1 := by omega
   have hml : m < s.f2.length := by omega
   obtain ⟨y, hy⟩ : ∃ y, s.f2[m]? = some y := ⟨_, List.getElem?_eq_getElem hml⟩
   have e1 := hid (show getBy ss (n : Int) ((m : Int) + 1) = (y.f0, 0) by
    unfold getBy; rw [if_neg (by omega), hsd, if_neg h1, hm]; simp [List.getD_eq_getElem?_getD, hy])
   have hYE := hid (hHE y (List.mem_iff_getElem?.2 ⟨m, hy⟩))
   obtain ⟨g2, c2', eA, hgl2⟩ := ents_form hr hy
   injection eA with eA1 eA2 eA3
   subst eA1
   obtain ⟨A3, c3, A4, c4, hcell, r3, r4⟩ := ents_read hr hy
   have m0 : (w.alloc (.cells #[.int .i64 0, .string ⟨#[]⟩, .string ⟨#[]⟩, .slice none 0 0, .slice none 0 0, .int .i64 0, .int .i64 0, .int .i64 0, .int .i64 0] 49)).cell? ⟨g2, m * 11, none⟩ = some (.int .i64 y.f0.f0) := hcell 0 _ rfl
   have m1 := hcell 1 _ rfl
   have m2' := hcell 2 _ rfl
   have m3 := hcell 3 _ rfl
   have m4 := hcell 4 _ rfl
   have m5 := hcell 5 _ rfl
   have m6 := hcell 6 _ rfl
   have m7 := hcell 7 _ rfl
   have m8 := hcell 8 _ rfl
   have m9 := hcell 9 _ rfl
   have m10 := hcell 10 _ rfl
   have COP := hid (copied_any y A3 c3 A4 c4 (w.alloc (.cells #[.int .i64 0, .string ⟨#[]⟩, .string ⟨#[]⟩, .slice none 0 0, .slice none 0 0, .int .i64 0, .int .i64 0, .int .i64 0, .int .i64 0] 49)) r3 r4 hYE.out.1 hYE.out.2)
   unfold entV at COP
   have hw1 : wrap64 ((m : Int) + 1 - 1) = (m : Int) := by rw [← i64_w, IntWalk.i64_in _ (by omega)]; omega
   have h2 : ¬ ((m : Int) + 1 < 1) := by omega
   have h3 : ¬ ((s.f2.length : Int) < (m : Int) + 1) := by omega
   have hm0 : (0 : Int) ≤ (m : Int) := by omega
   have hm1 : (m : Int) < (s.f2.length : Int) := by omega
   clear h h0 hk0 hs hnil hE e0 hHE hsd hr h1 hi0 hm hy hcell r3 r4 eA3
   go_enter Try.func55, Try.ntmps55
   go_wp2_with (first
    | (go_at_call 36; refine HT.out.mono ?_; rintro e w1 ⟨rfl, rfl⟩)
    | (go_at_call 39; refine COP.out.mono ?_; rintro e w4 ⟨A5, c5, A7, c7, rfl, r5, r7, f4⟩; have B4 := hid (f4.blk B0.out (by simp)); have F4 := hid (F0.out.then f4); have R5 := hid r5; have R7 := hid r7; have y0 := blk_free B4.out 0; have y1 := blk_free B4.out 1; have y2 := blk_free B4.out 2; have y3 := blk_free B4.out 3; have y4 := blk_free B4.out 4; have y5 := blk_free B4.out 5; have y6 := blk_free B4.out 6; have y7 := blk_free B4.out 7; have y8 := blk_free B4.out 8; have x0 := cell_of_row w4 w.heap.size 0 _ _ _ B4.out; have x1 := cell_of_row w4 w.heap.size 1 _ _ _ B4.out; have x2 := cell_of_row w4 w.heap.size 2 _ _ _ B4.out; have x3 := cell_of_row w4 w.heap.size 3 _ _ _ B4.out; have x4 := cell_of_row w4 w.heap.size 4 _ _ _ B4.out; have x5 := cell_of_row w4 w.heap.size 5 _ _ _ B4.out; have x6 := cell_of_row w4 w.heap.size 6 _ _ _ B4.out; have x7 := cell_of_row w4 w.heap.size 7 _ _ _ B4.out; have x8 := cell_of_row w4 w.heap.size 8 _ _ _ B4.out; simp at x0 x1 x2 x3 x4 x5 x6 x7 x8; clear r5 r7 f4))
   obtain ⟨b5, g5⟩ := apiBox B4.out (.int .i64 y.f0.f0) (.string y.f0.f1) (.string y.f0.f2) (.slice A5 y.f0.f3.length c5) (.slice A7 y.f0.f4.length c7) (.int .i64 y.f0.f5) (.int .i64 y.f0.f6) (.int .i64 y.f0.f7) (.int .i64 y.f0.f8)
   refine bodyPost_ret (results_row_tmp (fn := Try.f55) (p := 6) (u := 7) rfl _ _ w.heap.size 49 #[.int .i64 y.f0.f0, .string y.f0.f1, .string y.f0.f2, .slice A5 y.f0.f3.length c5, .slice A7 y.f0.f4.length c7, .int .i64 y.f0.f5, .int .i64 y.f0.f6, .int .i64 y.f0.f7, .int .i64 y.f0.f8] (0, 0) _ rfl b5 Try.underlying49 rfl (by kernel_rfl)) rfl ?_
   exact Got.mk e1.out R5.out R7.out F4.out B4.out (Nat.le_refl _) g5
end Go.Proofs.Ytcfgcmjnailndaa
