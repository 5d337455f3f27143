/-
  Catalog: the deeds of a commit, one after the other.
  Columns: expr.Cols.
  Catalog: deeds copied.
-/
import Derived.Deep.RegionWith
import Derived.Test.YtkolnoadeihmoaaGreatKd9
import Derived.Test.YtkolnoadeihmoaaGreatKd6
import Derived.Test.YtkolnoadeihmoaaGreatKd10
import Derived.Test.YtkolnoadeihmoaaGreatKd7
import Derived.Test.YtkolnoadeihmoaaGreatKd4
namespace Go.Proofs.YtkolnoadeihmoaaGreat
open Go.RowKit Go.Proofs.YtkolnoadeihmoaaGreatW.PrintWords
theorem spot_none {w : World} {a : Addr} {v : Value} (h : w.cell? a = some v) : a.spot = none := by
  unfold World.cell? at h
  split at h
  · cases hs : a.spot with
    | none => rfl
    | some _ => rw [hs] at h; simp at h
  · cases h
theorem addr_plain {a : Addr} (h : a.spot = none) : a = ⟨a.block, a.off, none⟩ := by cases a; simp_all
structure DeedAt (w : World) (b o : Nat) (x : DE) (A4 : Option Addr) (c4 : Nat) (A6 : Option Addr) (c6 : Nat) : Prop where
  d0 : w.cell? ⟨b, o, none⟩ = some (.string x.f0)
  d1 : w.cell? ⟨b, o + 1, none⟩ = some (.string x.f1)
  d2 : w.cell? ⟨b, o + 2, none⟩ = some (.string x.f2)
  d3 : w.cell? ⟨b, o + 3, none⟩ = some (.string x.f3)
  d4 : w.cell? ⟨b, o + 4, none⟩ = some (.slice A4 x.f4.length c4)
  d5 : w.cell? ⟨b, o + 5, none⟩ = some (.int .i64 x.f5)
  d6 : w.cell? ⟨b, o + 6, none⟩ = some (.slice A6 x.f6.length c6)
  l4 : x.f4.length ≤ c4
  r4 : kC.C w A4 x.f4.length x.f4
  l6 : x.f6.length ≤ c6
  r6 : kI.C w A6 x.f6.length x.f6
theorem DeedAt.fr {w w' : World} {b o : Nat} {x : DE} {A4 : Option Addr} {c4 : Nat} {A6 : Option Addr} {c6 : Nat} (h : DeedAt w b o x A4 c4 A6 c6) (f : Fr [] w w') : DeedAt w' b o x A4 c4 A6 c6 :=
  ⟨f.cell0 h.d0, f.cell0 h.d1, f.cell0 h.d2, f.cell0 h.d3, f.cell0 h.d4, f.cell0 h.d5, f.cell0 h.d6, h.l4, Kd.C_below h.r4 f.below0, h.l6, Kd.C_below h.r6 f.below0⟩
theorem deeds_at {w : World} {A : Option Addr} {n k : Nat} {xs : List DE} {x : DE} (h : Kd.C k135 w A n xs) (hx : xs[k]? = some x) :
    ∃ b off A4 c4 A6 c6, A = some ⟨b, off, none⟩ ∧ DeedAt w b (off + k * 7) x A4 c4 A6 c6 := by
  have hk := (List.getElem?_eq_some_iff.1 hx).1
  have hn : xs.length = n := h.1
  obtain ⟨ad, A4, c4, A6, c6, e, h0, h1, h2, h3, h4, h5, h6, l4, r4, l6, r6⟩ := at_T135 h (k : Int) (by omega) (by omega)
  have ex : rd_T135 xs (k : Int) = x := by simp [rd_T135, List.getD_eq_getElem?_getD, hx]
  rw [ex] at h0 h1 h2 h3 h4 h5 h6 l4 r4 l6 r6
  have hsp : ad.spot = none := by
    obtain ⟨ad', _, _, _, _, e', h0', _⟩ := at_T135 h 0 (by omega) (by omega)
    rw [e] at e'
    cases e'
    have hs := spot_none h0'
    simpa [Addr.add] using hs
  rw [addr_plain hsp] at e
  have ea : ad.add (((k : Int)).toNat * 7) = ⟨ad.block, ad.off + k * 7, none⟩ := by rw [addr_plain hsp, add_mk]; simp
  rw [ea] at h0 h1 h2 h3 h4 h5 h6
  exact ⟨ad.block, ad.off, A4, c4, A6, c6, e, h0, h1, h2, h3, h4, h5, h6, l4, r4, l6, r6⟩
theorem op_cases {s : ByteArray} (h : isOp s = true) : s = kCreate ∨ s = kDrop ∨ s = kUndrop ∨ s = kRename ∨ s = kSwap ∨ s = kLay ∨ s = kKeep := by
  simpa [isOp] using h
structure DeedOk (x : DE) : Prop where
  op : isOp x.f0 = true
  l4 : x.f4.length ≤ 1000000
  l6 : x.f6.length ≤ 17592186044416
theorem setE_len (es : List EN) (i : Nat) (f : EN → EN) : (setE es i f).length = es.length := by simp [setE]
theorem deed_len (d : Dr) (es : List EN) (x : DE) : (deedBy d es x).2.length ≤ es.length + 1 := by
  have h1 : (create d es x).2.length ≤ es.length + 1 := by unfold create; grind
  have h2 : (drop d es x).2.length ≤ es.length + 1 := by unfold drop; grind [setE_len]
  have h3 : (undrop d es x).2.length ≤ es.length + 1 := by unfold undrop undropAt; grind [setE_len]
  have h4 : (rename es x).2.length ≤ es.length + 1 := by unfold rename; grind [setE_len]
  have h5 : (swap es x).2.length ≤ es.length + 1 := by unfold swap; grind [setE_len]
  have h6 : (lay d es x).2.length ≤ es.length + 1 := by unfold lay; grind [setE_len]
  have h7 : (keepIt es x).2.length ≤ es.length + 1 := by unfold keepIt; grind [setE_len]
  unfold deedBy
  grind
theorem okl_tail {xs : List DE} {k : Nat} {x : DE} (h : ∀ y ∈ xs, DeedOk y) (hx : xs[k]? = some x) : DeedOk x := h x (List.mem_iff_getElem?.2 ⟨k, hx⟩)
def doneK (d : Dr) (es : List EN) (xs : List DE) : Nat → Option (List EN)
  | 0 => some es
  | k + 1 => match doneK d es xs k with
    | none => none
    | some l => match xs[k]? with
      | none => none
      | some x => if (deedBy d l x).1 = 0 then some (deedBy d l x).2 else none
theorem doneBy_nil (d : Dr) (es : List EN) : doneBy d es [] = if 4000 < es.length then (2, es) else (0, es) := rfl
theorem doneBy_cons (d : Dr) (es : List EN) (x : DE) (r : List DE) : doneBy d es (x :: r) = if (deedBy d es x).1 = 0 then doneBy d (deedBy d es x).2 r else deedBy d es x := rfl
theorem doneK_by (d : Dr) (es : List EN) (xs : List DE) : ∀ {k : Nat} {l : List EN}, doneK d es xs k = some l → doneBy d es xs = doneBy d l (xs.drop k)
  | 0, l, h => by simp [doneK] at h; subst h; simp
  | k + 1, l, h => by
    unfold doneK at h
    split at h
    · cases h
    · rename_i l0 h0
      split at h
      · cases h
      · rename_i x hx
        split at h
        · rename_i he
          cases h
          have hk := (List.getElem?_eq_some_iff.1 hx)
          rw [doneK_by d es xs h0, List.drop_eq_getElem_cons hk.1, hk.2, doneBy_cons, if_pos he]
        · cases h
theorem doneK_len (d : Dr) (es : List EN) (xs : List DE) : ∀ {k : Nat} {l : List EN}, doneK d es xs k = some l → l.length ≤ es.length + k
  | 0, l, h => by simp [doneK] at h; subst h; simp
  | k + 1, l, h => by
    unfold doneK at h
    split at h
    · cases h
    · rename_i l0 h0
      split at h
      · cases h
      · rename_i x hx
        split at h
        · cases h
          have := doneK_len d es xs h0
          have := deed_len d l0 x
          omega
        · cases h
def Doing (w0 : World) (db : Nat) (tv : Value) (d : Dr) (l : List EN) (w : World) : Prop :=
  ∃ ev, DraftAt w db tv ev d l ∧ Fr [] w0 w ∧ w0.heap.size ≤ db ∧ ∀ k, ev.ownBlock = some k → w0.heap.size ≤ k
theorem Doing.next {w0 w1 w2 : World} {db : Nat} {tv ev : Value} {d : Dr} {l : List EN} {r : Int × List EN} {e : Ending} (h : DraftAt w1 db tv ev d l) (f : Fr [] w0 w1) (h1 : w0.heap.size ≤ db) (h2 : ∀ k, ev.ownBlock = some k → w0.heap.size ≤ k) (hd : Deeded db tv ev d r w1 e w2) : e = .returned (.int .i64 r.1) ∧ Doing w0 db tv d r.2 w2 := by
  obtain ⟨he, ev', hD, hF, ho⟩ := hd
  refine ⟨he, ev', hD, f.trans hF (fun z hz => ?_), h1, fun k hk => ?_⟩
  · rcases List.mem_cons.1 hz with rfl | hz
    · exact .inr h1
    · exact .inr (h2 z (by simpa using hz))
  · rcases ho k hk with h | h
    · exact h2 k h
    · have := f.size; omega
theorem by_create {d : Dr} {es : List EN} {x : DE} (h : x.f0 = kCreate) : deedBy d es x = create d es x := by unfold deedBy; rw [if_pos h]
theorem by_drop {d : Dr} {es : List EN} {x : DE} (h : x.f0 = kDrop) : deedBy d es x = drop d es x := by unfold deedBy; simp [h, show kDrop ≠ kCreate by decide]
theorem by_undrop {d : Dr} {es : List EN} {x : DE} (h : x.f0 = kUndrop) : deedBy d es x = undrop d es x := by unfold deedBy; simp [h, show kUndrop ≠ kCreate by decide, show kUndrop ≠ kDrop by decide]
theorem by_rename {d : Dr} {es : List EN} {x : DE} (h : x.f0 = kRename) : deedBy d es x = rename es x := by unfold deedBy; simp [h, show kRename ≠ kCreate by decide, show kRename ≠ kDrop by decide, show kRename ≠ kUndrop by decide]
theorem by_swap {d : Dr} {es : List EN} {x : DE} (h : x.f0 = kSwap) : deedBy d es x = swap es x := by unfold deedBy; simp [h, show kSwap ≠ kCreate by decide, show kSwap ≠ kDrop by decide, show kSwap ≠ kUndrop by decide, show kSwap ≠ kRename by decide]
theorem by_lay {d : Dr} {es : List EN} {x : DE} (h : x.f0 = kLay) : deedBy d es x = lay d es x := by unfold deedBy; simp [h, show kLay ≠ kCreate by decide, show kLay ≠ kDrop by decide, show kLay ≠ kUndrop by decide, show kLay ≠ kRename by decide, show kLay ≠ kSwap by decide]
theorem by_keep {d : Dr} {es : List EN} {x : DE} (h : x.f0 = kKeep) : deedBy d es x = keepIt es x := by unfold deedBy; simp [h, show kKeep ≠ kCreate by decide, show kKeep ≠ kDrop by decide, show kKeep ≠ kUndrop by decide, show kKeep ≠ kRename by decide, show kKeep ≠ kSwap by decide, show kKeep ≠ kLay by decide]
def colsFrom : List ByteArray → List CO → Bool
  | _, [] => true
  | s, c :: r => wordB c.f0 && (!(s.any fun y => decide (y = c.f0))) && decide (1 ≤ c.f1) && decide (c.f1 ≤ 4) && colsFrom (s ++ [c.f0]) r
def colsB (xs : List CO) : Bool := colsFrom [] xs && decide (0 < xs.length) && decide (xs.length ≤ 8)
def seenE : Nat → List ByteArray → List MapEntry
  | _, [] => []
  | i, s :: r => { key := .string s, val := .bool true, born := i } :: seenE (i + 1) r
theorem seen_append (s : ByteArray) : ∀ (l : List ByteArray) (i : Nat), seenE i (l ++ [s]) = seenE i l ++ [{ key := .string s, val := .bool true, born := i + l.length }]
  | [], i => by simp [seenE]
  | y :: r, i => by
    simp only [List.cons_append, seenE, seen_append s r (i + 1), List.length_cons]
    congr 4
    omega
theorem seen_no (s : ByteArray) : ∀ (l : List ByteArray) (i j : Nat), (l.any fun y => decide (y = s)) = false → Instr.findNow .string (.string s) (seenE i l) j = some none
  | [], i, j, _ => by simp [seenE, Instr.findNow]
  | y :: r, i, j, h => by
    simp only [List.any_cons, Bool.or_eq_false_iff, decide_eq_false_iff_not] at h
    have ih := seen_no s r (i + 1) (j + 1) h.2
    simp only [seenE, Instr.findNow, Instr.sameNow, bytes_beq]
    simp [Ne.symm h.1, ih]
theorem seen_yes (s : ByteArray) : ∀ (l : List ByteArray) (i j : Nat), (l.any fun y => decide (y = s)) = true → ∃ m, Instr.findNow .string (.string s) (seenE i l) j = some (some (m, .bool true))
  | [], i, j, h => by simp at h
  | y :: r, i, j, h => by
    simp only [seenE, Instr.findNow, Instr.sameNow, bytes_beq]
    by_cases hy : y = s
    · exact ⟨j, by simp [hy]⟩
    · simp only [List.any_cons, hy, decide_false, Bool.false_or] at h
      obtain ⟨m, hm⟩ := seen_yes s r (i + 1) (j + 1) h
      exact ⟨m, by simp [Ne.symm hy, hm]⟩
theorem run_insert {P : Program} (w : World) (mty kt et : TypeId) (b : Nat) (es : Array MapEntry) (n : Nat) (s : ByteArray) (val : Value) (hm : P.underlying mty = some (.map kt et)) (hk : P.underlying kt = some .string) (hb : w.heap[b]? = some (.map es n)) (hf : Instr.findNow .string (.string s) es.toList 0 = some none) :
    (Instr.mapUpdate mty (.map (some b)) (.string s) val).run P w = .ok () { w with heap := w.heap.setIfInBounds b (.map (es.push { key := .string s, val := val, born := n }) (n + 1)) } := by
  have hc : (Instr.checkKey false 10000 kt (.string s)).run P w = .ok () w := MapKept.run_checkKey (k := .string s) hk (by simp [MapKept.IsKey]) false 9999
  simp [Instr.mapUpdate, run_underlying hm, MapKept.run_getObj_map hb, hc, MapKept.run_findKey hk hf, MapKept.run_setObj_map _ hb, Result.andThen]
def SeenAt (w : World) (b : Nat) (l : List ByteArray) : Prop := w.heap[b]? = some (.map (seenE 0 l).toArray l.length)
theorem SeenAt.fr {w w' : World} {b : Nat} {l : List ByteArray} (h : SeenAt w b l) (f : Fr [] w w') : SeenAt w' b l := f.blk h (by simp)
theorem seen_look {w : World} {b : Nat} {l : List ByteArray} (h : SeenAt w b l) (s : ByteArray) :
    (Instr.lookup 266 (.map (some b)) (.string s) false).run Tryz.prog w = .ok (.bool (l.any fun y => decide (y = s))) w := by
  cases hc : l.any fun y => decide (y = s) with
  | false => exact run_look_no w _ 9 4 b _ _ s (.bool false) false Tryz.underlying266 Tryz.underlying9 h (by kernel_rfl) (seen_no s l 0 0 hc)
  | true =>
    obtain ⟨m, hm⟩ := seen_yes s l 0 0 hc
    exact run_look_yes w _ 9 4 b _ _ m s (.bool true) false Tryz.underlying266 Tryz.underlying9 h hm
theorem seen_put {w : World} {b : Nat} {l : List ByteArray} (h : SeenAt w b l) (s : ByteArray) (hn : (l.any fun y => decide (y = s)) = false) :
    ∃ w', (Instr.mapUpdate 266 (.map (some b)) (.string s) (.bool true)).run Tryz.prog w = .ok () w' ∧ SeenAt w' b (l ++ [s]) ∧ Fr [b] w w' := by
  refine ⟨_, run_insert w _ 9 4 b _ _ s (.bool true) Tryz.underlying266 Tryz.underlying9 h (seen_no s l 0 0 hn), ?_, ⟨rfl, rfl, rfl, by simp, fun k hk hS => ?_⟩⟩
  · have hlt := blk_lt h
    unfold SeenAt
    simp [hlt, seen_append]
  · simp only [List.mem_singleton] at hS
    simp [Ne.symm hS]
theorem cols_at {w : World} {A : Option Addr} {n k : Nat} {xs : List CO} {x : CO} (h : Kd.C kC w A n xs) (hx : xs[k]? = some x) :
    ∃ b off, A = some ⟨b, off, none⟩ ∧ w.cell? ⟨b, off + k * 2, none⟩ = some (.string x.f0) ∧ w.cell? ⟨b, off + k * 2 + 1, none⟩ = some (.int .i64 x.f1) := by
  have hk := (List.getElem?_eq_some_iff.1 hx).1
  have hn : xs.length = n := h.1
  obtain ⟨ad, e, h0, h1⟩ := at_T192 h (k : Int) (by omega) (by omega)
  have ex : rd_T192 xs (k : Int) = x := by simp [rd_T192, List.getD_eq_getElem?_getD, hx]
  rw [ex] at h0 h1
  have hsp : ad.spot = none := by
    obtain ⟨ad', e', h0', _⟩ := at_T192 h 0 (by omega) (by omega)
    rw [e] at e'
    cases e'
    have hs := spot_none h0'
    simpa [Addr.add] using hs
  rw [addr_plain hsp] at e
  have ea : ad.add (((k : Int)).toNat * 2) = ⟨ad.block, ad.off + k * 2, none⟩ := by rw [addr_plain hsp, add_mk]; simp
  rw [ea] at h0 h1
  exact ⟨ad.block, ad.off, e, h0, h1⟩
theorem colsFrom_at {s : List ByteArray} {xs : List CO} {k : Nat} {x : CO} (hx : xs[k]? = some x) : colsFrom s (xs.drop k) = (wordB x.f0 && (!(s.any fun y => decide (y = x.f0))) && decide (1 ≤ x.f1) && decide (x.f1 ≤ 4) && colsFrom (s ++ [x.f0]) (xs.drop (k + 1))) := by
  obtain ⟨hk, he⟩ := List.getElem?_eq_some_iff.1 hx
  rw [List.drop_eq_getElem_cons hk, he]
  rfl
set_option maxRecDepth 100000 in
theorem cols_any (A : Option Addr) (c : Nat) (xs : List CO) (w : World) (hC : Kd.C kC w A xs.length xs) (hl : xs.length ≤ 9223372036854775807) (hs : ∀ x ∈ xs, x.f0.size ≤ maxLen) :
    Calls Tryz.prog 136 #[.slice A xs.length c] w fun e w' => e = .returned (.bool (colsB xs)) ∧ Fr [] w w' := by
  have HC := hid hC
  have HS := hid hs
  clear hC hs
  have hmm := @run_makeMap Tryz.prog
  go_enter Tryz.func136, Tryz.ntmps136
  go_wp2
  go_loopw [9] (fun i wr => ∃ (k : Nat) (l : List ByteArray), i = .int .i64 k ∧ k ≤ xs.length ∧ colsFrom [] xs = colsFrom l (xs.drop k) ∧ SeenAt wr w.heap.size l ∧ Fr [] w wr) (fun i _ => xs.length - (intOf i).toNat)
  case atStart => exact ⟨0, [], rfl, Nat.zero_le _, rfl, (MapKept.heap_alloc w _).1, (Fr.refl [] w).alloc _⟩
  case round =>
    obtain ⟨k, l, rfl, hk, hE, hM, hF⟩ := hrel
    have HE := hid hE
    have HM := hid hM
    have HF := hid hF
    clear hE hM hF
    by_cases hlt : k < xs.length
    · obtain ⟨x, hx⟩ : ∃ x, xs[k]? = some x := ⟨_, List.getElem?_eq_getElem hlt⟩
      obtain ⟨b, off, eA, d0, d1⟩ := cols_at (Kd.C_below HC.out HF.out.below0) hx
      have hsz := HS.out x (List.mem_iff_getElem?.2 ⟨k, hx⟩)
      have HX := hid hx
      subst eA
      have hm0 : (0 : Int) ≤ (k : Int) := by omega
      have hm1 : (k : Int) < (xs.length : Int) := by omega
      have F0 := hid (((Fr.refl [] wr).alloc (.cells #[.string x.f0, .int .i64 x.f1] 192)))
      have hlook := fun q => seen_look (HM.out.fr (F0.out.drewN q)) x.f0
      obtain ⟨sb, hsb⟩ : ∃ sb, sb = l.any fun y => decide (y = x.f0) := ⟨_, rfl⟩
      rw [← hsb] at hlook
      have HSB := hid hsb
      clear hsb hx
      have W0 := hid hsz
      clear hsz
      cases sb with
      | true =>
        go_wp2_with (go_at_call 34; refine (word_any x.f0 W0.out _).mono ?_; rintro e w2 ⟨rfl, q, rfl⟩)
        all_goals
          go_ret
          refine ⟨?_, HF.out.then (F0.out.drewN q)⟩
          rw [colsB, HE.out, colsFrom_at HX.out, ← HSB.out]
          simp
      | false =>
        have hput := fun q => seen_put (HM.out.fr (F0.out.drewN q)) x.f0 HSB.out.symm
        obtain ⟨u, hu⟩ := Classical.axiomOfChoice hput
        have hupd := fun q => (hu q).1
        have HU := hid fun q => (hu q).2
        clear hu
        go_wp2_with (go_at_call 34; refine (word_any x.f0 W0.out _).mono ?_; rintro e w2 ⟨rfl, q, rfl⟩)
        all_goals first
          | (go_ret
             refine ⟨?_, HF.out.then (F0.out.drewN q)⟩
             rw [colsB, HE.out, colsFrom_at HX.out, ← HSB.out]
             simp_all
             done)
          | (go_ret
             refine ⟨?_, HF.out.then (F0.out.drewN q)⟩
             rw [colsB, HE.out, colsFrom_at HX.out, ← HSB.out]
             simp_all
             omega)
          | (go_roundw
             case rel =>
               refine ⟨k + 1, l ++ [x.f0], by go_num, by omega, ?_, (HU.out q).1, (HF.out.then (F0.out.drewN q)).trans (HU.out q).2 (fun z hz => .inr ?_)⟩
               · rw [HE.out, colsFrom_at HX.out, ← HSB.out]
                 simp_all
               · simp at hz; omega
             case measure => simp [intOf]; omega)
    · obtain rfl : k = xs.length := by omega
      have hE := HE.out
      rw [List.drop_length] at hE
      have HE2 := hid hE
      clear hE
      go_wp2
      all_goals
        go_ret
        refine ⟨?_, HF.out⟩
        rw [colsB, HE2.out]
        simp [colsFrom]
        try rw [Bool.eq_iff_iff]
        try simp_all
        try omega
def Made {α : Type} (d : Kd α) (t : TypeId) (xs : List α) (w : World) (e : Ending) (w' : World) : Prop :=
  ∃ v, e = .returned v ∧ d.R t w' 0 (fun _ => True) v xs ∧ Fr [] w w' ∧ ∀ k, v.ownBlock = some k → w.heap.size ≤ k
theorem infoD : (Tryz.prog.info? 135).map (fun i => (i.zero, i.size, i.bytes)) = some (some (.agg #[.string ⟨#[]⟩, .string ⟨#[]⟩, .string ⟨#[]⟩, .string ⟨#[]⟩, .slice none 0 0, .int .i64 0, .slice none 0 0]), 7, 120) := by kernel_rfl
theorem M_ownR {α β : Type} {k : Kd α} {d : Kd β} {t : TypeId} {w : World} {y : α} {cs : List Value} {v : Value} {es : List β} (h : k.M w 0 (fun _ => True) y cs) (hv : d.R t w 0 (fun _ => True) v es) (ht : ∀ q ∈ k.E, q ≠ t) : k.M w 0 (fun k => some k ≠ v.ownBlock) y cs := by
  refine k.M_mono (fun j hj => ?_) (k.M_bound h)
  obtain ⟨-, -, -, q, hq, cells, hc⟩ := hj
  intro e
  obtain ⟨cells', hc'⟩ := Kd.R_typed hv j e.symm
  rw [hc] at hc'
  injection hc' with hc'; injection hc' with _ hc'
  exact ht q hq hc'
theorem deed_append {w : World} {v : Value} {xs : List DE} (R : kD.R 135 w 0 (fun _ => True) v xs) (hl : xs.length < 1000000) (x : DE) (v4 v6 : Value) (h4 : kC.R 192 w 0 (fun _ => True) v4 x.f4) (h6 : kI.R 3 w 0 (fun _ => True) v6 x.f6) :
    ∃ A1 c1 w1, (Builtin.append_ #[37, 37] 37 #[v, .slice (some ⟨w.heap.size, 0, none⟩) 1 1]).run Tryz.prog (w.alloc (.cells #[.string x.f0, .string x.f1, .string x.f2, .string x.f3, v4, .int .i64 x.f5, v6] 135)) = .ok (.slice A1 (xs.length + 1) c1) w1 ∧
      kD.R 135 w1 0 (fun _ => True) (.slice A1 (xs.length + 1) c1) (xs ++ [x]) ∧ w.grownBy w1 v.ownBlock ∧ ((Value.slice A1 (xs.length + 1) c1).ownBlock = v.ownBlock ∨ ∃ b, (Value.slice A1 (xs.length + 1) c1).ownBlock = some b ∧ w.heap.size ≤ b) := by
  obtain ⟨v1, w1, hrun, r5, g5, a5⟩ := R_run (P := Tryz.prog) kD (W := w) 37 37 135 _ 120 Tryz.underlying37 infoD rfl (by decide) (by decide) v xs x [.string x.f0, .string x.f1, .string x.f2, .string x.f3, v4, .int .i64 x.f5, v6] (fun k => some k ≠ v.ownBlock)
    (kD_mk x (M_ownR (ros_of_R h4) R (by decide)) (M_ownR (ros_of_R h6) R (by decide))) (fun _ h => h) R (by omega)
  obtain ⟨A1, c1, e⟩ := Kd.R_slice r5
  rw [List.length_append, List.length_singleton] at e
  subst e
  exact ⟨A1, c1, w1, hrun, r5, g5, a5⟩
theorem grow_own {w0 w w1 : World} {v v1 : Value} (f : Fr [] w0 w) (ho : ∀ k, v.ownBlock = some k → w0.heap.size ≤ k) (g : w.grownBy w1 v.ownBlock) (a : v1.ownBlock = v.ownBlock ∨ ∃ b, v1.ownBlock = some b ∧ w.heap.size ≤ b) : Fr [] w0 w1 ∧ ∀ k, v1.ownBlock = some k → w0.heap.size ≤ k := by
  refine ⟨f.grown g (fun k hk => .inr (ho k hk)), fun k hk => ?_⟩
  rcases a with a | ⟨b, hb, hle⟩
  · exact ho k (by rw [← a]; exact hk)
  · rw [hb] at hk; cases hk; have := f.size; omega
theorem box_end {wr w3 : World} {b : Nat} {x : DE} {A4 A6 A5 A7 : Option Addr} {c4 c6 c5 c7 : Nat} (B : w3.heap[b]? = some (.cells #[.string x.f0, .string x.f1, .string x.f2, .string x.f3, .slice A4 x.f4.length c4, .int .i64 x.f5, .slice A6 x.f6.length c6] 135 (0, 0)))
    (r5 : kC.R 192 w3 0 (fun _ => True) (.slice A5 x.f4.length c5) x.f4) (r7 : kI.R 3 w3 0 (fun _ => True) (.slice A7 x.f6.length c7) x.f6) (f : Fr [] wr w3) (hb : wr.heap.size ≤ b) :
    Fr [] wr ((w3.setCell ⟨b, 4, none⟩ (.slice A5 x.f4.length c5)).setCell ⟨b, 6, none⟩ (.slice A7 x.f6.length c7)) ∧
    kC.R 192 ((w3.setCell ⟨b, 4, none⟩ (.slice A5 x.f4.length c5)).setCell ⟨b, 6, none⟩ (.slice A7 x.f6.length c7)) 0 (fun _ => True) (.slice A5 x.f4.length c5) x.f4 ∧
    kI.R 3 ((w3.setCell ⟨b, 4, none⟩ (.slice A5 x.f4.length c5)).setCell ⟨b, 6, none⟩ (.slice A7 x.f6.length c7)) 0 (fun _ => True) (.slice A7 x.f6.length c7) x.f6 ∧
    ((w3.setCell ⟨b, 4, none⟩ (.slice A5 x.f4.length c5)).setCell ⟨b, 6, none⟩ (.slice A7 x.f6.length c7)).heap[b]? = some (.cells #[.string x.f0, .string x.f1, .string x.f2, .string x.f3, .slice A5 x.f4.length c5, .int .i64 x.f5, .slice A7 x.f6.length c7] 135 (0, 0)) := by
  have g : Fr [b] w3 ((w3.setCell ⟨b, 4, none⟩ (.slice A5 x.f4.length c5)).setCell ⟨b, 6, none⟩ (.slice A7 x.f6.length c7)) := ((Fr.refl _ _).setCell (.inl (by simp)) _).setCell (.inl (by simp)) _
  refine ⟨f.trans g (fun z hz => .inr (by simp at hz; omega)), R_fr r5 g (NoT.one B (by
    intro q hq
    simp [k192, Kd.iso, Kd.pair, Kd.int, Kd.string, Kd.scalar] at hq
    subst hq; decide)), R_fr r7 g (NoT.one B (by
    intro q hq
    simp [Kd.int, Kd.scalar] at hq
    subst hq; decide)), ?_⟩
  have h1 := blk_setCell B 4 (.slice A5 x.f4.length c5)
  simp only [List.setIfInBounds_toArray, List.set_cons_succ, List.set_cons_zero] at h1
  have h2 := blk_setCell h1 6 (.slice A7 x.f6.length c7)
  simp only [List.setIfInBounds_toArray, List.set_cons_succ, List.set_cons_zero] at h2
  exact h2
set_option maxRecDepth 100000 in
set_option maxHeartbeats 4000000 in
theorem copyDeeds_any (A : Option Addr) (c : Nat) (xs : List DE) (w : World) (hC : Kd.C k135 w A xs.length xs) (hok : ∀ y ∈ xs, DeedOk y) (hl : xs.length ≤ 100000) :
    Calls Tryz.prog 87 #[.slice A xs.length c] w (Made kD 135 xs w) := by
  have HC := hid hC
  have HK := hid hok
  clear hC hok
  go_enter Tryz.func87, Tryz.ntmps87
  go_wp2
  go_loopw [3, 8] (fun out i wr => ∃ (k : Nat), i = .int .i64 k ∧ k ≤ xs.length ∧ kD.R 135 wr 0 (fun _ => True) out (xs.take k) ∧ Fr [] w wr ∧ ∀ q, out.ownBlock = some q → w.heap.size ≤ q) (fun _ i _ => xs.length - (intOf i).toNat)
  case atStart => exact ⟨0, rfl, Nat.zero_le _, Kd.R_nil _ _ _ _ _, Fr.refl _ _, fun q hq => by simp [Value.ownBlock] at hq⟩
  case round =>
    obtain ⟨k, rfl, hk, hR, hF, hO⟩ := hrel
    have HR := hid hR
    have HF := hid hF
    have HO := hid hO
    clear hR hF hO
    by_cases hlt : k < xs.length
    · obtain ⟨x, hx⟩ : ∃ x, xs[k]? = some x := ⟨_, List.getElem?_eq_getElem hlt⟩
      obtain ⟨b, off, A4, c4, A6, c6, eA, hat⟩ := deeds_at HC.out hx
      have hxk := okl_tail HK.out hx
      subst eA
      obtain ⟨d0, d1, d2, d3, d4, d5, d6, l4, r4, l6, r6⟩ := hat.fr HF.out
      have HX := hid hx
      have hm0 : (0 : Int) ≤ (k : Int) := by omega
      have hm1 : (k : Int) < (xs.length : Int) := by omega
      have R4 := hid r4
      have R6 := hid r6
      have XK := hid hxk
      have F0 := hid ((Fr.refl [] wr).alloc (.cells #[.string x.f0, .string x.f1, .string x.f2, .string x.f3, .slice A4 x.f4.length c4, .int .i64 x.f5, .slice A6 x.f6.length c6] 135)).drew
      clear hat r4 r6 hx hxk
      go_wp2_with fail
      refine (fun (KEY : Hid (∀ w4 A5 c5 A7 c7, Fr [] wr w4 → kC.R 192 w4 0 (fun _ => True) (.slice A5 x.f4.length c5) x.f4 → kI.R 3 w4 0 (fun _ => True) (.slice A7 x.f6.length c7) x.f6 → w4.heap[wr.heap.size]? = some (.cells #[.string x.f0, .string x.f1, .string x.f2, .string x.f3, .slice A5 x.f4.length c5, .int .i64 x.f5, .slice A7 x.f6.length c7] 135 (0, 0)) → (?KEYP : World → Option Addr → Nat → Option Addr → Nat → Prop) w4 A5 c5 A7 c7)) => ?main) ?key
      case main =>
        go_region_with (first
          | (go_at_call 132; refine (clone_cols A4 c4 _ x.f4 (Kd.C_below R4.out F0.out.below0) XK.out.l4).mono ?_; rintro e w2 ⟨u4, rfl, r4, f2, -⟩; obtain ⟨A5, c5, rfl⟩ := Kd.R_slice r4; have F2 := hid (F0.out.then f2); have R5 := hid r4; have b2 := f2.blk ((Fr.refl [] _).drew.blk (heap_alloc_new wr _) (by simp)) (by simp); have B2 := hid b2; have t4 := cell_of_row w2 wr.heap.size 4 _ _ _ b2; have t6 := cell_of_row w2 wr.heap.size 6 _ _ _ b2; simp at t4 t6; clear f2 r4 b2)
          | (go_at_call 133; refine (clone_ints A6 c6 _ x.f6 (Kd.C_below R6.out F2.out.below0) XK.out.l6).mono ?_; rintro e w3 ⟨u6, rfl, r6, f3, -⟩; obtain ⟨A7, c7, rfl⟩ := Kd.R_slice r6; have F3 := hid (F2.out.then f3); have R5' := hid (R_fr0 R5.out f3); have R7 := hid r6; have b3 := f3.blk B2.out (by simp); have B3 := hid b3; have s4 := cell_of_row w3 wr.heap.size 4 _ _ _ b3; have s6 := cell_of_row w3 wr.heap.size 6 _ _ _ b3; have z4 := blk_free b3 4; have z6 := blk_free b3 6; simp at s4 s6; clear f3 r6 b3))
        all_goals
          obtain ⟨e1, e2, e3, e4⟩ := box_end B3.out R5'.out R7.out F3.out (Nat.le_refl _)
          generalize (w3.setCell ⟨wr.heap.size, 4, none⟩ (.slice A5 x.f4.length c5)).setCell ⟨wr.heap.size, 6, none⟩ (.slice A7 x.f6.length c7) = w4 at e1 e2 e3 e4
          exact KEY.out w4 A5 c5 A7 c7 e1 e2 e3 e4
      refine hid (fun w4 A5 c5 A7 c7 f4 r5 r7 b4 => ?_)
      obtain ⟨T, hT⟩ : ∃ T, T = xs.take k := ⟨_, rfl⟩
      have hR := HR.out
      rw [← hT] at hR
      have hTl : T.length ≤ 100000 := by rw [hT]; simp; omega
      have HT := hid hT
      obtain ⟨A8, c8, rfl⟩ := Kd.R_slice hR
      obtain ⟨A9, c9, w5, hrun, r9, g9, a9⟩ := deed_append (R_fr0 hR f4) (by omega) x _ _ r5 r7
      obtain ⟨f9, o9⟩ := grow_own (HF.out.then f4) HO.out g9 a9
      have HRUN := hid hrun
      have R9 := hid r9
      have F9 := hid f9
      have O9 := hid o9
      have n0 := cell_of_row w4 wr.heap.size 0 _ _ _ b4
      have n1 := cell_of_row w4 wr.heap.size 1 _ _ _ b4
      have n2 := cell_of_row w4 wr.heap.size 2 _ _ _ b4
      have n3 := cell_of_row w4 wr.heap.size 3 _ _ _ b4
      have n4 := cell_of_row w4 wr.heap.size 4 _ _ _ b4
      have n5 := cell_of_row w4 wr.heap.size 5 _ _ _ b4
      have n6 := cell_of_row w4 wr.heap.size 6 _ _ _ b4
      simp at n0 n1 n2 n3 n4 n5 n6
      clear hR hT f4 r5 r7 b4 hrun r9 g9 a9 f9 o9 d0 d1 d2 d3 d4 d5 d6 HR HO HF
      go_wp2_with ((with_reducible refine gate_dst (N := 23) rfl ?_); refine step_append (v := .slice A8 T.length c8) (y := .slice (some ⟨w4.heap.size, 0, none⟩) 1 1) (v1 := .slice A9 (T.length + 1) c9) (w1 := w5) rfl (.tmp 20) (.tmp 22) 37 rfl rfl rfl HRUN.out ?_)
      go_roundw
      case rel => exact ⟨k + 1, by go_num, by omega, by rw [List.take_succ_eq_append_getElem hlt, (List.getElem?_eq_some_iff.1 HX.out).2, ← HT.out]; exact R9.out, F9.out, O9.out⟩
      case measure => simp [intOf]; omega
    · obtain rfl : k = xs.length := by omega
      have hr := HR.out
      rw [List.take_length] at hr
      have HR2 := hid hr
      clear hr
      go_wp2
      go_ret
      exact ⟨_, rfl, HR2.out, HF.out, HO.out⟩
end Go.Proofs.YtkolnoadeihmoaaGreat
