/-
  Readers: Within.
  New, Clone; a catalog that nobody made: Made, Count, Commit, Time, Clone.
  Columns: expr.Cols.
  Readers: some, of list. (printed by wip/tools/gen_some.py)
  Readers: List, All, Time, Deeds.
-/
import Derived.Test.YtcfgcmjnailndaaKd9
import Derived.Test.YtcfgcmjnailndaaKd1
namespace Go.Proofs.Ytcfgcmjnailndaa
open Go.RowKit Go.Proofs.Ytcfgcmjnailndaa.PCatalogKept Go.Proofs.YtcfgcmjnailndaaW.PrintWords Go.Proofs.YtcfgcmjnailndaaW.PrintLast Go.Proofs.YtcfgcmjnailndaaW.PrintMore
def isIn (id : Int) (y : EN) : Bool := (y.f1 == id) && (y.f0.f8 == 0)
def withinBy (ss : List ST) (k id : Int) : List AE × Int :=
 if (getBy ss k id).2 = 0 then (if (getBy ss k id).1.f2.toList = [] then someBy (isIn id) ss k else ([], 8)) else ([], (getBy ss k id).2)
theorem Listed.err {w w' : World} {e : Int} {r : List AE × Int} (h : r = ([], e)) (f : Fr [] w w') : Listed r w (.returned (.tuple #[.slice none 0 0, .int .i64 e])) w' := by
 subst h
 exact ⟨_, rfl, Kd.R_nil _ _ _ _ _, f, fun q hq => by simp [Value.ownBlock] at hq⟩
set_option maxRecDepth 100000 in
set_option maxHeartbeats 4000000 in
theorem within_any (cb : Nat) (v : Value) (ss : List ST) (k id : Int) (w : World) (h : CatAt w cb v ss) (hE : CatOk ss) :
  Calls Try.prog 41 #[.pointer (some ⟨cb, 0, none⟩), .int .i64 k, .int .i64 id] w (Listed (withinBy ss k id) w) := by
 have F0 := hid ((Fr.refl [] w).alloc (.cells #[.int .i64 id] 3))
 have B0 := hid (heap_alloc_new w (.cells #[.int .i64 id] 3))
 have HG := hid (get_any cb v ss k id (w.alloc (.cells #[.int .i64 id] 3)) (h.fr0 F0.out) hE)
 have HS := hid (fun (w2 : World) (f : Fr [] w w2) (hc : w2.cell? ⟨w.heap.size, 0, none⟩ = some (.int .i64 id)) => some_within cb v ss k w.heap.size id w2 (h.fr0 f) hE hc)
 have HE := hid (show withinBy ss k id = if (getBy ss k id).2 = 0 then (if (getBy ss k id).1.f2.toList = [] then someBy (isIn id) ss k else ([], 8)) else ([], (getBy ss k id).2) from rfl)
 generalize getBy ss k id = r at HG HE
 obtain ⟨x, er⟩ := r
 clear h hE
 by_cases he : er = 0
 ·subst he
  by_cases ht : x.f2.toList = []
  ·have e1 := hid (show withinBy ss k id = someBy (isIn id) ss k by rw [HE.out, if_pos rfl, if_pos ht])
   have ht2 : x.f2.toList.isEmpty = true := by simp [ht]
   clear ht HE
   go_enter Try.func41, Try.ntmps41
   go_wp2_with (first
    | (go_at_call 55; refine HG.out.mono ?_; rintro e w1 ⟨A3, c3, A4, c4, rfl, -, -, f1⟩; have F1 := hid f1; have C1 := f1.cell0 (cell_of_row _ _ 0 _ _ _ B0.out); simp at C1; unfold apiV; clear f1)
    | (go_at_call 30; refine (HS.out _ ((F0.out.then F1.out).alloc _) (((Fr.refl [] w1).alloc _).cell0 C1)).mono ?_; rintro e w3 ⟨u, rfl, hr, hf, ho⟩; have HR := hid hr; have HF := hid (((F0.out.then F1.out).alloc _).then hf); have HO := hid ho; clear hr hf ho))
   go_ret2
   rw [e1.out]
   exact ⟨u, rfl, HR.out, HF.out, fun q hq => Nat.le_trans ((F0.out.then F1.out).alloc _).size (HO.out q hq)⟩
  ·have e1 := hid (show withinBy ss k id = ([], 8) by rw [HE.out, if_pos rfl, if_neg ht])
   have ht2 : x.f2.toList.isEmpty = false := by simpa using ht
   clear ht HE
   go_enter Try.func41, Try.ntmps41
   go_wp2_with (go_at_call 55; refine HG.out.mono ?_; rintro e w1 ⟨A3, c3, A4, c4, rfl, -, -, f1⟩; have F1 := hid f1; unfold apiV; clear f1)
   go_ret2
   exact Listed.err e1.out ((F0.out.then F1.out).alloc _)
 ·have e1 := hid (show withinBy ss k id = ([], er) by rw [HE.out, if_neg he])
  have heb : (er == 0) = false := by simp [he]
  clear he HE
  go_enter Try.func41, Try.ntmps41
  go_wp2_with (go_at_call 55; refine HG.out.mono ?_; rintro e w1 ⟨A3, c3, A4, c4, rfl, -, -, f1⟩; have F1 := hid f1; unfold apiV; clear f1)
  go_ret2
  exact Listed.err e1.out ((F0.out.then F1.out).alloc _)
theorem lit_one {α : Type} (d : Kd α) (e : TypeId) (W : World) (x : α) (cs : List Value) (h : d.M W 0 (fun k => some k ≠ some W.heap.size) x cs) :
  d.R e (W.alloc (.cells cs.toArray e)) 0 (fun _ => True) (.slice (some ⟨W.heap.size, 0, none⟩) 1 1) [x] := by
 refine ⟨fun _ _ => trivial, OwnRow.lit W 0 (inner := cs) (ps := [x]) ?_ (Nat.zero_le _) (by simp)⟩
 have hl := d.K_len (d.K_of_M h)
 have h2 : d.M (W.alloc (.cells cs.toArray e)) 0 (fun k => True ∧ some k ≠ (Value.slice (some ⟨W.heap.size, 0, none⟩) 1 1).ownBlock) x cs := by
  refine d.M_mono ?_ (d.M_move (fun k hk => ?_) (d.M_bound h))
  ·rintro k ⟨h1, -⟩; exact ⟨trivial, h1⟩
  ·exact heap_alloc_old W _ hk.2.2.1
 have := (Reps.none (d.M (W.alloc (.cells cs.toArray e)) 0 (fun k => True ∧ some k ≠ (Value.slice (some ⟨W.heap.size, 0, none⟩) 1 1).ownBlock)) d.sz).snoc h2 hl
 simpa using this
set_option maxRecDepth 100000 in
theorem new_any (w : World) :
  Calls Try.prog 23 #[] w fun e w' => ∃ cb v, e = .returned (.pointer (some ⟨cb, 0, none⟩)) ∧ CatAt w' cb v Cat.new ∧ Fr [] w w' ∧ w.heap.size ≤ cb ∧ ∀ k, v.ownBlock = some k → w.heap.size ≤ k := by
 have hmk : ∀ w, (Instr.makeSlice 56 (.int .i64 1) (.int .i64 1)).run Try.prog w = .ok (.slice (some ⟨w.heap.size, 0, none⟩) 1 1) (w.alloc (.cells #[.int .i64 0, .slice none 0 0, .slice none 0 0] 71)) := fun _ => by kernel_rfl
 go_enter Try.func23, Try.ntmps23
 go_wp2
 go_ret
 have r := lit_one kS 71 w ⟨0, [], []⟩ [.int .i64 0, .slice none 0 0, .slice none 0 0] (kS_mk _ (ros_empty _ _ _ _ _ _ _) (Kd.R_nil _ _ _ _ _) (fun _ => rfl))
 have hb := heap_alloc_new (w.alloc (.cells #[.int .i64 0, .slice none 0 0, .slice none 0 0] 71)) (.cells #[.slice (some ⟨w.heap.size, 0, none⟩) 1 1] 58)
 rw [World.size_alloc] at hb
 refine ⟨w.heap.size + 1, .slice (some ⟨w.heap.size, 0, none⟩) 1 1, rfl, ⟨hb, Kd.R_alloc r _, by decide, by decide, ?_⟩, ((Fr.refl [] w).alloc _).alloc _, by omega, ?_⟩
 ·intro s hs
  simp [Cat.new] at hs
  subst hs
  exact Nat.zero_le _
 ·intro k hk
  simp [Value.ownBlock] at hk
  omega
def Twin (ss : List ST) (w : World) (e : Ending) (w' : World) : Prop :=
 ∃ cb v, e = .returned (.pointer (some ⟨cb, 0, none⟩)) ∧ CatAt w' cb v ss ∧ Fr [] w w' ∧ w.heap.size ≤ cb ∧ ∀ k, v.ownBlock = some k → w.heap.size ≤ k
set_option maxRecDepth 100000 in
theorem clone_any (cb : Nat) (v : Value) (ss : List ST) (w : World) (h : CatAt w cb v ss) :
  Calls Try.prog 15 #[.pointer (some ⟨cb, 0, none⟩)] w (Twin ss w) := by
 obtain ⟨g, c, rfl, hgl, hlc⟩ := h.form
 have c0 := h.c0
 have HM := hid (made_yes cb _ _ _ w c0 h.pos)
 have HC := hid (clone_states (A := some ⟨g, 0, none⟩) (c := c) (w := w) ss.length ss h.row (by have := h.small; omega))
 have H := hid h
 clear h
 go_enter Try.func15, Try.ntmps15
 go_wp2_with (first
  | (go_at_call 25; refine HM.out.mono ?_; rintro e w3 ⟨rfl, rfl⟩)
  | (go_at_call 34; refine HC.out.mono ?_; rintro e w2 ⟨u, rfl, r2, f2, o2, -⟩; obtain ⟨A5, c5, rfl⟩ := Kd.R_slice r2; have R2 := hid r2; have F2 := hid f2; have O2 := hid o2; clear r2 f2 o2))
 go_ret
 refine ⟨w2.heap.size, _, rfl, ⟨heap_alloc_new w2 _, Kd.R_alloc R2.out _, H.out.pos, H.out.small, H.out.ents⟩, F2.out.alloc _, F2.out.size, O2.out⟩
set_option maxRecDepth 100000 in
theorem made_nil (w : World) :
  Calls Try.prog 25 #[.pointer none] w fun e w' => e = .returned (.bool false) ∧ w = w' := by
 go_enter Try.func25, Try.ntmps25
 go_wp2
 go_ret
 exact ⟨rfl, rfl⟩
set_option maxRecDepth 100000 in
theorem made_zero (g : Nat) (w : World) (h : w.cell? ⟨g, 0, none⟩ = some (.slice none 0 0)) :
  Calls Try.prog 25 #[.pointer (some ⟨g, 0, none⟩)] w fun e w' => e = .returned (.bool false) ∧ w = w' := by
 go_enter Try.func25, Try.ntmps25
 go_wp2
 go_ret
 exact ⟨rfl, rfl⟩
set_option maxRecDepth 100000 in
theorem count_nil (w : World) :
  Calls Try.prog 13 #[.pointer none] w fun e w' => e = .returned (.int .i64 0) ∧ w = w' := by
 go_enter Try.func13, Try.ntmps13
 go_wp2_with (go_at_call 25; refine (made_nil _).mono ?_; rintro e w' ⟨rfl, rfl⟩)
 go_ret
 exact ⟨rfl, rfl⟩
set_option maxRecDepth 100000 in
theorem commit_nil (v : Value) (t : Int) (w : World) :
  Calls Try.prog 11 #[.pointer none, v, .int .i64 t] w fun e w' => e = .returned (.tuple #[.int .i64 0, .int .i64 7]) ∧ w = w' := by
 go_enter Try.func11, Try.ntmps11
 go_wp2_with (go_at_call 25; refine (made_nil _).mono ?_; rintro e w' ⟨rfl, rfl⟩)
 go_ret2
 exact ⟨rfl, rfl⟩
set_option maxRecDepth 100000 in
theorem time_zero (g : Nat) (k : Int) (w : World) (h : w.cell? ⟨g, 0, none⟩ = some (.slice none 0 0)) :
  Calls Try.prog 24 #[.pointer (some ⟨g, 0, none⟩), .int .i64 k] w fun e w' => e = .returned (.tuple #[.int .i64 0, .int .i64 7]) ∧ w = w' := by
 have HT : Hid (Calls Try.prog 36 #[.pointer (some ⟨g, 0, none⟩), .int .i64 k, .int .i64 1] w fun e w' => e = .returned (.int .i64 7) ∧ w = w') := by
  refine hid ?_
  go_enter Try.func36, Try.ntmps36
  go_wp2_with (go_at_call 25; refine (made_zero g _ h).mono ?_; rintro e w' ⟨rfl, rfl⟩)
  go_ret
  exact ⟨rfl, rfl⟩
 go_enter Try.func24, Try.ntmps24
 go_wp2_with (go_at_call 36; refine HT.out.mono ?_; rintro e w' ⟨rfl, rfl⟩)
 go_ret2
 exact ⟨rfl, rfl⟩
set_option maxRecDepth 100000 in
theorem clone_zero (g : Nat) (w : World) (h : w.cell? ⟨g, 0, none⟩ = some (.slice none 0 0)) :
  Calls Try.prog 15 #[.pointer (some ⟨g, 0, none⟩)] w fun e w' => e = .returned (.pointer none) ∧ w = w' := by
 go_enter Try.func15, Try.ntmps15
 go_wp2_with (go_at_call 25; refine (made_zero g _ h).mono ?_; rintro e w' ⟨rfl, rfl⟩)
 go_ret
 exact ⟨rfl, rfl⟩
def colsFrom : List ByteArray → List CO → Bool
 | _, [] => true
 | s, c :: r => wordB c.f0 && (!(s.any fun y => decide (y = c.f0))) && decide (1 ≤ c.f1) && decide (c.f1 ≤ 4) && colsFrom (s ++ [c.f0]) r
def colsB (xs : List CO) : Bool := colsFrom [] xs && decide (0 < xs.length) && decide (xs.length ≤ 8)
def seenE : Nat → List ByteArray → List MapEntry
 | _, [] => []
 | i, s :: r => { key := .string s, val := .bool true, born := i } :: seenE (i + 1) r
theorem seen_append (s : ByteArray) : ∀ (l : List ByteArray) (i : Nat), seenE i (l ++ [s]) = seenE i l ++ [{ key := .string s, val := .bool true, born := i + l.length }]
 | [], i => by simp [seenE]
 | y :: r, i => by
  simp only [List.cons_append, seenE, seen_append s r (i + 1), List.length_cons]
  congr 4
  omega
theorem seen_no (s : ByteArray) : ∀ (l : List ByteArray) (i j : Nat), (l.any fun y => decide (y = s)) = false → Instr.findNow .string (.string s) (seenE i l) j = some none
 | [], i, j, _ => by simp [seenE, Instr.findNow]
 | y :: r, i, j, h => by
  simp only [List.any_cons, Bool.or_eq_false_iff, decide_eq_false_iff_not] at h
  have ih := seen_no s r (i + 1) (j + 1) h.2
  simp only [seenE, Instr.findNow, Instr.sameNow, bytes_beq]
  simp [Ne.symm h.1, ih]
theorem seen_yes (s : ByteArray) : ∀ (l : List ByteArray) (i j : Nat), (l.any fun y => decide (y = s)) = true → ∃ m, Instr.findNow .string (.string s) (seenE i l) j = some (some (m, .bool true))
 | [], i, j, h => by simp at h
 | y :: r, i, j, h => by
  simp only [seenE, Instr.findNow, Instr.sameNow, bytes_beq]
  by_cases hy : y = s
  ·exact ⟨j, by simp [hy]⟩
  ·simp only [List.any_cons, hy, decide_false, Bool.false_or] at h
   obtain ⟨m, hm⟩ := seen_yes s r (i + 1) (j + 1) h
   exact ⟨m, by simp [Ne.symm hy, hm]⟩
theorem run_insert {P : Program} (w : World) (mty kt et : TypeId) (b : Nat) (es : Array MapEntry) (n : Nat) (s : ByteArray) (val : Value) (hm : P.underlying mty = some (.map kt et)) (hk : P.underlying kt = some .string) (hb : w.heap[b]? = some (.map es n)) (hf : Instr.findNow .string (.string s) es.toList 0 = some none) :
  (Instr.mapUpdate mty (.map (some b)) (.string s) val).run P w = .ok () { w with heap := w.heap.setIfInBounds b (.map (es.push { key := .string s, val := val, born := n }) (n + 1)) } := by
 have hc : (Instr.checkKey false 10000 kt (.string s)).run P w = .ok () w := MapKept.run_checkKey (k := .string s) hk (by simp [MapKept.IsKey]) false 9999
 simp [Instr.mapUpdate, run_underlying hm, MapKept.run_getObj_map hb, hc, MapKept.run_findKey hk hf, MapKept.run_setObj_map _ hb, Result.andThen]
def SeenAt (w : World) (b : Nat) (l : List ByteArray) : Prop := w.heap[b]? = some (.map (seenE 0 l).toArray l.length)
theorem SeenAt.fr {w w' : World} {b : Nat} {l : List ByteArray} (h : SeenAt w b l) (f : Fr [] w w') : SeenAt w' b l := f.blk h (by simp)
theorem seen_look {w : World} {b : Nat} {l : List ByteArray} (h : SeenAt w b l) (s : ByteArray) :
  (Instr.lookup 103 (.map (some b)) (.string s) false).run Try.prog w = .ok (.bool (l.any fun y => decide (y = s))) w := by
 cases hc : l.any fun y => decide (y = s) with
 | false => exact run_look_no w _ 9 4 b _ _ s (.bool false) false Try.underlying103 Try.underlying9 h (by kernel_rfl) (seen_no s l 0 0 hc)
 | true =>
  obtain ⟨m, hm⟩ := seen_yes s l 0 0 hc
  exact run_look_yes w _ 9 4 b _ _ m s (.bool true) false Try.underlying103 Try.underlying9 h hm
theorem seen_put {w : World} {b : Nat} {l : List ByteArray} (h : SeenAt w b l) (s : ByteArray) (hn : (l.any fun y => decide (y = s)) = false) :
  ∃ w', (Instr.mapUpdate 103 (.map (some b)) (.string s) (.bool true)).run Try.prog w = .ok () w' ∧ SeenAt w' b (l ++ [s]) ∧ Fr [b] w w' := by
 refine ⟨_, run_insert w _ 9 4 b _ _ s (.bool true) Try.underlying103 Try.underlying9 h (seen_no s l 0 0 hn), ?_, ⟨rfl, rfl, rfl, by simp, fun k hk hS => ?_⟩⟩
 ·have hlt := blk_lt h
  unfold SeenAt
  simp [hlt, seen_append]
 ·simp only [List.mem_singleton] at hS
  simp [Ne.symm hS]
theorem cols_at {w : World} {A : Option Addr} {n k : Nat} {xs : List CO} {x : CO} (h : Kd.C kC w A n xs) (hx : xs[k]? = some x) :
  ∃ b off, A = some ⟨b, off, none⟩ ∧ w.cell? ⟨b, off + k * 2, none⟩ = some (.string x.f0) ∧ w.cell? ⟨b, off + k * 2 + 1, none⟩ = some (.int .i64 x.f1) := by
 have hk := (List.getElem?_eq_some_iff.1 hx).1
 have hn : xs.length = n := h.1
 obtain ⟨ad, e, h0, h1⟩ := at_T83 h (k : Int) (by omega) (by omega)
 have ex : rd_T83 xs (k : Int) = x := by simp [rd_T83, List.getD_eq_getElem?_getD, hx]
 rw [ex] at h0 h1
 have hsp : ad.spot = none := by
  obtain ⟨ad', e', h0', _⟩ := at_T83 h 0 (by omega) (by omega)
  rw [e] at e'
  cases e'
  have hs := spot_none h0'
  simpa [Addr.add] using hs
 rw [addr_plain hsp] at e
 have ea : ad.add (((k : Int)).toNat * 2) = ⟨ad.block, ad.off + k * 2, none⟩ := by rw [addr_plain hsp, add_mk]; simp
 rw [ea] at h0 h1
 exact ⟨ad.block, ad.off, e, h0, h1⟩
theorem colsFrom_at {s : List ByteArray} {xs : List CO} {k : Nat} {x : CO} (hx : xs[k]? = some x) : colsFrom s (xs.drop k) = (wordB x.f0 && (!(s.any fun y => decide (y = x.f0))) && decide (1 ≤ x.f1) && decide (x.f1 ≤ 4) && colsFrom (s ++ [x.f0]) (xs.drop (k + 1))) := by
 obtain ⟨hk, he⟩ := List.getElem?_eq_some_iff.1 hx
 rw [List.drop_eq_getElem_cons hk, he]
 rfl
set_option maxRecDepth 100000 in
theorem cols_any (A : Option Addr) (c : Nat) (xs : List CO) (w : World) (hC : Kd.C kC w A xs.length xs) (hl : xs.length ≤ 9223372036854775807) (hs : ∀ x ∈ xs, x.f0.size ≤ maxLen) :
  Calls Try.prog 44 #[.slice A xs.length c] w fun e w' => e = .returned (.bool (colsB xs)) ∧ Fr [] w w' := by
 have HC := hid hC
 have HS := hid hs
 clear hC hs
 have hmm := @run_makeMap Try.prog
 go_enter Try.func44, Try.ntmps44
 go_wp2
 go_loopw [9] (fun i wr => ∃ (k : Nat) (l : List ByteArray), i = .int .i64 k ∧ k ≤ xs.length ∧ colsFrom [] xs = colsFrom l (xs.drop k) ∧ SeenAt wr w.heap.size l ∧ Fr [] w wr) (fun i _ => xs.length - (intOf i).toNat)
 case atStart => exact ⟨0, [], rfl, Nat.zero_le _, rfl, (MapKept.heap_alloc w _).1, (Fr.refl [] w).alloc _⟩
 case round =>
  obtain ⟨k, l, rfl, hk, hE, hM, hF⟩ := hrel
  have HE := hid hE
  have HM := hid hM
  have HF := hid hF
  clear hE hM hF
  by_cases hlt : k < xs.length
  ·obtain ⟨x, hx⟩ : ∃ x, xs[k]? = some x := ⟨_, List.getElem?_eq_getElem hlt⟩
   obtain ⟨b, off, eA, d0, d1⟩ := cols_at (Kd.C_below HC.out HF.out.below0) hx
   have hsz := HS.out x (List.mem_iff_getElem?.2 ⟨k, hx⟩)
   have HX := hid hx
   subst eA
   have hm0 : (0 : Int) ≤ (k : Int) := by omega
   have hm1 : (k : Int) < (xs.length : Int) := by omega
   have F0 := hid (((Fr.refl [] wr).alloc (.cells #[.string x.f0, .int .i64 x.f1] 83)))
   have hlook := fun q => seen_look (HM.out.fr (F0.out.drewN q)) x.f0
   obtain ⟨sb, hsb⟩ : ∃ sb, sb = l.any fun y => decide (y = x.f0) := ⟨_, rfl⟩
   rw [← hsb] at hlook
   have HSB := hid hsb
   clear hsb hx
   have W0 := hid hsz
   clear hsz
   cases sb with
   | true =>
    go_wp2_with (go_at_call 37; refine (word_any x.f0 W0.out _).mono ?_; rintro e w2 ⟨rfl, q, rfl⟩)
    all_goals
     go_ret
     refine ⟨?_, HF.out.then (F0.out.drewN q)⟩
     rw [colsB, HE.out, colsFrom_at HX.out, ← HSB.out]
     simp
   | false =>
    have hput := fun q => seen_put (HM.out.fr (F0.out.drewN q)) x.f0 HSB.out.symm
    obtain ⟨u, hu⟩ := Classical.axiomOfChoice hput
    have hupd := fun q => (hu q).1
    have HU := hid fun q => (hu q).2
    clear hu
    go_wp2_with (go_at_call 37; refine (word_any x.f0 W0.out _).mono ?_; rintro e w2 ⟨rfl, q, rfl⟩)
    all_goals first
     | (go_ret
        refine ⟨?_, HF.out.then (F0.out.drewN q)⟩
        rw [colsB, HE.out, colsFrom_at HX.out, ← HSB.out]
        simp_all
        done)
     | (go_ret
        refine ⟨?_, HF.out.then (F0.out.drewN q)⟩
        rw [colsB, HE.out, colsFrom_at HX.out, ← HSB.out]
        simp_all
        omega)
     | (go_roundw
        case rel =>
         refine ⟨k + 1, l ++ [x.f0], by go_num, by omega, ?_, (HU.out q).1, (HF.out.then (F0.out.drewN q)).trans (HU.out q).2 (fun z hz => .inr ?_)⟩
         ·rw [HE.out, colsFrom_at HX.out, ← HSB.out]
          simp_all
         ·simp at hz; omega
        case measure => simp [intOf]; omega)
  ·obtain rfl : k = xs.length := by omega
   have hE := HE.out
   rw [List.drop_length] at hE
   have HE2 := hid hE
   clear hE
   go_wp2
   all_goals
    go_ret
    refine ⟨?_, HF.out⟩
    rw [colsB, HE2.out]
    simp [colsFrom]
    try rw [Bool.eq_iff_iff]
    try simp_all
    try omega
set_option maxRecDepth 100000 in
set_option maxHeartbeats 8000000 in
theorem some_list (cb : Nat) (v : Value) (ss : List ST) (k : Int) (w : World) (h : CatAt w cb v ss) (hE : CatOk ss) :
  Calls Try.prog 30 #[.pointer (some ⟨cb, 0, none⟩), .int .i64 k, .func (.func 31) #[] #[]] w (Found (fun y => y.f0.f8 == 0) ss k w) := by
 obtain ⟨P, hP⟩ : ∃ P : EN → Bool, P = (fun y => y.f0.f8 == 0) := ⟨_, rfl⟩
 rw [← hP]
 have HP := hid hP
 clear hP
 obtain ⟨g, c, rfl, hgl, hlc⟩ := h.form
 have c0 := h.c0
 have HT := hid (there_any cb (some ⟨g, 0, none⟩) ss.length c k 0 w c0 h.pos)
 by_cases h0 : k < 0 ∨ (ss.length : Int) ≤ k
 ·have e0 := hid (show thereE ss.length k 0 = 6 by unfold thereE; rw [if_pos h0])
  have HR := hid h0
  rw [e0.out] at HT
  clear h0 h hE
  go_enter Try.func30, Try.ntmps30
  go_wp2_with (go_at_call 36; refine HT.out.mono ?_; rintro e w1 ⟨rfl, rfl⟩)
  go_ret2
  exact Found.no_ HR.out
 ·have hk0 : 0 ≤ k := by omega
  obtain ⟨n, rfl⟩ := Int.eq_ofNat_of_zero_le hk0
  have hn : n < ss.length := by omega
  have e0 := hid (show thereE ss.length (n : Int) 0 = 0 by unfold thereE; rw [if_neg (by omega)])
  rw [e0.out] at HT
  obtain ⟨s, hs⟩ : ∃ s, ss[n]? = some s := ⟨_, List.getElem?_eq_getElem hn⟩
  have H := hid h
  obtain ⟨A1, c1, v2, -, -, m2, -, -, hr, hnil⟩ := states_at h.row hs
  have HS := hid hs
  have hsl : s.f2.length ≤ 4000 := h.ents s (List.mem_iff_getElem?.2 ⟨n, hs⟩)
  have HE := hid (hE.ents s (List.mem_iff_getElem?.2 ⟨n, hs⟩))
  obtain ⟨A2, c2, rfl⟩ := Kd.R_slice hr
  have HR := hid hr
  have hnl : (n : Int) < (ss.length : Int) := by omega
  have hn0 : (0 : Int) ≤ (n : Int) := by omega
  clear h h0 hk0 hs hr hnil hE e0
  go_enter Try.func30, Try.ntmps30
  go_wp2_with (go_at_call 36; refine HT.out.mono ?_; rintro e w1 ⟨rfl, rfl⟩)
  clear c0 m2
  go_loopw [9, 27] (fun out i wr => ∃ (j : Nat), i = .int .i64 j ∧ j ≤ s.f2.length ∧ kA.R 49 wr 0 (fun _ => True) out (picked P (s.f2.take j)) ∧ Fr [] w wr ∧ ∀ q, out.ownBlock = some q → w.heap.size ≤ q) (fun _ i _ => s.f2.length - (intOf i).toNat)
  case atStart => exact ⟨0, rfl, Nat.zero_le _, Kd.R_nil _ _ _ _ _, Fr.refl _ _, fun q hq => by simp [Value.ownBlock] at hq⟩
  case round =>
   obtain ⟨j, rfl, hj, hR, hF, hO⟩ := hrel
   have HR2 := hid hR
   have HF := hid hF
   have HO := hid hO
   clear hR hF hO
   by_cases hlt : j < s.f2.length
   ·obtain ⟨y, hy⟩ : ∃ y, s.f2[j]? = some y := ⟨_, List.getElem?_eq_getElem hlt⟩
    obtain ⟨g2, c2', eA, hgl2⟩ := ents_form HR.out hy
    injection eA with eA1 eA2 eA3
    subst eA1
    obtain ⟨A3, c3, A4, c4, hcell, r3, r4⟩ := ents_read (R_fr0 HR.out HF.out) hy
    have m0 : wr.cell? ⟨g2, j * 11, none⟩ = some (.int .i64 y.f0.f0) := hcell 0 _ rfl
    have m1 := hcell 1 _ rfl
    have m2 := hcell 2 _ rfl
    have m3 := hcell 3 _ rfl
    have m4 := hcell 4 _ rfl
    have m5 := hcell 5 _ rfl
    have m6 := hcell 6 _ rfl
    have m7 := hcell 7 _ rfl
    have m8 := hcell 8 _ rfl
    have m9 := hcell 9 _ rfl
    have m10 := hcell 10 _ rfl
    have hm0 : (0 : Int) ≤ (j : Int) := by omega
    have hm1 : (j : Int) < (s.f2.length : Int) := by omega
    have HY := hid hy
    have R3 := hid r3
    have R4 := hid r4
    have hYE := hid (HE.out y (List.mem_iff_getElem?.2 ⟨j, hy⟩))
    have F1 := hid ((Fr.refl [] wr).alloc (.cells #[.int .i64 y.f0.f0, .string y.f0.f1, .string y.f0.f2, .slice A3 y.f0.f3.length c3, .slice A4 y.f0.f4.length c4, .int .i64 y.f0.f5, .int .i64 y.f0.f6, .int .i64 y.f0.f7, .int .i64 y.f0.f8, .int .i64 y.f1, .int .i64 y.f2] 64))
    have CALL := hid (list1_any y A3 c3 A4 c4 (wr.alloc (.cells #[.int .i64 y.f0.f0, .string y.f0.f1, .string y.f0.f2, .slice A3 y.f0.f3.length c3, .slice A4 y.f0.f4.length c4, .int .i64 y.f0.f5, .int .i64 y.f0.f6, .int .i64 y.f0.f7, .int .i64 y.f0.f8, .int .i64 y.f1, .int .i64 y.f2] 64)))
    obtain ⟨pb, hpb⟩ : ∃ pb, pb = P y := ⟨_, rfl⟩
    have HPB := hid hpb
    have HPB2 := hid (show pb = (y.f0.f8 == 0) by rw [HPB.out, HP.out])
    rw [← HPB2.out] at CALL
    unfold entV at CALL
    clear hcell r3 r4 hpb eA3 hy HPB2
    cases pb with
    | false =>
     go_wp2_with (go_at_call 31; refine CALL.out.mono ?_; rintro e w2 ⟨rfl, f2⟩; have F2 := hid (HF.out.then (F1.out.then f2)); have G2 := hid (F1.out.then f2); clear f2)
     go_roundw
     case rel => exact ⟨j + 1, by go_num, by omega, by rw [picked_no HY.out HPB.out.symm]; exact R_fr0 HR2.out G2.out, F2.out, HO.out⟩
     case measure => simp [intOf]; omega
    | true =>
     obtain ⟨T, hT⟩ : ∃ T, T = picked P (s.f2.take j) := ⟨_, rfl⟩
     have hR := HR2.out
     rw [← hT] at hR
     have hTl : T.length ≤ 4000 := by rw [hT]; exact Nat.le_trans (picked_len _ _) (by simp; omega)
     have HT2 := hid hT
     obtain ⟨A8, c8, rfl⟩ := Kd.R_slice hR
     have HRT := hid hR
     clear hR hT
     go_wp2_with (first
      | ((with_reducible refine gate_dst (N := 38) rfl ?_); refine step_append (v := .slice A8 T.length c8) (y := .slice (some ⟨w4.heap.size, 0, none⟩) 1 1) (v1 := .slice A9 (T.length + 1) c9) (w1 := w5) rfl (.tmp 34) (.tmp 37) 37 rfl rfl rfl HRUN.out ?_)
      | (go_at_call 31; refine CALL.out.mono ?_; rintro e w2 ⟨rfl, f2⟩; have F2 := hid (HF.out.then (F1.out.then f2)); have G2 := hid (F1.out.then f2); have B2 := f2.blk (heap_alloc_new wr _) (by simp); have n0 := cell_of_row w2 wr.heap.size 0 _ _ _ B2; have n1 := cell_of_row w2 wr.heap.size 1 _ _ _ B2; have n2 := cell_of_row w2 wr.heap.size 2 _ _ _ B2; have n3 := cell_of_row w2 wr.heap.size 3 _ _ _ B2; have n4 := cell_of_row w2 wr.heap.size 4 _ _ _ B2; have n5 := cell_of_row w2 wr.heap.size 5 _ _ _ B2; have n6 := cell_of_row w2 wr.heap.size 6 _ _ _ B2; have n7 := cell_of_row w2 wr.heap.size 7 _ _ _ B2; have n8 := cell_of_row w2 wr.heap.size 8 _ _ _ B2; have n9 := cell_of_row w2 wr.heap.size 9 _ _ _ B2; have n10 := cell_of_row w2 wr.heap.size 10 _ _ _ B2; simp at n0 n1 n2 n3 n4 n5 n6 n7 n8 n9 n10; have COP := hid (copied_any y A3 c3 A4 c4 w2 (Kd.C_below R3.out G2.out.below0) (Kd.C_below R4.out G2.out.below0) hYE.out.1 hYE.out.2); unfold entV at COP; clear B2 f2)
      | (go_at_call 39; refine COP.out.mono ?_; rintro e w4 ⟨A5, c5, A7, c7, rfl, r5, r7, f4⟩; obtain ⟨A9, c9, w5, hrun, r9, g9, a9⟩ := api_append (R_fr0 HRT.out (G2.out.then f4)) (by omega) y.f0 _ _ r5 r7; obtain ⟨f9, o9⟩ := grow_own (F2.out.then f4) HO.out g9 a9; have HRUN := hid hrun; have R9 := hid r9; have F9 := hid f9; have O9 := hid o9; clear r5 r7 f4 hrun r9 g9 a9 f9 o9))
     go_roundw
     case rel => exact ⟨j + 1, by go_num, by omega, by rw [picked_yes HY.out HPB.out.symm, ← HT2.out]; exact R9.out, F9.out, O9.out⟩
     case measure => simp [intOf]; omega
   ·obtain rfl : j = s.f2.length := by omega
    have hr := HR2.out
    rw [List.take_length] at hr
    have HR3 := hid hr
    clear hr
    go_wp2
    go_ret2
    exact Found.mk HS.out HR3.out HF.out HO.out
def isThere (y : EN) : Bool := y.f0.f8 == 0
def isAny (_ : EN) : Bool := true
def listBy (ss : List ST) (k : Int) : List AE × Int := someBy isThere ss k
set_option maxRecDepth 100000 in
theorem list_any (cb : Nat) (v : Value) (ss : List ST) (k : Int) (w : World) (h : CatAt w cb v ss) (hE : CatOk ss) :
  Calls Try.prog 12 #[.pointer (some ⟨cb, 0, none⟩), .int .i64 k] w (Listed (listBy ss k) w) := by
 have HC : Hid (Calls Try.prog 30 #[.pointer (some ⟨cb, 0, none⟩), .int .i64 k, .func (.func 31) #[] #[]] w (Listed (listBy ss k) w)) := some_list cb v ss k w h hE
 generalize listBy ss k = r at HC ⊢
 clear h hE
 go_enter Try.func12, Try.ntmps12
 go_wp2_with (go_at_call 30; refine HC.out.mono ?_; rintro e w1 ⟨u, rfl, hr, hf, ho⟩; have HR := hid hr; have HF := hid hf; have HO := hid ho; clear hr hf ho)
 go_ret2
 exact ⟨u, rfl, HR.out, HF.out, HO.out⟩
end Go.Proofs.Ytcfgcmjnailndaa
