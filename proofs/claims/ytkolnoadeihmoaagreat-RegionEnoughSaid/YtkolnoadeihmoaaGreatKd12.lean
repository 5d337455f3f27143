/-
  Catalog: the walk of done.
  Catalog: Force.
-/
import Derived.Shelf.Abstract
import Derived.StillTailTactics
import Derived.Test.YtkolnoadeihmoaaGreatKd11
namespace Go.Proofs.YtkolnoadeihmoaaGreat
open Go.RowKit Go.Shelf Go.Proofs.YtkolnoadeihmoaaGreatW.PrintWords
def DoneTo (w0 : World) (db : Nat) (tv : Value) (d : Dr) (r : Int × List EN) (e : Ending) (w' : World) : Prop := e = .returned (.int .i64 r.1) ∧ Doing w0 db tv d r.2 w'
theorem look_at {W : World} {s : ByteArray} {v : Value} (h : rowOf s = some v) : (Instr.lookup 200 (.map (some W.heap.size)) (.string s) false).run Tryz.prog (W.alloc (.map deedRows 7)) = .ok v (W.alloc (.map deedRows 7)) := by
  have hf := find_row s
  rw [h] at hf
  exact run_look_yes (P := Tryz.prog) (W.alloc (.map deedRows 7)) _ _ _ W.heap.size deedRows 7 _ s v false Tryz.underlying200 Tryz.underlying9 (MapKept.heap_alloc W _).1 hf
theorem deed_call (db : Nat) (tv ev : Value) (d : Dr) (l : List EN) (x : DE) (A4 : Option Addr) (c4 : Nat) (A6 : Option Addr) (c6 : Nat) (w : World) (h : DraftAt w db tv ev d l) (ok : DeedOk x) (r4 : kC.C w A4 x.f4.length x.f4) (r6 : kI.C w A6 x.f6.length x.f6) (hl : l.length < 1000000) :
    ∃ q1 q2 q3 q4 q5 q6 fn, rowOf x.f0 = some (dRow q1 q2 q3 q4 q5 q6 fn) ∧ Enters Tryz.prog fn ∧ Hid (Calls Tryz.prog fn #[.pointer (some ⟨db, 0, none⟩), deedV x A4 c4 A6 c6] w (Deeded db tv ev d (deedBy d l x) w)) := by
  rcases op_cases ok.op with ho | ho | ho | ho | ho | ho | ho
  · exact ⟨true, true, false, false, true, true, 188, by rw [ho]; rfl, enters_of Tryz.func188 (by kernel_rfl) rfl, by rw [by_create ho]; exact create_any db tv ev d l x A4 c4 A6 c6 w h r4 ok.l4 hl⟩
  · exact ⟨false, false, false, false, true, true, 189, by rw [ho]; rfl, enters_of Tryz.func189 (by kernel_rfl) rfl, by rw [by_drop ho]; exact drop_any db tv ev d l x A4 c4 A6 c6 w h⟩
  · exact ⟨false, false, false, false, true, true, 190, by rw [ho]; rfl, enters_of Tryz.func190 (by kernel_rfl) rfl, by rw [by_undrop ho]; exact undrop_any db tv ev d l x A4 c4 A6 c6 w h⟩
  · exact ⟨false, false, false, true, true, true, 191, by rw [ho]; rfl, enters_of Tryz.func191 (by kernel_rfl) rfl, by rw [by_rename ho]; exact rename_any db tv ev d l x A4 c4 A6 c6 w h⟩
  · exact ⟨false, false, false, true, false, true, 192, by rw [ho]; rfl, enters_of Tryz.func192 (by kernel_rfl) rfl, by rw [by_swap ho]; exact swap_any db tv ev d l x A4 c4 A6 c6 w h⟩
  · exact ⟨true, false, true, false, false, true, 193, by rw [ho]; rfl, enters_of Tryz.func193 (by kernel_rfl) rfl, by rw [by_lay ho]; exact lay_any db tv ev d l x A4 c4 A6 c6 w h r4 ok.l4 r6 ok.l6⟩
  · exact ⟨false, true, false, false, true, true, 194, by rw [ho]; rfl, enters_of Tryz.func194 (by kernel_rfl) rfl, by rw [by_keep ho]; exact keep_any db tv ev d l x A4 c4 A6 c6 w h⟩
set_option maxRecDepth 100000 in
set_option maxHeartbeats 8000000 in
theorem done_any (w0 : World) (db : Nat) (tv : Value) (d : Dr) (es : List EN) (A : Option Addr) (c : Nat) (xs : List DE) (w : World) (hC : Kd.C k135 w0 A xs.length xs) (hok : ∀ y ∈ xs, DeedOk y) (hl : es.length + xs.length ≤ 900000) (h : Doing w0 db tv d es w) :
    Calls Tryz.prog 251 #[.pointer (some ⟨db, 0, none⟩), .slice A xs.length c] w (DoneTo w0 db tv d (doneBy d es xs)) := by
  have H := hid h
  have HC := hid hC
  have HK := hid hok
  clear h hC hok
  go_enter Tryz.func251, Tryz.ntmps251
  go_wp2
  go_loopw [10] (fun i wr => ∃ (k : Nat) (l : List EN), i = .int .i64 k ∧ k ≤ xs.length ∧ doneK d es xs k = some l ∧ Doing w0 db tv d l wr) (fun i _ => xs.length - (intOf i).toNat)
  case atStart => exact ⟨0, es, rfl, Nat.zero_le _, rfl, H.out⟩
  case round =>
    obtain ⟨k, l, rfl, hk, hd, hD⟩ := hrel
    have HDK := hid hd
    have hll := doneK_len d es xs hd
    obtain ⟨ev, hdr, hfr, hdb, hev⟩ := hD
    have HD := hid hdr
    have HF := hid hfr
    have HE := hid hev
    clear hd hdr hfr hev
    by_cases hlt : k < xs.length
    · obtain ⟨x, hx⟩ : ∃ x, xs[k]? = some x := ⟨_, List.getElem?_eq_getElem hlt⟩
      obtain ⟨b, off, A4, c4, A6, c6, eA, hat⟩ := deeds_at HC.out hx
      have hxk := okl_tail HK.out hx
      subst eA
      have HAT := hid hat
      obtain ⟨d0, d1, d2, d3, d4, d5, d6, l4, r4, l6, r6⟩ := hat.fr HF.out
      have HX := hid hx
      have hm0 : (0 : Int) ≤ (k : Int) := by omega
      have hm1 : (k : Int) < (xs.length : Int) := by omega
      have R4 := hid r4
      have R6 := hid r6
      have XK := hid hxk
      have hNext := hid (fun (hz : (deedBy d l x).1 = 0) => show doneK d es xs (k + 1) = some (deedBy d l x).2 by
        show (match doneK d es xs k with | none => none | some l => match xs[k]? with | none => none | some x => if (deedBy d l x).1 = 0 then some (deedBy d l x).2 else none) = _
        rw [HDK.out]; simp only [HX.out]; rw [if_pos hz])
      have hStop := hid (fun (hz : (deedBy d l x).1 ≠ 0) => show doneBy d es xs = deedBy d l x by
        rw [doneK_by d es xs HDK.out, List.drop_eq_getElem_cons hlt, show xs[k] = x from (List.getElem?_eq_some_iff.1 HX.out).2, doneBy_cons, if_neg hz])
      clear hat r4 r6 hx hxk
      have FB := hid ((Fr.refl [] wr).alloc (.cells #[.string x.f0, .string x.f1, .string x.f2, .string x.f3, .slice A4 x.f4.length c4, .int .i64 x.f5, .slice A6 x.f6.length c6] 135))
      have FM := hid ((FB.out.alloc (.map deedRows 7)).drew)
      obtain ⟨q1, q2, q3, q4, q5, q6, fn, hrow, hen, hcall⟩ := deed_call db tv ev d l x A4 c4 A6 c6 (((wr.alloc (.cells #[.string x.f0, .string x.f1, .string x.f2, .string x.f3, .slice A4 x.f4.length c4, .int .i64 x.f5, .slice A6 x.f6.length c6] 135)).alloc (.map deedRows 7)).drew) (HD.out.fr0 FM.out) XK.out (Kd.C_below R4.out FM.out.below0) (Kd.C_below R6.out FM.out.below0) (by omega)
      have hen2 : ∀ args W, (callFunc fn args).run Tryz.prog W = .ok (.enter fn args) W := hen
      have hlook : (Instr.lookup 200 (.map (some (wr.heap.size + 1))) (.string x.f0) false).run Tryz.prog (((wr.alloc (.cells #[.string x.f0, .string x.f1, .string x.f2, .string x.f3, .slice A4 x.f4.length c4, .int .i64 x.f5, .slice A6 x.f6.length c6] 135)).alloc (.map deedRows 7)).drew) = .ok (.agg #[.bool q1, .bool q2, .bool q3, .bool q4, .bool q5, .bool q6, .func (.func fn) #[] #[]]) (((wr.alloc (.cells #[.string x.f0, .string x.f1, .string x.f2, .string x.f3, .slice A4 x.f4.length c4, .int .i64 x.f5, .slice A6 x.f6.length c6] 135)).alloc (.map deedRows 7)).drew) := by
        have := look_at (W := (wr.alloc (.cells #[.string x.f0, .string x.f1, .string x.f2, .string x.f3, .slice A4 x.f4.length c4, .int .i64 x.f5, .slice A6 x.f6.length c6] 135)).drew) hrow
        simp only [World.alloc_drew, World.size_drew, World.size_alloc, dRow] at this
        exact this
      have hfld : ∀ W : World, (Instr.field 198 (.agg #[.bool q1, .bool q2, .bool q3, .bool q4, .bool q5, .bool q6, .func (.func fn) #[] #[]]) 6).run Tryz.prog W = .ok (.func (.func fn) #[] #[]) W := fun _ => by kernel_rfl
      unfold deedV at hcall
      clear hrow hen d0 d1 d2 d3 d4 d5 d6
      obtain ⟨d0, d1, d2, d3, d4, d5, d6, -, -, -, -⟩ := HAT.out.fr HF.out
      go_wp2_with fail
      refine (fun (KEY : Hid (∀ w2, Doing w0 db tv d (deedBy d l x).2 w2 → (?KEYP : World → Prop) w2)) => ?main) ?key
      case main =>
        go_region_with (first
          | (go_at_call 135; refine (deeds_any _).mono ?_; rintro e w' ⟨rfl, rfl⟩)
          | ((with_reducible refine hcall.out.mono ?_); intro e w2 hq; obtain ⟨rfl, hq2⟩ := Doing.next (HD.out.fr0 FM.out) (HF.out.then FM.out) hdb HE.out hq; clear hq; have HQ := hid hq2; clear hq2))
        all_goals exact KEY.out _ HQ.out
      refine hid (fun w2 hq => ?_)
      have HQ := hid hq
      clear hq hlook hfld hen2 hcall d0 d1 d2 d3 d4 d5 d6
      obtain ⟨er, her⟩ : ∃ er, (deedBy d l x).1 = er := ⟨_, rfl⟩
      rw [her]
      by_cases he : er = 0
      · have heb : (er == 0) = true := by simp [he]
        have hn := hid (hNext.out (by rw [her]; exact he))
        clear he her hStop hNext
        go_wp2
        go_roundw
        case rel => exact ⟨k + 1, _, by go_num, by omega, hn.out, HQ.out⟩
        case measure => simp [intOf]; omega
      · have heb : (er == 0) = false := by simp [he]
        have hs := hid (hStop.out (by rw [her]; exact he))
        have hr := hid her
        clear he her hStop hNext
        go_wp2
        go_ret
        refine ⟨by rw [hs.out, hr.out]; rfl, by rw [hs.out]; exact HQ.out⟩
    · obtain rfl : k = xs.length := by omega
      have hfin := hid (show doneBy d es xs = if 4000 < l.length then (2, l) else (0, l) by rw [doneK_by d es xs HDK.out, List.drop_length, doneBy_nil])
      obtain ⟨A2, c2, rfl, -⟩ := HD.out.open
      have c3 := HD.out.c3
      have hl2 : (l.length : Int) ≤ 900000 := by omega
      by_cases hb : 4000 < l.length
      · have hb2 : (4000 : Int) < (l.length : Int) := by omega
        have hfin2 := hid (show doneBy d es xs = (2, l) by rw [hfin.out, if_pos hb])
        go_wp2
        go_ret
        rw [hfin2.out]
        exact ⟨rfl, _, HD.out, HF.out, hdb, HE.out⟩
      · have hb2 : ¬ (4000 : Int) < (l.length : Int) := by omega
        have hfin2 := hid (show doneBy d es xs = (0, l) by rw [hfin.out, if_neg hb])
        go_wp2
        go_ret
        rw [hfin2.out]
        exact ⟨rfl, _, HD.out, HF.out, hdb, HE.out⟩
theorem last_at {ss : List ST} (h : 0 < ss.length) : ss[ss.length - 1]? = some (lastOf ss) := by
  unfold lastOf
  rw [List.getLast?_eq_getElem?]
  rw [List.getElem?_eq_getElem (by omega)]
  rfl
set_option maxRecDepth 100000 in
theorem checkTime_any (cb : Nat) (v : Value) (ss : List ST) (time : Int) (w : World) (h : CatAt w cb v ss) :
    Calls Tryz.prog 249 #[.pointer (some ⟨cb, 0, none⟩), .int .i64 time] w fun e w' => e = .returned (.int .i64 (checkTime ss time)) ∧ ∃ q, w' = w.drewN q := by
  obtain ⟨g, c, rfl, hgl, hlc⟩ := h.form
  obtain ⟨A1, c1, v2, q0, -, -, -, -, -, -⟩ := states_at h.row (last_at h.pos)
  have c0 := h.c0
  have hsm := h.small
  have hpos := h.pos
  have hwr : IntKind.i64.wrap ((ss.length : Int) - 1) = ((ss.length - 1 : Nat) : Int) := by rw [IntWalk.i64_in _ (by omega)]; omega
  have hlt : ((ss.length - 1 : Nat) : Int) < (ss.length : Int) := by omega
  have hle : (0 : Int) ≤ ((ss.length - 1 : Nat) : Int) := by omega
  generalize hN : ss.length - 1 = N at q0 hwr hlt hle
  clear h hN
  by_cases h1 : time < 0
  · have h1b : decide (time < 0) = true := by simp [h1]
    have e0 := hid (show checkTime ss time = 9 by unfold checkTime; rw [if_pos (.inl h1)])
    clear h1
    go_enter Tryz.func249, Tryz.ntmps249
    go_wp2_with fail
    go_quiet (fail)
    go_wp2
    go_ret
    rw [e0.out]
    exact ⟨rfl, _, rfl⟩
  · have h1b : decide (time < 0) = false := by simp [h1]
    by_cases h2 : 1000000000 < time
    · have h2b : decide (1000000000 < time) = true := by simp [h2]
      have e0 := hid (show checkTime ss time = 9 by unfold checkTime; rw [if_pos (.inr (.inl h2))])
      clear h1 h2
      go_enter Tryz.func249, Tryz.ntmps249
      go_wp2_with fail
      go_quiet (fail)
      go_wp2
      go_ret
      rw [e0.out]
      exact ⟨rfl, _, rfl⟩
    · have h2b : decide (1000000000 < time) = false := by simp [h2]
      have e0 := hid (show checkTime ss time = if time < (lastOf ss).f0 then 9 else 0 by unfold checkTime; simp [h1, h2])
      clear h1 h2
      by_cases h3 : time < (lastOf ss).f0
      · have e1 := hid (e0.out.trans (if_pos h3))
        have h3b : decide (time < (lastOf ss).f0) = true := by simp [h3]
        clear h3 e0
        go_enter Tryz.func249, Tryz.ntmps249
        go_wp2_with fail
        go_quiet (fail)
        go_wp2
        go_ret
        rw [e1.out]
        exact ⟨rfl, _, rfl⟩
      · have e1 := hid (e0.out.trans (if_neg h3))
        have h3b : decide (time < (lastOf ss).f0) = false := by simp [h3]
        clear h3 e0
        go_enter Tryz.func249, Tryz.ntmps249
        go_wp2_with fail
        go_quiet (fail)
        go_wp2
        go_ret
        rw [e1.out]
        exact ⟨rfl, _, rfl⟩
theorem state_append {w : World} {cb : Nat} {v : Value} {ss : List ST} (C : CatAt w cb v ss) (hl : ss.length ≤ 4000) (s : ST) (v1 v2 : Value) (h1 : kD.R 135 w 0 (fun _ => True) v1 s.f1) (h2 : kE.R 278 w 0 (fun _ => True) v2 s.f2) (h3 : s.f2 = [] → v2 = .slice none 0 0) (h4 : s.f2.length ≤ 4000) :
    ∃ A1 c1 w1, (Builtin.append_ #[184, 184] 184 #[v, .slice (some ⟨w.heap.size, 0, none⟩) 1 1]).run Tryz.prog (w.alloc (.cells #[.int .i64 s.f0, v1, v2] 183)) = .ok (.slice A1 (ss.length + 1) c1) w1 ∧
      CatAt (w1.setCell ⟨cb, 0, none⟩ (.slice A1 (ss.length + 1) c1)) cb (.slice A1 (ss.length + 1) c1) (ss ++ [s]) ∧ Fr (cb :: v.ownBlock.toList) w (w1.setCell ⟨cb, 0, none⟩ (.slice A1 (ss.length + 1) c1)) ∧ (∀ k, (Value.slice A1 (ss.length + 1) c1).ownBlock = some k → v.ownBlock = some k ∨ w.heap.size ≤ k) ∧ w1.heap[cb]? = some (.cells #[v] 186 (0, 0)) := by
  have h2' : kE.R 278 w 0 (fun k => some k ≠ v.ownBlock) v2 s.f2 := by
    refine Kd.R_mono (Kd.R_bound h2) (fun j hj => ?_)
    obtain ⟨-, -, -, q, hq, cells, hc⟩ := hj
    intro e
    obtain ⟨cells', hc'⟩ := Kd.R_typed C.row j e.symm
    rw [hc] at hc'
    injection hc' with hc'; injection hc' with _ hc'
    rcases kE_E hq with h | h | h <;> rw [h] at hc' <;> exact absurd hc' (by decide)
  obtain ⟨u, w1, hrun, r5, g5, a5⟩ := R_run (P := Tryz.prog) kS (W := w) 184 184 183 _ 56 Tryz.underlying184 info183 rfl (by decide) (by decide) v ss s [.int .i64 s.f0, v1, v2] (fun k => some k ≠ v.ownBlock)
    (kS_mk s (M_ownR (ros_of_R h1) C.row (by decide)) h2' h3) (fun _ h => h) C.row (by omega)
  obtain ⟨A1, c1, e⟩ := Kd.R_slice r5
  rw [List.length_append, List.length_singleton] at e
  subst e
  have hne : ∀ k, v.ownBlock = some k → k ≠ cb := by
    intro k hk
    obtain ⟨cells, hc⟩ := Kd.R_typed C.row k hk
    rintro rfl
    rw [C.blk] at hc
    injection hc with hc; injection hc with _ hc; exact absurd hc (by decide)
  have f2 : Fr v.ownBlock.toList w w1 := (Fr.refl _ w).grown g5 (fun k hk => .inl (by simp [hk]))
  have hb : w1.heap[cb]? = some (.cells #[v] 186 (0, 0)) := f2.blk C.blk (by
    cases ho : v.ownBlock with
    | none => simp
    | some k => simp; exact Ne.symm (hne k ho))
  have f3 : Fr [cb] w1 (w1.setCell ⟨cb, 0, none⟩ (.slice A1 (ss.length + 1) c1)) := (Fr.refl _ _).setCell (.inl (by simp)) _
  refine ⟨A1, c1, w1, hrun, ⟨blk_setCell hb 0 _, ?_, by simp, by simp; omega, fun x hx => ?_⟩, ?_, fun k hk => ?_, hb⟩
  · refine R_fr r5 f3 (NoT.one hb (fun q hq => ?_))
    have := kS_E hq
    simp at this
    rcases this with h | h | h | h | h <;> rw [h] <;> decide
  · rcases List.mem_append.1 hx with h | h
    · exact C.ents x h
    · rw [List.mem_singleton.1 h]; exact h4
  · exact (f2.mono (S' := cb :: v.ownBlock.toList) (fun x hx => .inl (by simp; exact .inr (by simpa using hx)))).trans f3 (fun z hz => .inl (by simp at hz; simp [hz]))
  · rcases a5 with a | ⟨b, hb', hle⟩
    · exact .inl (by rw [← a]; exact hk)
    · rw [hb'] at hk; cases hk; exact .inr hle
def Forced (cb : Nat) (v : Value) (r : (Int × Int) × List ST) (w : World) (e : Ending) (w' : World) : Prop :=
  e = .returned (.tuple #[.int .i64 r.1.1, .int .i64 r.1.2]) ∧ ∃ v', CatAt w' cb v' r.2 ∧ Fr (cb :: v.ownBlock.toList) w w' ∧ ∀ k, v'.ownBlock = some k → v.ownBlock = some k ∨ w.heap.size ≤ k
theorem Forced.same {cb : Nat} {v : Value} {ss : List ST} {n err : Int} {w w' : World} (h : CatAt w cb v ss) (f : Fr [] w w') : Forced cb v ((n, err), ss) w (.returned (.tuple #[.int .i64 n, .int .i64 err])) w' :=
  ⟨rfl, v, h.fr0 f, f.mono (by simp), fun k hk => .inl hk⟩
theorem doneBy_small (d : Dr) : ∀ (xs : List DE) (es : List EN), (doneBy d es xs).1 = 0 → (doneBy d es xs).2.length ≤ 4000
  | [], es, h => by
    rw [doneBy_nil] at h ⊢
    split at h
    · simp at h
    · rename_i h2; rw [if_neg h2]; simp; omega
  | x :: r, es, h => by
    rw [doneBy_cons] at h ⊢
    split at h
    · rename_i h2; rw [if_pos h2]; exact doneBy_small d r _ h
    · rename_i h2; exact absurd h h2
set_option maxRecDepth 100000 in
set_option maxHeartbeats 4000000 in
theorem force_any (cb : Nat) (v : Value) (ss : List ST) (A : Option Addr) (c : Nat) (xs : List DE) (time : Int) (w : World) (h : CatAt w cb v ss) (hC : Kd.C k135 w A xs.length xs) (hok : ∀ y ∈ xs, DeedOk y) (hl : xs.length ≤ 100000) :
    Calls Tryz.prog 242 #[.pointer (some ⟨cb, 0, none⟩), .slice A xs.length c, .int .i64 time] w (Forced cb v (force ss xs time) w) := by
  have cT := hid (checkTime_any cb v ss time w h)
  obtain ⟨g, cg, hv, hgl, hlc⟩ := h.form
  subst hv
  have c0 := h.c0
  have hsm := h.small
  have hpos := h.pos
  have H := hid h
  have HC := hid hC
  have HK := hid hok
  clear h hC hok
  by_cases ht : checkTime ss time = 0
  · rw [ht] at cT
    by_cases hn : 4000 < ss.length
    · have e0 := hid (show force ss xs time = ((0, 2), ss) by unfold force; simp [ht, hn])
      have hnb : (4000 : Int) < (ss.length : Int) := by omega
      clear ht hn
      go_enter Tryz.func242, Tryz.ntmps242
      go_wp2_with (go_at_call 249; refine cT.out.mono ?_; rintro e w1 ⟨rfl, q, rfl⟩)
      go_ret2
      rw [e0.out]
      exact Forced.same H.out ((Fr.refl _ _).drewN _)
    · have hnb : ¬ (4000 : Int) < (ss.length : Int) := by omega
      have hn4 : ss.length ≤ 4000 := by omega
      have hwr : IntKind.i64.wrap ((ss.length : Int) - 1) = ((ss.length - 1 : Nat) : Int) := by rw [IntWalk.i64_in _ (by omega)]; omega
      have hdl : (lastOf ss).f2.length ≤ 4000 := H.out.ents _ (List.mem_iff_getElem?.2 ⟨_, last_at hpos⟩)
      have CD := hid (fun w1 (f : Fr [] w w1) => draft_any cb (.slice (some ⟨g, 0, none⟩) ss.length cg) ss (ss.length - 1) ss.length (Nat.le_refl _) (lastOf ss) (last_at hpos) time w1 (H.out.fr0 f))
      have hT : (ss.take ss.length).map (·.f0) = ss.map (·.f0) := by rw [List.take_length]
      obtain ⟨dr, hdr⟩ : ∃ dr : Dr, dr = ⟨ss.length, time, ss.map (·.f0)⟩ := ⟨_, rfl⟩
      obtain ⟨p, hp⟩ : ∃ p, doneBy dr (lastOf ss).f2 xs = p := ⟨_, rfl⟩
      have e0 := hid (show force ss xs time = if p.1 ≠ 0 then ((0, p.1), ss) else (((ss.length : Int), 0), ss ++ [⟨time, xs, p.2⟩]) by
        unfold force; simp only [ht, hn, if_neg (show ¬ ((0 : Int) ≠ 0) from fun h => h rfl), if_false, ← hdr, hp])
      have HP := hid hp
      have HDR := hid hdr
      have HTT := hid hT
      clear ht hn hp hdr hT
      go_enter Tryz.func242, Tryz.ntmps242
      go_wp2_with (go_at_call 249; refine cT.out.mono ?_; rintro e w1 ⟨rfl, q, hq⟩; have F1 : Hid (Fr [] w w1) := (by rw [hq]; exact (Fr.refl _ _).drewN _); clear hq; have c01 := F1.out.cell0 c0)
      have c0' := hid c0
      clear c0
      go_still_tail 13, (by kernel_rfl)
      change wpList _ _ _ _ _ w1.drew
      go_wp2_with (first
        | (go_at_call 250; refine (CD.out _ F1.out.drew).mono ?_; rintro e w2 ⟨db, tv, ev, rfl, hdd, hf, hdb, hev⟩; have DD := hid hdd; have F2 := hid (F1.out.drew.then hf); have HDB := hid hdb; have HEV := hid hev; clear hdd hf hdb hev))
      have hT2 := HTT.out
      have hdoing : Doing w db tv dr (lastOf ss).f2 w2 := by
        have hd := DD.out
        rw [hT2, ← HDR.out] at hd
        have s1 := F1.out.size
        refine ⟨ev, hd, F2.out, ?_, fun k hk => ?_⟩
        · have := HDB.out; simp at this; omega
        · have := HEV.out k hk; simp at this; omega
      have CDn := done_any w db tv dr (lastOf ss).f2 A c xs w2 HC.out HK.out (by omega) hdoing
      rw [HP.out] at CDn
      have CDN := hid CDn
      clear hT2 hdoing CDn
      refine CDN.out.mono ?_
      rintro e w3 ⟨rfl, hq⟩
      obtain ⟨ev3, hd3, hf3, hdb3, hev3⟩ := hq
      obtain ⟨A8, c8, rfl⟩ := Kd.R_slice hd3.ents
      have c03 := hf3.cell0 c0'.out
      have d33 := hd3.c3
      have D3 := hid hd3
      have F3 := hid hf3
      obtain ⟨p1, p2⟩ := p
      clear hd3 hf3 hev3 hdb3 c01
      by_cases he : p1 = 0
      · subst he
        have e1 := hid (show force ss xs time = (((ss.length : Int), 0), ss ++ [⟨time, xs, p2⟩]) by rw [e0.out]; rfl)
        have hp4 : p2.length ≤ 4000 := by
          have := doneBy_small dr xs (lastOf ss).f2 (by rw [HP.out])
          rwa [HP.out] at this
        clear e0
        go_wp2_with fail
        go_region_law (first
          | (refine step_run (v := .slice (some ⟨g, 0, none⟩) ss.length cg) (y := .slice (some ⟨w4.heap.size, 0, none⟩) 1 1) (v1 := .slice A10 (ss.length + 1) c10) (w1 := w5) (by rfl) (.tmp 47) (.tmp 56) 184 rfl rfl rfl HRUN.out ?_)
          | (go_simp; go_at_call 87; refine (copyDeeds_any A c xs _ (Kd.C_below HC.out F3.out.drew.below0) HK.out hl).mono ?_; rintro e w4 ⟨u, rfl, r4, f4, o4⟩; obtain ⟨A9, c9, rfl⟩ := Kd.R_slice r4; have F4 := hid (F3.out.drew.then f4); have c04 := f4.cell0 c03; have d34 := f4.cell0 d33; have hcb4 : cb < w4.heap.size := cell_block c04; have hcb5 : cb ≠ w4.heap.size := Nat.ne_of_lt hcb4; obtain ⟨A10, c10, w5, hrun, hcat, hfr, hown, hblk⟩ := state_append (H.out.fr0 F4.out) hn4 ⟨time, xs, p2⟩ _ _ r4 ((D3.out.fr0 (Fr.refl [] _).drew).fr0 f4).ents (D3.out.nil) hp4; have HRUN := hid hrun; have HCAT := hid hcat; have HFR := hid hfr; have HOWN := hid hown; have k5 := cell_of_row w5 cb 0 _ _ _ hblk; have z5 := blk_free hblk 0; simp at k5; clear r4 f4 o4 hrun hcat hfr hown hblk))
        all_goals go_wp2
        all_goals go_ret2
        all_goals rw [e1.out]
        all_goals exact ⟨rfl, _, HCAT.out, (F4.out.mono (by simp)).trans HFR.out (fun z hz => .inl hz), fun k hk => (HOWN.out k hk).imp id (fun h => by have := F4.out.size; omega)⟩
      · have e1 := hid (show force ss xs time = ((0, p1), ss) by rw [e0.out]; exact if_pos he)
        have heb : (p1 == 0) = false := by simp [he]
        clear he e0
        go_wp2
        go_ret2
        rw [e1.out]
        exact Forced.same H.out F3.out
  · have hte : checkTime ss time = 9 := by
      unfold checkTime at ht ⊢
      split
      · rfl
      · rename_i h; rw [if_neg h] at ht; exact absurd rfl ht
    have e0 := hid (show force ss xs time = ((0, 9), ss) by unfold force; rw [hte]; rfl)
    rw [hte] at cT
    clear ht hte
    go_enter Tryz.func242, Tryz.ntmps242
    go_wp2_with (go_at_call 249; refine cT.out.mono ?_; rintro e w1 ⟨rfl, q, rfl⟩)
    go_ret2
    rw [e0.out]
    exact Forced.same H.out ((Fr.refl _ _).drewN _)
end Go.Proofs.YtkolnoadeihmoaaGreat
