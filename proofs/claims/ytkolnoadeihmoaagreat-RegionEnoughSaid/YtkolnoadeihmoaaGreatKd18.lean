/-
  Regions: record. (Printed by gen_rk.py.)
  Regions: a region's log, copied.
  Regions made.
  Equal logs are told to be the same.
  Plain: what is acknowledged, call by call.
-/
import Derived.Test.YtkolnoadeihmoaaGreatKd17
namespace Go.Proofs.YtkolnoadeihmoaaGreat
open Go.RowKit Go.Proofs.YtkolnoadeihmoaaGreatW.PrintWords
theorem rec_store {rb mb i : Nat} {us : List (Nat × Value)} {R : RG} {n : ByteArray} {p : RP} {a : Nat × Value} {w : World} (h : RegAt w rb mb us R) (hn : (R.places.map (·.1)).Nodup) (hi : R.places[i]? = some (n, p)) (ha : us[i]? = some a) (hl : p.log.length ≤ 4000) (r : LO × Int) (v0 v2 : Value)
    (h0 : kD.R 135 w 0 (fun _ => True) v0 r.1.f0) (h2 : kB.R 112 w 0 (fun _ => True) v2 r.1.f2) :
    ∃ A1 c1 w1, (Builtin.append_ #[93, 93] 93 #[a.2, .slice (some ⟨w.heap.size, 0, none⟩) 1 1]).run Tryz.prog (w.alloc (.cells #[v0, .int .i64 r.1.f1, v2, .int .i64 r.1.f3, .int .i64 r.2] 108)) = .ok (.slice A1 (p.log.length + 1) c1) w1 ∧
      w1.heap[a.1]? = some (.cells #[.bool p.up, a.2] 95 (0, 0)) ∧ RegAt (w1.setCell ⟨a.1, 1, none⟩ (.slice A1 (p.log.length + 1) c1)) rb mb (us.set i (a.1, .slice A1 (p.log.length + 1) c1)) (R.put n { p with log := p.log ++ [r] }) ∧
      Fr (a.1 :: a.2.ownBlock.toList) w (w1.setCell ⟨a.1, 1, none⟩ (.slice A1 (p.log.length + 1) c1)) ∧ (∀ k, (Value.slice A1 (p.log.length + 1) c1).ownBlock = some k → a.2.ownBlock = some k ∨ w.heap.size ≤ k) ∧
      (w1.setCell ⟨a.1, 1, none⟩ (.slice A1 (p.log.length + 1) c1)).heap[a.1]? = some (.cells #[.bool p.up, .slice A1 (p.log.length + 1) c1] 95 (0, 0)) := by
  have P := h.pl i _ a hi ha
  obtain ⟨u, w1, hrun, r5, g5, a5⟩ := R_run (P := Tryz.prog) kRc (W := w) 93 93 108 zRc 72 Tryz.underlying93 infoR rfl (by decide) (by decide) a.2 p.log r [v0, .int .i64 r.1.f1, v2, .int .i64 r.1.f3, .int .i64 r.2] (fun k => some k ≠ a.2.ownBlock)
    (kRc_mk r (M_ownR (ros_of_R h0) P.row (by decide)) (M_ownR (ros_of_R h2) P.row (by decide))) (fun _ h => h) P.row (by omega)
  obtain ⟨A1, c1, e⟩ := Kd.R_slice r5
  rw [List.length_append, List.length_singleton] at e
  subst e
  have f2 : Fr a.2.ownBlock.toList w w1 := (Fr.refl _ w).grown g5 (fun k hk => .inl (by simp [hk]))
  have hb : w1.heap[a.1]? = some (.cells #[.bool p.up, a.2] 95 (0, 0)) := f2.blk P.blk (by
    intro hm
    exact P.own_ne P.blk (by decide) a.1 (by simpa using hm) rfl)
  have ho : ∀ k, (Value.slice A1 (p.log.length + 1) c1).ownBlock = some k → a.2.ownBlock = some k ∨ w.heap.size ≤ k := by
    intro k hk
    rcases a5 with a5 | ⟨b, hb, hle⟩
    · exact .inl (by rw [← a5]; exact hk)
    · rw [hb] at hk; cases hk; exact .inr hle
  obtain ⟨g1, g2⟩ := place_log h hn hi ha f2 hb r5 ho
  refine ⟨A1, c1, w1, hrun, hb, g1, (f2.mono (fun k hk => .inl (List.mem_cons_of_mem _ hk))).trans g2 (fun z hz => .inl (by simp at hz; subst hz; simp)), ho, ?_⟩
  have := blk_setCell hb 1 (.slice A1 (p.log.length + 1) c1)
  simp only [List.setIfInBounds_toArray, List.set_cons_succ, List.set_cons_zero] at this
  exact this
theorem inv0_rec {R : RG} {k : Int} (h : Inv0 R) : Inv0 { R with records := k } := ⟨h.prim, h.need, h.long⟩
set_option maxRecDepth 100000 in
set_option maxHeartbeats 4000000 in
theorem record_any (HV : ValidSays) (rb mb : Nat) (us : List (Nat × Value)) (R : RG) (n : ByteArray) (ep : Int) (x : LO) (A0 : Option Addr) (c0 : Nat) (A2 : Option Addr) (c2 : Nat) (w : World) (h : RegAt w rb mb us R) (hi : Reg.Inv R) (hs : n.size ≤ maxLen) (hpl : R.places.length ≤ 1000)
    (hrec : 0 ≤ R.records ∧ R.records ≤ 1000000) (h0 : ∀ w', Fr [rb] w w' → Kd.C k135 w' A0 x.f0.length x.f0) (h2 : ∀ w', Fr [rb] w w' → kB.C w' A2 x.f2.length x.f2) (hx : LogIn x) :
    Calls Tryz.prog 25 #[.pointer (some ⟨rb, 0, none⟩), .string n, .int .i64 ep, logV x (.slice A0 x.f0.length c0) (.slice A2 x.f2.length c2)] w (Did rb mb us (R.record wordB (logB x) n ep x).2 (.tuple #[.int .i64 (R.record wordB (logB x) n ep x).1.1, .int .i64 (R.record wordB (logB x) n ep x).1.2]) w) := by
  have H := hid h
  have H0 := hid h0
  have H2 := hid h2
  have HVAL := hid (fun w' (f : Fr [] w w') => valid_any HV x A0 c0 A2 c2 w' (h0 w' (f.mono (by simp))) (h2 w' (f.mono (by simp))) hx)
  have F1 := hid ((Fr.refl [] w).alloc (.cells #[.slice A0 x.f0.length c0, .int .i64 x.f1, .slice A2 x.f2.length c2, .int .i64 x.f3] 40))
  have B1 := hid (heap_alloc_new w (.cells #[.slice A0 x.f0.length c0, .int .i64 x.f1, .slice A2 x.f2.length c2, .int .i64 x.f3] 40))
  unfold logV at HVAL ⊢
  unfold Reg.Rg.record
  cases hlb : logB x with
  | false =>
    rw [hlb] at HVAL
    have END : Hid (((0, 1), R) = (((0, 1), R) : (Int × Int) × RG)) := hid rfl
    clear h hi h0 h2 hx HV hlb
    go_enter Tryz.func25, Tryz.ntmps25
    have n0 := F1.out.cell0 H.out.c.1
    go_wp2_with (first
      | (go_at_call 42; refine (none_no rb mb _ n0).mono ?_; rintro e w' ⟨rfl, rfl⟩)
      | (go_at_call 53; refine (HVAL.out _ F1.out).mono ?_; rintro e w2 ⟨rfl, f2⟩; have F2 := hid (F1.out.then f2); clear f2))
    go_ret2
    exact Did.same H.out F2.out
  | true =>
    rw [hlb] at HVAL
    have OK := hid (log_ok hx hlb)
    rw [if_neg (by decide)]
    cases hf : R.find wordB n with
    | mk o er =>
      cases o with
      | none =>
        have HF := hid (fun w' (f : Fr [] w w') => rfind_err rb mb us R n er w' (h.fr0 f) hs hf)
        have he := Reg.find_err hf
        have he' : (er == 0) = false := by simpa using he
        have END : Hid (((0, er), R) = (((0, er), R) : (Int × Int) × RG)) := hid rfl
        dsimp only
        clear h hi hf h0 h2 hx HV hlb
        go_enter Tryz.func25, Tryz.ntmps25
        have n0 := F1.out.cell0 H.out.c.1
        go_wp2_with (first
          | (go_at_call 42; refine (none_no rb mb _ n0).mono ?_; rintro e w' ⟨rfl, rfl⟩)
          | (go_at_call 53; refine (HVAL.out _ F1.out).mono ?_; rintro e w2 ⟨rfl, f2⟩; have F2 := hid (F1.out.then f2); have HFF := hid (HF.out _ F2.out); clear f2)
          | (go_at_call 49; refine HFF.out.mono ?_; rintro e w3 ⟨rfl, f3⟩; have F3 := hid (F2.out.then f3); have R3 := hid (H.out.fr0 F3.out); clear f3))
        go_ret2
        exact Did.same H.out F3.out
      | some p =>
        obtain ⟨rfl, hw, hlk⟩ := Reg.find_some hf
        obtain ⟨i, a, hpi, hai, hl⟩ := rlook_at hlk h.len (rb := rb) (mb := mb)
        have HF := hid (fun w' (f : Fr [] w w') => rfind_yes rb mb us R n w' (h.fr0 f) hs hw a hl)
        have lp : p.log.length ≤ 4000 := hi.long _ (Reg.look_mem hlk)
        have P1 := hid (h.pl i _ a hpi hai)
        have HI := hid hi
        have HLK := hid hlk
        have HN := hid hi.names
        have HPI := hid hpi
        have HA := hid hai
        obtain ⟨A3, c3, e3⟩ := Kd.R_slice P1.out.row
        obtain ⟨a1, a2⟩ := a
        cases e3
        dsimp only
        dsimp only at HF
        clear h hi hf hw hlk hl hpi hai h0 h2 hx HV hlb
        by_cases hup : p.up = false
        · have END : Hid (R.recordAt p n ep x = ((0, 15), R)) := hid (by unfold Reg.Rg.recordAt; rw [if_pos hup])
          go_enter Tryz.func25, Tryz.ntmps25
          have n0 := F1.out.cell0 H.out.c.1
          go_wp2_with (first
            | (go_at_call 42; refine (none_no rb mb _ n0).mono ?_; rintro e w' ⟨rfl, rfl⟩)
            | (go_at_call 53; refine (HVAL.out _ F1.out).mono ?_; rintro e w2 ⟨rfl, f2⟩; have F2 := hid (F1.out.then f2); have HFF := hid (HF.out _ F2.out); clear f2)
            | (go_at_call 49; refine HFF.out.mono ?_; rintro e w3 ⟨rfl, f3⟩; have F3 := hid (F2.out.then f3); have R3 := hid (H.out.fr0 F3.out); obtain ⟨r0, r1, r2, r3, r4, r5⟩ := R3.out.c; have z5 := blk_free R3.out.blk 5; have Q1 := hid (P1.out.fr0 F3.out); obtain ⟨s0, s1⟩ := Q1.out.c; clear f3))
          go_ret2
          rw [END.out]
          exact Did.same H.out F3.out
        · have hup1 : p.up = true := by simpa using hup
          by_cases hnp : n = R.primary
          · have hnp1 : (n.toList == R.primary.toList) = true := by rw [hnp]; simp
            by_cases hep : ep = R.epoch
            · have hor : ¬ (n ≠ R.primary ∨ ep ≠ R.epoch) := fun e => e.elim (fun h => h hnp) (fun h => h hep)
              have hep1 : (ep == R.epoch) = true := by simpa using hep
              by_cases hln : p.log.length = 4000
              · have END : Hid (R.recordAt p n ep x = ((0, 2), R)) := hid (by unfold Reg.Rg.recordAt; rw [if_neg hup, if_neg hor, if_pos hln])
                have hln1 : ((p.log.length : Int) == 4000) = true := by simp; omega
                subst hnp
                subst hep
                go_enter Tryz.func25, Tryz.ntmps25
                have n0 := F1.out.cell0 H.out.c.1
                go_wp2_with (first
                  | (go_at_call 42; refine (none_no rb mb _ n0).mono ?_; rintro e w' ⟨rfl, rfl⟩)
                  | (go_at_call 53; refine (HVAL.out _ F1.out).mono ?_; rintro e w2 ⟨rfl, f2⟩; have F2 := hid (F1.out.then f2); have HFF := hid (HF.out _ F2.out); clear f2)
                  | (go_at_call 49; refine HFF.out.mono ?_; rintro e w3 ⟨rfl, f3⟩; have F3 := hid (F2.out.then f3); have R3 := hid (H.out.fr0 F3.out); obtain ⟨r0, r1, r2, r3, r4, r5⟩ := R3.out.c; have z5 := blk_free R3.out.blk 5; have Q1 := hid (P1.out.fr0 F3.out); obtain ⟨s0, s1⟩ := Q1.out.c; clear f3))
                go_ret2
                rw [END.out]
                exact Did.same H.out F3.out
              · have hln1 : ((p.log.length : Int) == 4000) = false := by simp; omega
                have END : Hid (R.recordAt p n ep x = (((p.log.length : Int) + 1, 0), ({ (R.put n { p with log := p.log ++ [(x, R.records + 1)] }) with records := R.records + 1 }).ack)) := hid (by unfold Reg.Rg.recordAt; rw [if_neg hup, if_neg hor, if_neg hln])
                have hw1 : IntKind.i64.wrap (R.records + 1) = R.records + 1 := IntWalk.i64_in _ (by omega)
                subst hnp
                subst hep
                have I0 := hid (inv0_rec (k := R.records + 1) (inv0_put (q := { p with log := p.log ++ [(x, R.records + 1)] }) HI.out HLK.out (by simp; omega)))
                go_enter Tryz.func25, Tryz.ntmps25
                have n0 := F1.out.cell0 H.out.c.1
                go_wp2_with fail
                refine (none_no rb mb _ n0).mono ?_
                rintro e w' ⟨rfl, rfl⟩
                go_wp2_with fail
                refine (HVAL.out _ F1.out).mono ?_
                rintro e w2 ⟨rfl, f2⟩
                have F2 := hid (F1.out.then f2)
                have B2 := hid (f2.blk B1.out (by simp))
                have HFF := hid (HF.out _ F2.out)
                clear f2 n0
                go_wp2_with fail
                refine HFF.out.mono ?_
                rintro e w3 ⟨rfl, f3⟩
                have F3 := hid (F2.out.then f3)
                have B3 := hid (f3.blk B2.out (by simp))
                have R3 := hid (H.out.fr0 F3.out)
                obtain ⟨r0, r1, r2, r3, r4, r5⟩ := R3.out.c
                have z5 := blk_free R3.out.blk 5
                have Q1 := hid (P1.out.fr0 F3.out)
                obtain ⟨s0, s1⟩ := Q1.out.c
                clear f3
                go_wp2_with fail
                have f4 : Fr [rb] w3 (w3.setCell ⟨rb, 5, none⟩ (.int .i64 (R.records + 1))) := (Fr.refl [rb] w3).setCell (.inl (by simp)) _
                have b4 := blk_setCell R3.out.blk 5 (.int .i64 (R.records + 1))
                simp only [List.setIfInBounds_toArray, List.set_cons_succ, List.set_cons_zero] at b4
                have R4 := hid (R3.out.head (R' := { R with records := R.records + 1 }) f4 b4 rfl)
                have hrbn : w.heap.size ≠ rb := by have := blk_lt H.out.blk; omega
                have B4 := hid (f4.blk B3.out (by simpa using hrbn))
                have F4 := hid ((F3.out.mono (S' := [rb]) (by simp)).trans f4 (fun z hz => .inl hz))
                generalize w3.setCell ⟨rb, 5, none⟩ (.int .i64 (R.records + 1)) = w4 at R4 B4 F4 ⊢
                clear f4 b4 r0 r1 r2 r3 r4 r5 z5 s0 s1 Q1 R3 B3 F3
                obtain ⟨r0, r1, r2, r3, r4, r5⟩ := R4.out.c
                have Q1 := hid (R4.out.pl i _ _ HPI.out HA.out)
                obtain ⟨s0, s1⟩ := Q1.out.c
                have HNE := hid (show a1 ≠ rb from fun e => by
                  have hb := Q1.out.blk
                  rw [e, R4.out.blk] at hb
                  injection hb with hb
                  injection hb with _ hb
                  exact absurd hb (by decide))
                have t0 := cell_of_row w4 w.heap.size 0 _ _ _ B4.out
                have t1 := cell_of_row w4 w.heap.size 1 _ _ _ B4.out
                have t2 := cell_of_row w4 w.heap.size 2 _ _ _ B4.out
                have t3 := cell_of_row w4 w.heap.size 3 _ _ _ B4.out
                simp at t0 t1 t2 t3
                go_region_law (first
                  | (refine step_run (v := .slice A3 p.log.length c3) (y := .slice (some ⟨w5.heap.size, 0, none⟩) 1 1) (v1 := .slice A10 (p.log.length + 1) c10) (w1 := w6) (by rfl) (.tmp 69) (.tmp 77) 93 rfl rfl rfl HRUN.out ?_)
                  | (go_simp; go_at_call 52; refine (copied_any x A0 c0 A2 c2 _ (H0.out _ F4.out.drew) (H2.out _ F4.out.drew) OK.out).mono ?_; rintro e w5 ⟨v0, v2, rfl, u0, u2, f5, o0, o2⟩; obtain ⟨A5, c5, rfl⟩ := Kd.R_slice u0; obtain ⟨A7, c7, rfl⟩ := Kd.R_slice u2; unfold logV; have F5 := hid (F4.out.drew.trans f5 (fun z hz => .inl (by simp at hz))); have r55 := f5.cell0 r5; have s15 := f5.cell0 s1; have qa5 := ((Fr.refl [] w5).alloc (.cells #[.slice A5 x.f0.length c5, .int .i64 x.f1, .slice A7 x.f2.length c7, .int .i64 x.f3, .int .i64 (R.records + 1)] 108)).cell0 s15; obtain ⟨A10, c10, w6, hrun, hblk, hreg, hfr, hown, hpl6⟩ := rec_store (R4.out.fr0 ((Fr.refl [] w4).drew.then f5)) HN.out HPI.out HA.out (by omega) (x, R.records + 1) _ _ u0 u2; have HRUN := hid hrun; have HREG := hid hreg; have HFR := hid hfr; have HOWN := hid hown; have HPL6 := hid hpl6; have k6 := cell_of_row w6 a1 1 _ _ _ hblk; have z6 := blk_free hblk 1; simp at k6; clear hrun hreg hfr hown hpl6 hblk u0 u2 f5 o0 o2))
                all_goals
                  generalize w6.setCell ⟨a1, 1, none⟩ (.slice A10 (p.log.length + 1) c10) = w7 at HREG HFR HPL6 ⊢
                  clear r0 r1 r2 r3 r4 r5 s0 s1 t0 t1 t2 t3 r55 s15 qa5 k6 z6
                  go_wp2_with (go_at_call 51; refine (ack_any rb mb _ _ _ HREG.out I0.out (Nat.le_trans (Nat.le_of_eq (Reg.put_len _ _ _)) hpl)).mono ?_; rintro e w8 ⟨rfl, h8, f8⟩; have b8 := f8.blk HPL6.out (by simpa using HNE.out); have q8 := cell_of_row w8 a1 1 _ _ _ b8; simp at q8; clear b8)
                  go_ret2
                  rw [END.out]
                  refine ⟨_, rfl, h8, ((F5.out.mono (fun k hk => .inl (by simp at hk; subst hk; exact List.mem_cons_self ..))).then (HFR.out.mono (fun k hk => .inl (by
                    rcases List.mem_cons.1 hk with rfl | hk
                    · exact (blks_at HA.out).1
                    · exact (blks_at HA.out).2 k (by simpa using hk))))).then (f8.mono (fun k hk => .inl (by simp at hk; subst hk; exact List.mem_cons_self ..))), fun k hk => ?_⟩
                  rcases blks_set HA.out hk with h | h
                  · exact .inl h
                  · rcases HOWN.out k h with h | h
                    · exact .inl ((blks_at HA.out).2 k h)
                    · exact .inr (Nat.le_trans F5.out.size h)
            · have hep1 : (ep == R.epoch) = false := by simpa using hep
              have END : Hid (R.recordAt p n ep x = ((0, 7), R)) := hid (by unfold Reg.Rg.recordAt; rw [if_neg hup, if_pos (.inr hep)])
              subst hnp
              go_enter Tryz.func25, Tryz.ntmps25
              have n0 := F1.out.cell0 H.out.c.1
              go_wp2_with (first
                | (go_at_call 42; refine (none_no rb mb _ n0).mono ?_; rintro e w' ⟨rfl, rfl⟩)
                | (go_at_call 53; refine (HVAL.out _ F1.out).mono ?_; rintro e w2 ⟨rfl, f2⟩; have F2 := hid (F1.out.then f2); have HFF := hid (HF.out _ F2.out); clear f2)
                | (go_at_call 49; refine HFF.out.mono ?_; rintro e w3 ⟨rfl, f3⟩; have F3 := hid (F2.out.then f3); have R3 := hid (H.out.fr0 F3.out); obtain ⟨r0, r1, r2, r3, r4, r5⟩ := R3.out.c; have z5 := blk_free R3.out.blk 5; have Q1 := hid (P1.out.fr0 F3.out); obtain ⟨s0, s1⟩ := Q1.out.c; clear f3))
              go_ret2
              rw [END.out]
              exact Did.same H.out F3.out
          · have hnp2 := list_beq hnp
            have END : Hid (R.recordAt p n ep x = ((0, 7), R)) := hid (by unfold Reg.Rg.recordAt; rw [if_neg hup, if_pos (.inl hnp)])
            go_enter Tryz.func25, Tryz.ntmps25
            have n0 := F1.out.cell0 H.out.c.1
            go_wp2_with (first
              | (go_at_call 42; refine (none_no rb mb _ n0).mono ?_; rintro e w' ⟨rfl, rfl⟩)
              | (go_at_call 53; refine (HVAL.out _ F1.out).mono ?_; rintro e w2 ⟨rfl, f2⟩; have F2 := hid (F1.out.then f2); have HFF := hid (HF.out _ F2.out); clear f2)
              | (go_at_call 49; refine HFF.out.mono ?_; rintro e w3 ⟨rfl, f3⟩; have F3 := hid (F2.out.then f3); have R3 := hid (H.out.fr0 F3.out); obtain ⟨r0, r1, r2, r3, r4, r5⟩ := R3.out.c; have z5 := blk_free R3.out.blk 5; have Q1 := hid (P1.out.fr0 F3.out); obtain ⟨s0, s1⟩ := Q1.out.c; clear f3))
            go_ret2
            rw [END.out]
            exact Did.same H.out F3.out
def zLo : Value := .agg #[.slice none 0 0, .int .i64 0, .slice none 0 0, .int .i64 0]
theorem infoL : (Tryz.prog.info? 40).map (fun i => (i.zero, i.size, i.bytes)) = some (some zLo, 4, 64) := by kernel_rfl
theorem log_append {w : World} {v : Value} {xs : List LO} (R : kLo.R 40 w 0 (fun _ => True) v xs) (hl : xs.length ≤ 1000000) (x : LO) (v0 v2 : Value)
    (h0 : kD.R 135 w 0 (fun _ => True) v0 x.f0) (h2 : kB.R 112 w 0 (fun _ => True) v2 x.f2) :
    ∃ A1 c1 w1, (Builtin.append_ #[53, 53] 53 #[v, .slice (some ⟨w.heap.size, 0, none⟩) 1 1]).run Tryz.prog (w.alloc (.cells #[v0, .int .i64 x.f1, v2, .int .i64 x.f3] 40)) = .ok (.slice A1 (xs.length + 1) c1) w1 ∧
      kLo.R 40 w1 0 (fun _ => True) (.slice A1 (xs.length + 1) c1) (xs ++ [x]) ∧ w.grownBy w1 v.ownBlock ∧ ((Value.slice A1 (xs.length + 1) c1).ownBlock = v.ownBlock ∨ ∃ b, (Value.slice A1 (xs.length + 1) c1).ownBlock = some b ∧ w.heap.size ≤ b) := by
  obtain ⟨v1, w1, hrun, r5, g5, a5⟩ := R_run (P := Tryz.prog) kLo (W := w) 53 53 40 zLo 64 Tryz.underlying53 infoL rfl (by decide) (by decide) v xs x [v0, .int .i64 x.f1, v2, .int .i64 x.f3] (fun k => some k ≠ v.ownBlock)
    (kLo_mk x (M_ownR (ros_of_R h0) R (by decide)) (M_ownR (ros_of_R h2) R (by decide))) (fun _ h => h) R (by omega)
  obtain ⟨A1, c1, e⟩ := Kd.R_slice r5
  rw [List.length_append, List.length_singleton] at e
  subst e
  exact ⟨A1, c1, w1, hrun, r5, g5, a5⟩
theorem recs_open {w : World} {A : Option Addr} {n c i : Nat} {l : List (LO × Int)} {r : LO × Int} (h : kRc.R 108 w 0 (fun _ => True) (.slice A n c) l) (hr : l[i]? = some r) :
    ∃ g A0 c0 A2 c2, A = some ⟨g, 0, none⟩ ∧ k135.C w A0 r.1.f0.length r.1.f0 ∧ kB.C w A2 r.1.f2.length r.1.f2 ∧
      w.cell? ⟨g, i * 5, none⟩ = some (.slice A0 r.1.f0.length c0) ∧ w.cell? ⟨g, i * 5 + 1, none⟩ = some (.int .i64 r.1.f1) ∧ w.cell? ⟨g, i * 5 + 2, none⟩ = some (.slice A2 r.1.f2.length c2) ∧ w.cell? ⟨g, i * 5 + 3, none⟩ = some (.int .i64 r.1.f3) ∧ w.cell? ⟨g, i * 5 + 4, none⟩ = some (.int .i64 r.2) := by
  obtain ⟨g, c', e, -⟩ := rec_num h hr
  injection e with e1 e2 e3
  subst e1
  obtain ⟨v0, v2, hM, hc⟩ := recs_at h hr
  have hK := kRc.K_of_M hM
  obtain ⟨_, _, e, hL, rfl⟩ := hK
  have hL2 := (kLo_K w r.1 _).1 hL
  obtain ⟨A0, c0, A2, c2, rfl, l0, g0, l2, g2⟩ := k40_open hL2
  simp only [rcL, List.cons_append, List.nil_append, List.cons.injEq, and_true] at e
  obtain ⟨rfl, -, rfl, -⟩ := e
  exact ⟨g, A0, c0, A2, c2, rfl, g0, g2, hc 0 _ rfl, hc 1 _ rfl, hc 2 _ rfl, hc 3 _ rfl, hc 4 _ rfl⟩
def logAt (R : RG) (n : ByteArray) : List LO := match (R.find wordB n).1 with
  | some p => p.log.map (·.1)
  | none => []
def Logged (l : List LO) (er : Int) (w : World) (e : Ending) (w' : World) : Prop :=
  ∃ v, e = .returned (.tuple #[v, .int .i64 er]) ∧ kLo.R 40 w' 0 (fun _ => True) v l ∧ Fr [] w w' ∧ ∀ k, v.ownBlock = some k → w.heap.size ≤ k
set_option maxRecDepth 100000 in
set_option maxHeartbeats 4000000 in
theorem log_any (rb mb : Nat) (us : List (Nat × Value)) (R : RG) (n : ByteArray) (w : World) (h : RegAt w rb mb us R) (hi : Reg.Inv R) (hok : AllOk R) (hs : n.size ≤ maxLen) :
    Calls Tryz.prog 23 #[.pointer (some ⟨rb, 0, none⟩), .string n] w (Logged (logAt R n) (R.find wordB n).2 w) := by
  have H := hid h
  unfold logAt
  cases hf : R.find wordB n with
  | mk o er =>
    cases o with
    | none =>
      have HF := hid (rfind_err rb mb us R n er w h hs hf)
      have he := Reg.find_err hf
      have he' : (er == 0) = false := by simpa using he
      clear h hi hf hok
      go_enter Tryz.func23, Tryz.ntmps23
      go_wp2_with (go_at_call 49; refine HF.out.mono ?_; rintro e w1 ⟨rfl, f1⟩)
      go_ret2
      exact ⟨_, rfl, Kd.R_nil _ _ _ _ _, f1, fun k hk => by simp [Value.ownBlock] at hk⟩
    | some p =>
      obtain ⟨rfl, hw, hlk⟩ := Reg.find_some hf
      obtain ⟨i, a, hpi, hai, hl⟩ := rlook_at hlk h.len (rb := rb) (mb := mb)
      have HF := hid (rfind_yes rb mb us R n w h hs hw a hl)
      have lp : p.log.length ≤ 4000 := hi.long _ (Reg.look_mem hlk)
      have OK := hid (hok.look hlk)
      have P1 := hid (h.pl i _ a hpi hai)
      obtain ⟨A3, c3, e3⟩ := Kd.R_slice P1.out.row
      obtain ⟨a1, a2⟩ := a
      cases e3
      dsimp only
      dsimp only at HF
      clear h hi hf hw hlk hl hpi hai hok
      go_enter Tryz.func23, Tryz.ntmps23
      go_wp2_with fail
      refine HF.out.mono ?_
      rintro e w1 ⟨rfl, f1⟩
      have F1 := hid f1
      have Q1 := hid (P1.out.fr0 f1)
      obtain ⟨s0, s1⟩ := Q1.out.c
      clear f1
      go_wp2
      go_loopw [8, 25] (fun out i wr => ∃ (k : Nat), i = .int .i64 k ∧ k ≤ p.log.length ∧ kLo.R 40 wr 0 (fun _ => True) out ((p.log.take k).map (·.1)) ∧ Fr [] w1 wr ∧ ∀ q, out.ownBlock = some q → w1.heap.size ≤ q) (fun _ i _ => p.log.length - (intOf i).toNat)
      case atStart => exact ⟨0, rfl, Nat.zero_le _, Kd.R_nil _ _ _ _ _, Fr.refl _ _, fun q hq => by simp [Value.ownBlock] at hq⟩
      case round =>
        obtain ⟨k, rfl, hk, hR, hFr, hO⟩ := hrel
        have HR := hid hR
        have HF2 := hid hFr
        have HO := hid hO
        clear hR hFr hO
        by_cases hlt : k < p.log.length
        · obtain ⟨x, hx⟩ : ∃ x, p.log[k]? = some x := ⟨_, List.getElem?_eq_getElem hlt⟩
          obtain ⟨g, A0, c0, A2, c2, eA, g0, g2, d0, d1, d2, d3, d4⟩ := recs_open (R_fr0 Q1.out.row HF2.out) hx
          have hxk := OK.out x (List.mem_iff_getElem?.2 ⟨k, hx⟩)
          subst eA
          have HX := hid hx
          have hm0 : (0 : Int) ≤ (k : Int) := by omega
          have hm1 : (k : Int) < (p.log.length : Int) := by omega
          have G0 := hid g0
          have G2 := hid g2
          have XK := hid hxk
          clear g0 g2 hx hxk
          have F0 := hid ((Fr.refl [] wr).alloc (.cells #[.slice A0 x.1.f0.length c0, .int .i64 x.1.f1, .slice A2 x.1.f2.length c2, .int .i64 x.1.f3, .int .i64 x.2] 108))
          go_wp2_with fail
          refine (copied_any x.1 A0 c0 A2 c2 _ (Kd.C_below G0.out F0.out.below0) (Kd.C_below G2.out F0.out.below0) XK.out).mono ?_
          rintro e w5 ⟨v0, v2, rfl, u0, u2, f5, -, -⟩
          obtain ⟨A5, c5, rfl⟩ := Kd.R_slice u0
          obtain ⟨A7, c7, rfl⟩ := Kd.R_slice u2
          unfold logV
          obtain ⟨T, hT⟩ : ∃ T, T = (p.log.take k).map (·.1) := ⟨_, rfl⟩
          have hR := HR.out
          rw [← hT] at hR
          have hTl : T.length ≤ 4000 := by rw [hT]; simp; omega
          have HT := hid hT
          have f6 : Fr [] wr w5 := F0.out.then f5
          obtain ⟨A8, c8, rfl⟩ := Kd.R_slice hR
          obtain ⟨A9, c9, w6, hrun, r9, g9, a9⟩ := log_append (R_fr0 hR f6) (by omega) x.1 _ _ u0 u2
          obtain ⟨f9, o9⟩ := grow_own (HF2.out.then f6) HO.out g9 a9
          have HRUN := hid hrun
          have R9 := hid r9
          have F9 := hid f9
          have O9 := hid o9
          clear hR hT f5 f6 u0 u2 hrun r9 g9 a9 f9 o9 d0 d1 d2 d3 d4 HR HO HF2
          go_wp2_with ((with_reducible refine gate_dst (N := 34) rfl ?_); refine step_append (v := .slice A8 T.length c8) (y := .slice (some ⟨w5.heap.size, 0, none⟩) 1 1) (v1 := .slice A9 (T.length + 1) c9) (w1 := w6) rfl (.tmp 29) (.tmp 33) 53 rfl rfl rfl HRUN.out ?_)
          go_roundw
          case rel => exact ⟨k + 1, by go_num, by omega, by rw [List.take_succ_eq_append_getElem hlt, (List.getElem?_eq_some_iff.1 HX.out).2, List.map_append, ← HT.out]; exact R9.out, F9.out, O9.out⟩
          case measure => simp [intOf]; omega
        · obtain rfl : k = p.log.length := by omega
          have hr := HR.out
          rw [List.take_length] at hr
          have HR2 := hid hr
          clear hr
          go_wp2
          go_ret2
          exact ⟨_, rfl, HR2.out, F1.out.then HF2.out, fun k hk => Nat.le_trans F1.out.size (HO.out k hk)⟩
theorem rows_append {p : ByteArray × RP} {a : Nat × Value} : ∀ {l : List (ByteArray × RP)} {us : List (Nat × Value)} (i : Nat), us.length = l.length → rowsM i (l ++ [p]) (us ++ [a]) = rowsM i l us ++ [{ key := .string p.1, val := .pointer (some ⟨a.1, 0, none⟩), born := i + l.length }]
  | [], [], i, _ => by simp [rowsM]
  | [], _ :: _, _, h => by simp at h
  | _ :: _, [], _, h => by simp at h
  | q :: r, b :: s, i, h => by
    simp only [List.cons_append, rowsM, rows_append (l := r) (us := s) (i + 1) (by simpa using h), List.length_cons]
    congr 4
    omega
theorem heap_set {w : World} {b : Nat} {o : Obj} (h : b < w.heap.size) : ({ w with heap := w.heap.setIfInBounds b o } : World).heap[b]? = some o := by simp [h]
structure NewAt (w : World) (mb : Nat) (acc : List (ByteArray × RP)) (us : List (Nat × Value)) : Prop where
  map : w.heap[mb]? = some (.map (rowsM 0 acc us).toArray acc.length)
  len : us.length = acc.length
  pl : ∀ (i : Nat) (x : ByteArray × RP) (a : Nat × Value), acc[i]? = some x → us[i]? = some a → w.heap[a.1]? = some (.cells #[.bool true, .slice none 0 0] 95 (0, 0)) ∧ a.2 = .slice none 0 0 ∧ x.2 = ⟨true, []⟩ ∧ mb < a.1
  ne : ∀ (i j : Nat) (a b : Nat × Value), us[i]? = some a → us[j]? = some b → i ≠ j → a.1 ≠ b.1
theorem NewAt.fr0 {w w' : World} {mb : Nat} {acc : List (ByteArray × RP)} {us : List (Nat × Value)} (h : NewAt w mb acc us) (f : Fr [] w w') : NewAt w' mb acc us :=
  ⟨f.blk h.map (by simp), h.len, fun i x a hx ha => by obtain ⟨h1, h2⟩ := h.pl i x a hx ha; exact ⟨f.blk h1 (by simp), h2⟩, h.ne⟩
section
variable {w : World} {mb : Nat} {acc : List (ByteArray × RP)} {us : List (Nat × Value)} {s : ByteArray}
theorem NewAt.no (h : NewAt w mb acc us) (hl : Reg.lookIn acc s = none) : (Instr.lookup 85 (.map (some mb)) (.string s) false).run Tryz.prog w = .ok (.pointer none) w :=
  run_look_no w _ 9 92 mb _ _ s (.pointer none) false Tryz.underlying85 Tryz.underlying9 h.map (by kernel_rfl) (rows_none 0 0 hl)
theorem NewAt.yes (h : NewAt w mb acc us) (hl : (Reg.lookIn acc s).isSome = true) : ∃ b, (Instr.lookup 85 (.map (some mb)) (.string s) false).run Tryz.prog w = .ok (.pointer (some ⟨b, 0, none⟩)) w := by
  cases hp : Reg.lookIn acc s with
  | none => rw [hp] at hl; cases hl
  | some p =>
    obtain ⟨i, a, h1, h2, h3⟩ := rows_some (us := us) 0 0 hp h.len
    exact ⟨a.1, run_look_yes w _ 9 92 mb _ _ (0 + i) s _ false Tryz.underlying85 Tryz.underlying9 h.map h3⟩
theorem NewAt.put (h : NewAt w mb acc us) (hl : Reg.lookIn acc s = none) :
    ∃ w', (Instr.mapUpdate 85 (.map (some mb)) (.string s) (.pointer (some ⟨w.heap.size, 0, none⟩))).run Tryz.prog (w.alloc (.cells #[.bool true, .slice none 0 0] 95)) = .ok () w' ∧ NewAt w' mb (acc ++ [(s, ⟨true, []⟩)]) (us ++ [(w.heap.size, .slice none 0 0)]) ∧ Fr [mb] w w' := by
  have f0 : Fr [] w (w.alloc (.cells #[.bool true, .slice none 0 0] 95)) := (Fr.refl [] w).alloc _
  have h0 := h.fr0 f0
  have hb := heap_alloc_new w (.cells #[.bool true, .slice none 0 0] 95)
  have hml := blk_lt h.map
  have f1 : Fr [mb] (w.alloc (.cells #[.bool true, .slice none 0 0] 95)) { (w.alloc (.cells #[.bool true, .slice none 0 0] 95)) with heap := (w.alloc (.cells #[.bool true, .slice none 0 0] 95)).heap.setIfInBounds mb (.map ((rowsM 0 acc us).toArray.push { key := .string s, val := .pointer (some ⟨w.heap.size, 0, none⟩), born := acc.length }) (acc.length + 1)) } :=
    ⟨rfl, rfl, rfl, by simp, fun k hk hS => by
      simp only [List.mem_singleton] at hS
      simp [Ne.symm hS]⟩
  refine ⟨_, run_insert _ _ 9 92 mb _ _ s _ Tryz.underlying85 Tryz.underlying9 h0.map (rows_none 0 0 hl), ⟨?_, ?_, ?_, ?_⟩, (f0.mono (by simp)).then f1⟩
  · have hlt : mb < (w.alloc (.cells #[.bool true, .slice none 0 0] 95)).heap.size := blk_lt h0.map
    rw [heap_set hlt, rows_append 0 h.len]
    simp
  · simp [h.len]
  · intro i x a hx ha
    by_cases hi : i < acc.length
    · rw [List.getElem?_append_left hi] at hx
      rw [List.getElem?_append_left (by rw [h.len]; exact hi)] at ha
      obtain ⟨h1, h2, h3, h4⟩ := h0.pl i x a hx ha
      exact ⟨f1.blk h1 (by simp; omega), h2, h3, h4⟩
    · have hl1 := (List.getElem?_eq_some_iff.1 hx).1
      simp at hl1
      obtain rfl : i = acc.length := by omega
      simp at hx
      have e : us.length = acc.length := h.len
      rw [← e] at ha
      simp at ha
      subst hx ha
      exact ⟨f1.blk hb (by simp; omega), rfl, rfl, hml⟩
  · intro i j a b ha hb' hij
    have hd : ∀ (i : Nat) (a : Nat × Value), (us ++ [(w.heap.size, Value.slice none 0 0)])[i]? = some a → (i < us.length ∧ us[i]? = some a ∧ a.1 < w.heap.size) ∨ (i = us.length ∧ a.1 = w.heap.size) := by
      intro i a ha
      by_cases hi : i < us.length
      · rw [List.getElem?_append_left hi] at ha
        obtain ⟨x, hx⟩ : ∃ x, acc[i]? = some x := ⟨_, List.getElem?_eq_getElem (by rw [← h.len]; exact hi)⟩
        exact .inl ⟨hi, ha, blk_lt (h.pl i x a hx ha).1⟩
      · have hl1 := (List.getElem?_eq_some_iff.1 ha).1
        simp at hl1
        obtain rfl : i = us.length := by omega
        simp at ha
        subst ha
        exact .inr ⟨rfl, rfl⟩
    rcases hd i a ha with ⟨h1, h2, h3⟩ | ⟨h1, h2⟩ <;> rcases hd j b hb' with ⟨g1, g2, g3⟩ | ⟨g1, g2⟩
    · exact h.ne i j a b h2 g2 hij
    · omega
    · omega
    · omega
end
theorem NewAt.regs {w : World} {rb mb : Nat} {ps : List (ByteArray × RP)} {us : List (Nat × Value)} {pn : ByteArray} {need : Int} (h : NewAt w mb ps us)
    (hb : w.heap[rb]? = some (.cells #[.map (some mb), .string pn, .int .i64 1, .int .i64 need, .int .i64 0, .int .i64 0] 87 (0, 0))) : RegAt w rb mb us ⟨ps, pn, 1, need, 0, 0⟩ := by
  refine ⟨hb, h.map, h.len, fun i x a hx ha => ?_, h.ne, fun i j a b k ha _ _ hk => ?_⟩
  · obtain ⟨h1, h2, h3, -⟩ := h.pl i x a hx ha
    rw [h3, h2]
    exact ⟨h1, Kd.R_nil _ _ _ _ _⟩
  · obtain ⟨x, hx⟩ : ∃ x, ps[i]? = some x := ⟨_, List.getElem?_eq_getElem (by rw [← h.len]; exact (List.getElem?_eq_some_iff.1 ha).1)⟩
    rw [(h.pl i x a hx ha).2.1] at hk
    simp [Value.ownBlock] at hk
def Newed (o : Option RG × Int) (w : World) (e : Ending) (w' : World) : Prop := match o with
  | (none, er) => e = .returned (.tuple #[.pointer none, .int .i64 er]) ∧ Fr [] w w'
  | (some R, er) => ∃ rb mb us, e = .returned (.tuple #[.pointer (some ⟨rb, 0, none⟩), .int .i64 er]) ∧ RegAt w' rb mb us R ∧ Fr [] w w' ∧ ∀ b ∈ blks rb us, w.heap.size ≤ b
theorem NewAt.own {w : World} {mb k : Nat} {ps : List (ByteArray × RP)} {us : List (Nat × Value)} (h : NewAt w mb ps us) (hk : k ≤ mb) {rb : Nat} (hr : k ≤ rb) : ∀ b ∈ blks rb us, k ≤ b := by
  intro b hb
  unfold blks at hb
  rcases List.mem_cons.1 hb with rfl | hb
  · exact hr
  · obtain ⟨a, ha, hm⟩ := List.mem_flatMap.1 hb
    obtain ⟨i, hi⟩ := List.mem_iff_getElem?.1 ha
    obtain ⟨x, hx⟩ : ∃ x, ps[i]? = some x := ⟨_, List.getElem?_eq_getElem (by rw [← h.len]; exact (List.getElem?_eq_some_iff.1 hi).1)⟩
    obtain ⟨-, h2, -, h4⟩ := h.pl i x a hx hi
    rw [h2] at hm
    simp [Value.ownBlock] at hm
    subst hm
    omega
theorem strs_at {w : World} {A : Option Addr} {n k : Nat} {xs : List ByteArray} {x : ByteArray} (h : Kd.C Kd.string w A n xs) (hx : xs[k]? = some x) : ∃ b off, A = some ⟨b, off, none⟩ ∧ w.cell? ⟨b, off + k, none⟩ = some (.string x) := by
  obtain ⟨b, off, c, e, hK, hc⟩ := cells_at (d := Kd.string) (by decide) h hx
  obtain rfl := hK
  have := hc 0 _ rfl
  refine ⟨b, off, e, ?_⟩
  simpa [Kd.string, Kd.scalar] using this
theorem np_step {l : List ByteArray} {acc : List (ByteArray × RP)} {k : Nat} {s : ByteArray} (hs : l[k]? = some s) (hw : wordB s = true) (hl : Reg.lookIn acc s = none) : Reg.newPlaces wordB acc (l.drop k) = Reg.newPlaces wordB (acc ++ [(s, ⟨true, []⟩)]) (l.drop (k + 1)) := by
  obtain ⟨hk, he⟩ := List.getElem?_eq_some_iff.1 hs
  rw [List.drop_eq_getElem_cons hk, he]
  conv => lhs; unfold Reg.newPlaces
  rw [if_neg (by rw [hw, hl]; simp)]
theorem np_bad {l : List ByteArray} {acc : List (ByteArray × RP)} {k : Nat} {s : ByteArray} (hs : l[k]? = some s) (h : wordB s = false ∨ (Reg.lookIn acc s).isSome = true) : Reg.newPlaces wordB acc (l.drop k) = none := by
  obtain ⟨hk, he⟩ := List.getElem?_eq_some_iff.1 hs
  rw [List.drop_eq_getElem_cons hk, he]
  unfold Reg.newPlaces
  rw [if_pos h]
set_option maxRecDepth 100000 in
set_option maxHeartbeats 4000000 in
theorem new_any (A : Option Addr) (c : Nat) (names : List ByteArray) (need : Int) (w : World) (hC : Kd.C Kd.string w A names.length names) (hs : ∀ x ∈ names, x.size ≤ maxLen) (hl : names.length ≤ 1000) :
    Calls Tryz.prog 11 #[.slice A names.length c, .int .i64 need] w (Newed (Reg.newBy wordB names need) w) := by
  have HC := hid hC
  have HS := hid hs
  clear hC hs
  have hmm := @run_makeMap Tryz.prog
  go_enter Tryz.func11, Tryz.ntmps11
  go_wp2
  go_loopw [12] (fun i wr => ∃ (k : Nat) (acc : List (ByteArray × RP)) (us : List (Nat × Value)), i = .int .i64 k ∧ k ≤ names.length ∧ Reg.newPlaces wordB [] names = Reg.newPlaces wordB acc (names.drop k) ∧ NewAt wr w.heap.size acc us ∧ Fr [] w wr) (fun i _ => names.length - (intOf i).toNat)
  case atStart =>
    refine ⟨0, [], [], rfl, Nat.zero_le _, rfl, ⟨(MapKept.heap_alloc w _).1, rfl, by simp, by simp⟩, (Fr.refl [] w).alloc _⟩
  case round =>
    obtain ⟨k, acc, us, rfl, hk, hE, hM, hF⟩ := hrel
    have HE := hid hE
    have HM := hid hM
    have HF := hid hF
    clear hE hM hF
    by_cases hlt : k < names.length
    · obtain ⟨s, hx⟩ : ∃ s, names[k]? = some s := ⟨_, List.getElem?_eq_getElem hlt⟩
      obtain ⟨b, off, eA, d0⟩ := strs_at (Kd.C_below HC.out HF.out.below0) hx
      have W0 := hid (HS.out s (List.mem_iff_getElem?.2 ⟨k, hx⟩))
      have HX := hid hx
      subst eA
      have hm0 : (0 : Int) ≤ (k : Int) := by omega
      have hm1 : (k : Int) < (names.length : Int) := by omega
      clear hx
      cases hw : wordB s with
      | false =>
        have END := hid (show Reg.newBy wordB names need = (none, 1) by unfold Reg.newBy; rw [HE.out, np_bad HX.out (.inl hw)])
        have HW := hid hw
        clear hw
        go_wp2_with (go_at_call 34; refine (word_any s W0.out _).mono ?_; rintro e w2 ⟨rfl, hd⟩; rw [HW.out]; have F2 := hid (drawn_fr hd); clear hd)
        go_ret2
        rw [END.out]
        exact ⟨rfl, HF.out.then F2.out⟩
      | true =>
        have HW := hid hw
        clear hw
        cases ho : (Reg.lookIn acc s).isSome with
        | true =>
          have END := hid (show Reg.newBy wordB names need = (none, 1) by unfold Reg.newBy; rw [HE.out, np_bad HX.out (.inr ho)])
          have HO := hid ho
          clear ho
          go_wp2_with (go_at_call 34; refine (word_any s W0.out _).mono ?_; rintro e w2 ⟨rfl, hd⟩; rw [HW.out]; have F2 := hid (drawn_fr hd); obtain ⟨pb, hlk⟩ := (HM.out.fr0 F2.out).yes HO.out; clear hd)
          go_ret2
          rw [END.out]
          exact ⟨rfl, HF.out.then F2.out⟩
        | false =>
          have HO := hid (show Reg.lookIn acc s = none by cases hp : Reg.lookIn acc s with
            | none => rfl
            | some p => rw [hp] at ho; cases ho)
          clear ho
          go_wp2_with (go_at_call 34; refine (word_any s W0.out _).mono ?_; rintro e w2 ⟨rfl, hd⟩; rw [HW.out]; have F2 := hid (drawn_fr hd); have hlk := (HM.out.fr0 F2.out).no HO.out; obtain ⟨w5, hu, hn5, f5⟩ := (HM.out.fr0 F2.out).put HO.out; have HN5 := hid hn5; have F5 := hid f5; clear hd hn5 f5)
          go_roundw
          case rel => exact ⟨k + 1, _, _, by go_num, by omega, by rw [HE.out, np_step HX.out HW.out HO.out], HN5.out, (HF.out.then F2.out).trans F5.out (fun z hz => .inr (by simp at hz; omega))⟩
          case measure => simp [intOf]; omega
    · obtain rfl : k = names.length := by omega
      have hps : Reg.newPlaces wordB [] names = some acc := by rw [HE.out, List.drop_length]; rfl
      have HPS := hid hps
      clear hps hlt hk
      by_cases h5 : names.length = 0 ∨ 5 < names.length
      · have END := hid (show Reg.newBy wordB names need = (none, 1) by unfold Reg.newBy; rw [HPS.out]; exact if_pos h5)
        by_cases h0 : names.length = 0
        · have q0 : ((names.length : Int) == 0) = true := beq_iff_eq.2 (by omega)
          clear h5
          go_wp2
          go_ret2
          rw [END.out]
          exact ⟨rfl, HF.out⟩
        · have q0 : ((names.length : Int) == 0) = false := beq_eq_false_iff_ne.2 (by omega)
          have q1 : decide ((5 : Int) < (names.length : Int)) = true := decide_eq_true (by omega)
          have q1p : (5 : Int) < (names.length : Int) := by omega
          have q1n : 5 < names.length := by omega
          clear h5
          go_wp2
          go_ret2
          rw [END.out]
          exact ⟨rfl, HF.out⟩
      · have q0 : ((names.length : Int) == 0) = false := beq_eq_false_iff_ne.2 (by omega)
        have q1 : decide ((5 : Int) < (names.length : Int)) = false := decide_eq_false (by omega)
        have q1p : ¬ (5 : Int) < (names.length : Int) := by omega
        have q1n : ¬ 5 < names.length := by omega
        by_cases hn : need < 1 ∨ (names.length : Int) < need
        · have END := hid (show Reg.newBy wordB names need = (none, 3) by unfold Reg.newBy; rw [HPS.out]; show (if _ then _ else if _ then _ else _) = _; rw [if_neg h5, if_pos hn])
          by_cases hn1 : need < 1
          · have p0 : decide (need < 1) = true := decide_eq_true hn1
            clear h5 hn
            go_wp2
            go_ret2
            rw [END.out]
            exact ⟨rfl, HF.out⟩
          · have p0 : decide (need < 1) = false := decide_eq_false hn1
            have p1p : (names.length : Int) < need := by omega
            have p1 : decide ((names.length : Int) < need) = true := decide_eq_true p1p
            clear h5 hn
            go_wp2
            go_ret2
            rw [END.out]
            exact ⟨rfl, HF.out⟩
        · have p0p : ¬ need < 1 := by omega
          have p0 : decide (need < 1) = false := decide_eq_false p0p
          have p1p : ¬ (names.length : Int) < need := by omega
          have p1 : decide ((names.length : Int) < need) = false := decide_eq_false p1p
          obtain ⟨s0, hs0⟩ : ∃ s0, names[0]? = some s0 := ⟨_, List.getElem?_eq_getElem (by omega)⟩
          obtain ⟨b, off, eA, d0⟩ := strs_at (Kd.C_below HC.out HF.out.below0) hs0
          have hd0 : names.headD ⟨#[]⟩ = s0 := by
            cases names with
            | nil => simp at hs0
            | cons y r => simpa using hs0
          have END := hid (show Reg.newBy wordB names need = (some ⟨acc, s0, 1, need, 0, 0⟩, 0) by unfold Reg.newBy; rw [HPS.out]; show (if _ then _ else if _ then _ else _) = _; rw [if_neg h5, if_neg hn, hd0])
          subst eA
          simp only [Nat.add_zero] at d0
          have hm1 : (0 : Int) < (names.length : Int) := by omega
          clear h5 hn hs0 hd0
          go_wp2
          go_ret2
          rw [END.out]
          have fa : Fr [] wr (wr.alloc (.cells #[.map (some w.heap.size), .string s0, .int .i64 1, .int .i64 need, .int .i64 0, .int .i64 0] 87)) := (Fr.refl [] wr).alloc _
          exact ⟨_, _, us, rfl, (HM.out.fr0 fa).regs (heap_alloc_new wr _), HF.out.then fa, HM.out.own (Nat.le_refl _) HF.out.size⟩
theorem logs_at {w : World} {A : Option Addr} {n k : Nat} {xs : List LO} {x : LO} (h : Kd.C k40 w A n xs) (hx : xs[k]? = some x) :
    ∃ b off A0 c0 A2 c2, A = some ⟨b, off, none⟩ ∧ w.cell? ⟨b, off + k * 4, none⟩ = some (.slice A0 x.f0.length c0) ∧ w.cell? ⟨b, off + k * 4 + 1, none⟩ = some (.int .i64 x.f1) ∧ w.cell? ⟨b, off + k * 4 + 2, none⟩ = some (.slice A2 x.f2.length c2) ∧ w.cell? ⟨b, off + k * 4 + 3, none⟩ = some (.int .i64 x.f3) ∧
      k135.C w A0 x.f0.length x.f0 ∧ kB.C w A2 x.f2.length x.f2 := by
  obtain ⟨b, off, c, e, hK, hc⟩ := cells_at (d := k40) (by decide) h hx
  obtain ⟨A0, c0, A2, c2, rfl, l0, g0, l2, g2⟩ := k40_open hK
  exact ⟨b, off, A0, c0, A2, c2, e, hc 0 _ rfl, hc 1 _ rfl, hc 2 _ rfl, hc 3 _ rfl, g0, g2⟩
def logsOf (R : RG) : List LO := R.first.map (·.1)
theorem new_named {names : List ByteArray} {need : Int} {R : RG} (h : Reg.newBy wordB names need = (some R, 0)) : AllOk R ∧ R.places.length ≤ 5 ∧ R.records = 0 ∧ R.epoch = 1 := by
  unfold Reg.newBy at h
  split at h
  · cases h
  · rename_i ps hps
    split at h
    · cases h
    · rename_i h5
      split at h
      · cases h
      · cases h
        obtain ⟨g1, g2, g3⟩ := Reg.new_places hps (by simp) (by simp)
        have hlen : ps.length = names.length := by have := congrArg List.length g2; simpa using this
        refine ⟨?_, by show ps.length ≤ 5; omega, rfl, rfl⟩
        intro p hp r hr
        rw [g3 p hp] at hr
        simp at hr
theorem np_words : ∀ {names : List ByteArray} {acc ps : List (ByteArray × RP)}, Reg.newPlaces wordB acc names = some ps → ∀ s ∈ names, wordB s = true
  | [], _, _, _, s, hs => by simp at hs
  | y :: r, acc, ps, h, s, hs => by
    unfold Reg.newPlaces at h
    split at h
    · cases h
    · rename_i hn
      rcases List.mem_cons.1 hs with rfl | hs
      · cases hw : wordB s with
        | true => rfl
        | false => exact absurd (.inl hw) hn
      · exact np_words h s hs
theorem new_words {names : List ByteArray} {need : Int} {R : RG} (h : Reg.newBy wordB names need = (some R, 0)) : ∀ p ∈ R.places, p.1 ∈ names ∧ wordB p.1 = true := by
  unfold Reg.newBy at h
  split at h
  · cases h
  · rename_i ps hps
    split at h
    · cases h
    · split at h
      · cases h
      · cases h
        obtain ⟨g1, g2, g3⟩ := Reg.new_places hps (by simp) (by simp)
        intro p hp
        have hm : p.1 ∈ ps.map (·.1) := List.mem_map.2 ⟨p, hp, rfl⟩
        rw [g2] at hm
        have hm' : p.1 ∈ names := by simpa using hm
        exact ⟨hm', np_words hps _ hm'⟩
theorem new_errs {names : List ByteArray} {need : Int} {R : RG} {er : Int} (h : Reg.newBy wordB names need = (some R, er)) : er = 0 := by
  unfold Reg.newBy at h
  split at h
  · cases h
  · split at h
    · cases h
    · split at h
      · cases h
      · cases h; rfl
theorem new_none {names : List ByteArray} {need : Int} {er : Int} (h : Reg.newBy (α := LO) wordB names need = (none, er)) : er ≠ 0 := by
  unfold Reg.newBy at h
  split at h
  · cases h; decide
  · split at h
    · cases h; decide
    · split at h
      · cases h; decide
      · cases h
theorem new_live {names : List ByteArray} {need : Int} {R : RG} (h : Reg.newBy wordB names need = (some R, 0)) (hs : ∀ s ∈ names, s.size ≤ maxLen) {w : World} {rb mb : Nat} {us : List (Nat × Value)} (hr : RegAt w rb mb us R) : RLive w rb mb us R 0 := by
  obtain ⟨h1, h2, h3, h4⟩ := new_named h
  have h5 := new_words h
  exact ⟨hr, Reg.new_inv h, h1, by omega, by omega, by omega, fun p hp => hs _ (h5 p hp).1, fun p hp => (h5 p hp).2⟩
end Go.Proofs.YtkolnoadeihmoaaGreat
