/-
  Regions awake: the walk.
  Regions awake: the examples hold.
  What a law's loop carries.
  RegionFenced: the walk.
  RegionAgree: what was shipped to the end; the walk.
-/
import Derived.Test.YtkolnoadeihmoaaGreatKb23
namespace Go.Proofs.YtkolnoadeihmoaaGreat
open Go.RowKit Go.Proofs.YtkolnoadeihmoaaGreatW.PrintWords
theorem step_did {w0 rb mb k : Nat} {us : List (Nat × Value)} {R R' : RG} {x : Reg.Call LO} {p : Int × Int} {v : Value} {w : World} {e : Ending} {w' : World} (h : RLive w rb mb us R k) (hx : LogIn x.log) (hb : ∀ b ∈ blks rb us, w0 ≤ b) (h0 : w0 ≤ w.heap.size) (he : Reg.doBy wordB logB R x = (p, R')) (hd : Did rb mb us R' v w e w') : Did2 w0 rb mb (k + 1) R' v w e w' := by
  have := Did2.of (v := v) (e := e) (w' := w') h hx hb h0 (by rw [he]; exact hd)
  rw [he] at this
  exact this
theorem ent_keep {n : ByteArray} {w : World} {rb mb b : Nat} {us : List (Nat × Value)} {R : RG} (h : RegAt w rb mb us R) (r : kD.R 135 w 0 (fun _ => True) (.slice (some ⟨b, 0, none⟩) 1 1) [entD n]) : ∀ w', Fr [rb] w w' → Kd.C k135 w' (some ⟨b, 0, none⟩) [entD n].length [entD n] := by
  intro w' f
  have hE : ∀ q ∈ kD.E, q ≠ 87 := fun q hq => by
    simp [kD, Kd.iso, Kd.pair, Kd.int, Kd.string, Kd.scalar, ros, k192] at hq
    rcases hq with rfl | rfl <;> decide
  have r' := R_fr2 r f (NoT.one h.blk hE) (fun k hk hm => by
    obtain ⟨cells, hc⟩ := Kd.R_typed r k hk
    obtain rfl := List.mem_singleton.1 hm
    rw [h.blk] at hc
    injection hc with hc; injection hc with _ hc; exact absurd hc (by decide))
  exact (Kd.R_reads' r').2.2
theorem nil_keep {w : World} {rb : Nat} : ∀ w', Fr [rb] w w' → kB.C w' none ([] : List BL).length [] := fun w' _ => ⟨rfl, by simp, fun h => absurd h (by simp)⟩
theorem strs_lit (w : World) (l : List ByteArray) (hl : l.length ≤ 1000) : Kd.C Kd.string (w.alloc (.cells (l.map Value.string).toArray 9)) (some ⟨w.heap.size, 0, none⟩) l.length l := by
  have hr : Reps (Kd.string.M w 0 (fun k => some k ≠ some w.heap.size)) Kd.string.sz l (l.map Value.string) := by
    have : ∀ (acc l : List ByteArray), Reps (Kd.string.M w 0 (fun k => some k ≠ some w.heap.size)) Kd.string.sz acc (acc.map Value.string) → Reps (Kd.string.M w 0 (fun k => some k ≠ some w.heap.size)) Kd.string.sz (acc ++ l) ((acc ++ l).map Value.string) := by
      intro acc l
      induction l generalizing acc with
      | nil => intro h; simpa using h
      | cons x r ih =>
        intro h
        have h2 := ih (acc ++ [x]) (by
          have := h.snoc (p := x) (show Kd.string.M w 0 (fun k => some k ≠ some w.heap.size) x [.string x] from rfl) rfl
          simpa using this)
        simpa using h2
    simpa using this [] l (Reps.none _ _)
  have r := lit_rows Kd.string 9 w l _ (by omega) hr
  exact (Kd.R_reads' r).2.2
theorem inA : LogIn eA := entIn sA (by decide) 1
structure AwAt (W w : World) (rb mb : Nat) (us : List (Nat × Value)) (R : RG) (k : Nat) : Prop where
  live : RLive w rb mb us R k
  own : ∀ b ∈ blks rb us, W.heap.size ≤ b
  fr : Fr [] W w
theorem AwAt.fr0 {W w w' : World} {rb mb k : Nat} {us : List (Nat × Value)} {R : RG} (h : AwAt W w rb mb us R k) (f : Fr [] w w') : AwAt W w' rb mb us R k := ⟨h.live.fr0 f, h.own, h.fr.then f⟩
def Stays (w w' : World) : Prop := ∀ (b : Nat) (cs : Array Value) (t : TypeId), w.heap[b]? = some (.cells cs t (0, 0)) → t ≠ 87 → t ≠ 95 → t ≠ 108 → w'.heap[b]? = some (.cells cs t (0, 0))
theorem stays_of {w w' : World} {rb mb : Nat} {us : List (Nat × Value)} {R : RG} (h : RegAt w rb mb us R) (f : Fr (blks rb us) w w') : Stays w w' := by
  intro b cs t hb h1 h2 h3
  refine f.blk hb (fun hm => ?_)
  unfold blks at hm
  rcases List.mem_cons.1 hm with rfl | hm
  · rw [h.blk] at hb
    injection hb with hb; injection hb with _ hb; exact h1 hb.symm
  · obtain ⟨a, ha, hm⟩ := List.mem_flatMap.1 hm
    obtain ⟨i, hi⟩ := List.mem_iff_getElem?.1 ha
    obtain ⟨x, hx⟩ : ∃ x, R.places[i]? = some x := ⟨_, List.getElem?_eq_getElem (by rw [← h.len]; exact (List.getElem?_eq_some_iff.1 hi).1)⟩
    have hp := h.pl i x a hx hi
    rcases List.mem_cons.1 hm with rfl | hm
    · rw [hp.blk] at hb
      injection hb with hb; injection hb with _ hb; exact h2 hb.symm
    · obtain ⟨cells, hc⟩ := Kd.R_typed hp.row b (by simpa using hm)
      rw [hc] at hb
      injection hb with hb; injection hb with _ hb; exact h3 hb.symm
def AwEnd (W w : World) (rb mb : Nat) (R' : RG) (k : Nat) (v : Value) (e : Ending) (w' : World) : Prop := ∃ us', e = .returned v ∧ AwAt W w' rb mb us' R' k ∧ Stays w w'
theorem AwAt.step {W w w' : World} {rb mb k : Nat} {us : List (Nat × Value)} {R R' : RG} {x : Reg.Call LO} {p : Int × Int} {v : Value} {e : Ending} (h : AwAt W w rb mb us R k) (hx : LogIn x.log) (he : Reg.doBy wordB logB R x = (p, R')) (hd : Did rb mb us R' v w e w') : AwEnd W w rb mb R' (k + 1) v e w' := by
  have hst : Stays w w' := by
    obtain ⟨us', -, -, hf, -⟩ := hd
    exact stays_of h.live.at_ hf
  obtain ⟨us', h1, h2, h3, h4⟩ := step_did h.live hx h.own h.fr.size he hd
  exact ⟨us', h1, ⟨h2, h3, h4 _ _ h.fr (Nat.le_refl _)⟩, hst⟩
section
variable {W w : World} {rb mb k : Nat} {us : List (Nat × Value)} {R R' : RG}
theorem AwAt.record (h : AwAt W w rb mb us R k) (hk : k ≤ 1000) {n m : ByteArray} {ep t : Int} {p : Int × Int} {b : Nat} (hs : n.size ≤ maxLen) (hm : m.size ≤ maxLen) (r : kD.R 135 w 0 (fun _ => True) (.slice (some ⟨b, 0, none⟩) 1 1) [entD m]) (he : R.record wordB (logB (entX m t)) n ep (entX m t) = (p, R')) :
    Calls Tryz.prog 25 #[.pointer (some ⟨rb, 0, none⟩), .string n, .int .i64 ep, logV (entX m t) (.slice (some ⟨b, 0, none⟩) 1 1) (.slice none 0 0)] w (AwEnd W w rb mb R' (k + 1) (.tuple #[.int .i64 p.1, .int .i64 p.2])) := by
  have hi := entIn m hm t
  have := record_any validSays rb mb us R n ep (entX m t) (some ⟨b, 0, none⟩) 1 none 0 w h.live.at_ h.live.inv hs h.live.pl (by have := h.live.nr; omega) (ent_keep h.live.at_ r) nil_keep hi
  rw [he] at this
  exact this.mono fun e w' hd => h.step (x := ⟨Reg.kRecord, n, ep, false, entX m t⟩) hi he hd
theorem AwAt.ship (h : AwAt W w rb mb us R k) {n : ByteArray} {most : Int} {p : Int × Int} (hs : n.size ≤ maxLen) (he : R.ship wordB n most = (p, R')) :
    Calls Tryz.prog 22 #[.pointer (some ⟨rb, 0, none⟩), .string n, .int .i64 most] w (AwEnd W w rb mb R' (k + 1) (.tuple #[.int .i64 p.1, .int .i64 p.2])) := by
  have := ship_any rb mb us R n most w h.live.at_ h.live.inv hs h.live.pl
  rw [he] at this
  exact this.mono fun e w' hd => h.step (x := ⟨Reg.kShip, n, most, false, eA⟩) inA he hd
theorem AwAt.fail (h : AwAt W w rb mb us R k) (hk : k ≤ 1000) {n : ByteArray} {p : Int × Int} (hs : n.size ≤ maxLen) (he : R.fail wordB n = (p, R')) :
    Calls Tryz.prog 26 #[.pointer (some ⟨rb, 0, none⟩), .string n] w (AwEnd W w rb mb R' (k + 1) (.tuple #[.int .i64 p.1, .int .i64 p.2])) := by
  have := rfail_any rb mb us R n w h.live.at_ h.live.inv hs (by have := h.live.ne; omega)
  rw [he] at this
  exact this.mono fun e w' hd => h.step (x := ⟨⟨#[]⟩, n, 0, false, eA⟩) inA he hd
theorem AwAt.state (h : AwAt W w rb mb us R k) (pn : ByteArray) (en an : Int) (h1 : R.primary = pn) (h2 : R.epoch = en) (h3 : R.acked = an) :
    Calls Tryz.prog 16 #[.pointer (some ⟨rb, 0, none⟩)] w (fun e w' => ∃ A n c, e = .returned (.agg #[.string pn, .int .i64 en, .int .i64 an, .slice A n c]) ∧ Fr [] w w') :=
  (state_any rb mb us R w h.live.at_ h.live.inv.names h.live.nm h.live.pl).mono fun e w' ⟨v, he, r, f, _⟩ => by
    obtain ⟨A, c, rfl⟩ := Kd.R_slice r
    subst h1 h2 h3
    exact ⟨A, _, c, he, f⟩
end
theorem reg_field2 (p : ByteArray) (en an : Int) (A : Option Addr) (n c : Nat) (W : World) : (Instr.field 48 (.agg #[.string p, .int .i64 en, .int .i64 an, .slice A n c]) 1).run Tryz.prog W = .ok (.int .i64 en) W := by kernel_rfl
set_option maxRecDepth 100000 in
set_option maxHeartbeats 16000000 in
theorem awake_any (w : World) : Calls Tryz.prog 10 #[] w fun e w' => e = .returned (.bool true) ∧ Fr [] w w' := by
  have F1 := hid ((Fr.refl [] w).alloc (.cells #[.string ⟨#[110]⟩, .string ⟨#[109]⟩, .string ⟨#[107]⟩] 9))
  have HC1 := hid (strs_lit w [sN, sM, sK] (by simp))
  have hfld := reg_field2
  go_enter Tryz.func10, Tryz.ntmps10
  go_wp2_with fail
  have hnew := new_any (some ⟨w.heap.size, 0, none⟩) 3 [sN, sM, sK] 2 _ HC1.out (by
    intro s hs
    simp at hs
    rcases hs with rfl | rfl | rfl <;> decide) (by simp)
  rw [aw_new] at hnew
  refine hnew.mono ?_
  rintro e w1 ⟨rb, mb, us0, rfl, h1, f1, o1⟩
  have A0 := hid (show AwAt w w1 rb mb us0 r0 0 from ⟨r0_live h1, fun b hb => Nat.le_trans F1.out.size (o1 b hb), F1.out.then f1⟩)
  clear h1 f1 o1 hnew HC1 F1
  go_wp2_with fail
  refine (entry_any ⟨#[97]⟩ 1 _).mono ?_
  rintro e v1 ⟨b1, rfl, q1, g1, -⟩
  have A0 := hid (A0.out.fr0 g1)
  have Q1 := hid q1
  clear g1 q1
  go_wp2_with fail
  refine (AwAt.record A0.out (by omega) (n := sN) (m := sA) (ep := 1) (t := 1) (b := b1) (by decide) (by decide) Q1.out aw_r1).mono ?_
  rintro e w1x ⟨us1, rfl, h1, t1⟩
  have A1 := hid h1
  clear h1 t1
  go_wp2_with fail
  refine (AwAt.ship A1.out (n := sM) (most := 1) (by decide) aw_r2).mono ?_
  rintro e w2x ⟨us2, rfl, h2, t2⟩
  have A2 := hid h2
  clear h2 t2
  go_wp2_with fail
  refine (AwAt.state A2.out ⟨#[110]⟩ 1 1 (by rfl) (by rfl) (by rfl)).mono ?_
  rintro e s1 ⟨S1, n1, c1, rfl, g1⟩
  have g1' : Fr [] s1 (s1.alloc (.cells #[.string ⟨#[110]⟩, .int .i64 1, .int .i64 1, .slice S1 n1 c1] 48)) := (Fr.refl [] s1).alloc _
  have BX1 := hid (heap_alloc_new s1 (.cells #[.string ⟨#[110]⟩, .int .i64 1, .int .i64 1, .slice S1 n1 c1] 48))
  have A2 := hid (A2.out.fr0 (g1.then g1'))
  go_wp2_with fail
  generalize s1.alloc (.cells #[.string ⟨#[110]⟩, .int .i64 1, .int .i64 1, .slice S1 n1 c1] 48) = s1' at BX1 A2  ⊢
  generalize s1.heap.size = x1 at BX1 ⊢
  clear g1 g1'
  refine (entry_any ⟨#[98]⟩ 2 _).mono ?_
  rintro e v2 ⟨b2, rfl, q2, g2, -⟩
  have BX1 := hid (g2.blk BX1.out (by simp))
  have A2 := hid (A2.out.fr0 g2)
  have Q2 := hid q2
  clear g2 q2
  go_wp2_with fail
  refine (AwAt.record A2.out (by omega) (n := sN) (m := sB) (ep := 1) (t := 2) (b := b2) (by decide) (by decide) Q2.out aw_r3).mono ?_
  rintro e w3x ⟨us3, rfl, h3, t3⟩
  have BX1 := hid (t3 _ _ _ BX1.out (by decide) (by decide) (by decide))
  have A3 := hid h3
  clear h3 t3
  go_wp2_with fail
  refine (AwAt.state A3.out ⟨#[110]⟩ 1 1 (by rfl) (by rfl) (by rfl)).mono ?_
  rintro e s2 ⟨S2, n2, c2, rfl, g2⟩
  have g2' : Fr [] s2 (s2.alloc (.cells #[.string ⟨#[110]⟩, .int .i64 1, .int .i64 1, .slice S2 n2 c2] 48)) := (Fr.refl [] s2).alloc _
  have BX2 := hid (heap_alloc_new s2 (.cells #[.string ⟨#[110]⟩, .int .i64 1, .int .i64 1, .slice S2 n2 c2] 48))
  have BX1 := hid ((g2.then g2').blk BX1.out (by simp))
  have A3 := hid (A3.out.fr0 (g2.then g2'))
  go_wp2_with fail
  generalize s2.alloc (.cells #[.string ⟨#[110]⟩, .int .i64 1, .int .i64 1, .slice S2 n2 c2] 48) = s2' at BX2 A3 BX1 ⊢
  generalize s2.heap.size = x2 at BX2 ⊢
  clear g2 g2'
  refine (AwAt.fail A3.out (by omega) (n := sK) (by decide) aw_f3).mono ?_
  rintro e w4x ⟨us4, rfl, h4, t4⟩
  have BX1 := hid (t4 _ _ _ BX1.out (by decide) (by decide) (by decide))
  have BX2 := hid (t4 _ _ _ BX2.out (by decide) (by decide) (by decide))
  have A4 := hid h4
  clear h4 t4
  go_wp2_with fail
  refine (AwAt.fail A4.out (by omega) (n := sM) (by decide) aw_r4).mono ?_
  rintro e w5x ⟨us5, rfl, h5, t5⟩
  have BX1 := hid (t5 _ _ _ BX1.out (by decide) (by decide) (by decide))
  have BX2 := hid (t5 _ _ _ BX2.out (by decide) (by decide) (by decide))
  have A5 := hid h5
  clear h5 t5
  go_wp2_with fail
  refine (entry_any ⟨#[99]⟩ 3 _).mono ?_
  rintro e v3 ⟨b3, rfl, q3, g3, -⟩
  have BX1 := hid (g3.blk BX1.out (by simp))
  have BX2 := hid (g3.blk BX2.out (by simp))
  have A5 := hid (A5.out.fr0 g3)
  have Q3 := hid q3
  clear g3 q3
  go_wp2_with fail
  refine (AwAt.record A5.out (by omega) (n := sN) (m := sC) (ep := 1) (t := 3) (b := b3) (by decide) (by decide) Q3.out aw_c4).mono ?_
  rintro e w6x ⟨us6, rfl, h6, t6⟩
  have BX1 := hid (t6 _ _ _ BX1.out (by decide) (by decide) (by decide))
  have BX2 := hid (t6 _ _ _ BX2.out (by decide) (by decide) (by decide))
  have A6 := hid h6
  clear h6 t6
  go_wp2_with fail
  refine (AwAt.ship A6.out (n := sN) (most := 5) (by decide) aw_r5).mono ?_
  rintro e w7x ⟨us7, rfl, h7, t7⟩
  have BX1 := hid (t7 _ _ _ BX1.out (by decide) (by decide) (by decide))
  have BX2 := hid (t7 _ _ _ BX2.out (by decide) (by decide) (by decide))
  have A7 := hid h7
  clear h7 t7
  go_wp2_with fail
  have hlog := log_any rb mb _ r5 sN _ A7.out.live.at_ A7.out.live.inv A7.out.live.ok (by decide)
  rw [aw_log.1, aw_log.2] at hlog
  refine hlog.mono ?_
  rintro e y1 ⟨LV, rfl, lr, g4, -⟩
  obtain ⟨LA, LC, rfl⟩ := Kd.R_slice lr
  have BX1 := hid (g4.blk BX1.out (by simp))
  have BX2 := hid (g4.blk BX2.out (by simp))
  have A7 := hid (A7.out.fr0 g4)
  clear g4 lr hlog
  go_wp2_with fail
  refine (rbase_any rb mb _ r5 sM eA _ A7.out.live.at_ A7.out.live.inv A7.out.live.ok (by decide) aw_base inA aw_ok (by simp [eA, entX, entD]) rfl (by rw [aw_com])).mono ?_
  rintro e y2 ⟨tb, cb, cv, sb, fm, m1, m2, nx, rfl, hB, g5⟩
  have BX1 := hid (g5.blk BX1.out (by simp))
  have BX2 := hid (g5.blk BX2.out (by simp))
  have A7 := hid (A7.out.fr0 g5)
  have HB := hid hB
  clear g5 hB
  have g6 : Fr [] y2 (y2.alloc (.cells #[.map none, .string ⟨#[]⟩, .int .i64 0, .int .i64 0, .int .i64 0, .int .i64 0] 87)) := (Fr.refl [] y2).alloc _
  have BZ := hid (heap_alloc_new y2 (.cells #[.map none, .string ⟨#[]⟩, .int .i64 0, .int .i64 0, .int .i64 0, .int .i64 0] 87))
  have BX1 := hid (g6.blk BX1.out (by simp))
  have BX2 := hid (g6.blk BX2.out (by simp))
  have A7 := hid (A7.out.fr0 g6)
  have HB := hid (HB.out.fr0 g6)
  go_wp2_with fail
  generalize y2.alloc (.cells #[.map none, .string ⟨#[]⟩, .int .i64 0, .int .i64 0, .int .i64 0, .int .i64 0] 87) = y3 at BZ BX1 BX2 A7 HB ⊢
  generalize y2.heap.size = zb at BZ ⊢
  clear g6
  refine (entry_any ⟨#[97]⟩ 1 _).mono ?_
  rintro e y4 ⟨b4, rfl, -, g7, -⟩
  have BX1 := hid (g7.blk BX1.out (by simp))
  have BX2 := hid (g7.blk BX2.out (by simp))
  have BZ := hid (g7.blk BZ.out (by simp))
  have A7 := hid (A7.out.fr0 g7)
  have HB := hid (HB.out.fr0 g7)
  clear g7
  go_wp2_with fail
  refine (record_none none sN 1 eA (some ⟨b4, 0, none⟩) 1 none 0 _ (.inl rfl)).mono ?_
  rintro e y5 ⟨rfl, g8⟩
  have BX1 := hid (g8.blk BX1.out (by simp))
  have BX2 := hid (g8.blk BX2.out (by simp))
  have BZ := hid (g8.blk BZ.out (by simp))
  have A7 := hid (A7.out.fr0 g8)
  have HB := hid (HB.out.fr0 g8)
  clear g8
  have z0 := cell_of_row y5 zb 0 _ _ _ BZ.out
  simp at z0
  go_wp2_with fail
  refine (fail_none (some ⟨zb, 0, none⟩) sN _ (.inr ⟨zb, rfl, z0⟩)).mono ?_
  rintro e w' ⟨rfl, rfl⟩
  clear z0
  go_wp2_with fail
  refine (entry_none 1 _).mono ?_
  rintro e y6 ⟨rfl, g9⟩
  have BX1 := hid (g9.blk BX1.out (by simp))
  have BX2 := hid (g9.blk BX2.out (by simp))
  have BZ := hid (g9.blk BZ.out (by simp))
  have A7 := hid (A7.out.fr0 g9)
  have HB := hid (HB.out.fr0 g9)
  clear g9
  have g10 : Fr [] y6 (y6.alloc (.cells #[.slice none 0 0, .int .i64 0, .slice none 0 0, .int .i64 0] 40)) := (Fr.refl [] y6).alloc _
  have BX1 := hid (g10.blk BX1.out (by simp))
  have BX2 := hid (g10.blk BX2.out (by simp))
  have BZ := hid (g10.blk BZ.out (by simp))
  have A7 := hid (A7.out.fr0 g10)
  have HB := hid (HB.out.fr0 g10)
  go_wp2_with fail
  have hC2 := strs_lit (y6.alloc (.cells #[.slice none 0 0, .int .i64 0, .slice none 0 0, .int .i64 0] 40)) [sN] (by simp)
  rw [World.size_alloc] at hC2
  generalize y6.alloc (.cells #[.slice none 0 0, .int .i64 0, .slice none 0 0, .int .i64 0] 40) = y7 at hC2 BX1 BX2 BZ A7 HB ⊢
  have g11 : Fr [] y7 (y7.alloc (.cells #[.string ⟨#[110]⟩] 9)) := (Fr.refl [] y7).alloc _
  have BX1 := hid (g11.blk BX1.out (by simp))
  have BX2 := hid (g11.blk BX2.out (by simp))
  have BZ := hid (g11.blk BZ.out (by simp))
  have A7 := hid (A7.out.fr0 g11)
  have HB := hid (HB.out.fr0 g11)
  have hnew2 := new_any (some ⟨y6.heap.size + 1, 0, none⟩) 1 [sN] 2 _ hC2 (by
    intro s hs
    simp at hs
    subst hs
    decide) (by simp)
  rw [aw_bad] at hnew2
  refine hnew2.mono ?_
  rintro e y8 ⟨rfl, g12⟩
  have BX1 := hid (g12.blk BX1.out (by simp))
  have BX2 := hid (g12.blk BX2.out (by simp))
  have BZ := hid (g12.blk BZ.out (by simp))
  have A7 := hid (A7.out.fr0 g12)
  have HB := hid (HB.out.fr0 g12)
  clear g12 g11 g10 hC2 hnew2
  have p1 := cell_of_row y8 x1 2 _ _ _ BX1.out
  have p2 := cell_of_row y8 x1 0 _ _ _ BX1.out
  have p3 := cell_of_row y8 x2 2 _ _ _ BX2.out
  have z0 := cell_of_row y8 zb 0 _ _ _ BZ.out
  simp at p1 p2 p3 z0
  have hst : ((⟨#[110]⟩ : ByteArray).toList == [110]) = true := by decide +kernel
  go_wp2_with fail
  refine (tcount_any HB.out).mono ?_
  rintro e w' ⟨rfl, rfl⟩
  rw [aw_len]
  go_wp2_with fail
  refine (AwAt.state A7.out ⟨#[109]⟩ 2 1 (by rfl) (by rfl) (by rfl)).mono ?_
  rintro e y9 ⟨S9, n9, c9, rfl, g13⟩
  have z1 := g13.cell0 z0
  have A8 := hid (A7.out.fr0 g13)
  clear g13 p1 p2 p3 z0
  go_wp2_with fail
  refine (clone_none (some ⟨zb, 0, none⟩) _ (.inr ⟨zb, rfl, z1⟩)).mono ?_
  rintro e w' ⟨rfl, rfl⟩
  go_wp2_with fail
  refine (state_none none _ (.inl rfl)).mono ?_
  rintro e y10 ⟨rfl, g14⟩
  have A9 := hid (A8.out.fr0 g14)
  clear g14
  go_wp2
  go_ret
  exact ⟨rfl, A9.out.fr⟩
def runK (R : RG) (l : List SP) (k : Nat) : RG := Reg.runBy wordB logB R ((l.map callOf).take k)
theorem runK_step {R : RG} {l : List SP} {k : Nat} {x : SP} (h : l[k]? = some x) : (Reg.doBy wordB logB (runK R l k) (callOf x)).2 = runK R l (k + 1) := by
  unfold runK
  rw [Reg.run_take (x := callOf x) (by simp [h])]
theorem runK_0 (R : RG) (l : List SP) : runK R l 0 = R := by unfold runK; simp [Reg.runBy]
theorem AwAt.do {W w : World} {rb mb k : Nat} {us : List (Nat × Value)} {R : RG} (h : AwAt W w rb mb us R k) (hk : k ≤ 100000) {x : SP} (hx : StepIn x) {A0 A2 : Option Addr} (c0 c2 : Nat)
    (s0 : ∀ w', Fr [rb] w w' → Kd.C k135 w' A0 x.f4.f0.length x.f4.f0) (s2 : ∀ w', Fr [rb] w w' → kB.C w' A2 x.f4.f2.length x.f4.f2) :
    Calls Tryz.prog 13 #[.pointer (some ⟨rb, 0, none⟩), .agg #[.string x.f0, .string x.f1, .int .i64 x.f2, .bool x.f3, .slice A0 x.f4.f0.length c0, .int .i64 x.f4.f1, .slice A2 x.f4.f2.length c2, .int .i64 x.f4.f3]] w (fun e w' => ∃ us', e = .returned (pairV (Reg.doBy wordB logB R (callOf x)).1) ∧ AwAt W w' rb mb us' (Reg.doBy wordB logB R (callOf x)).2 (k + 1) ∧ Fr (blks rb us) w w') := by
  refine (do_any validSays W.heap.size rb mb us R k x A0 c0 A2 c2 w h.live hx hk s0 s2 h.own h.fr.size).mono ?_
  rintro e w' ⟨⟨us', h1, h2, h3, h4⟩, hf⟩
  exact ⟨us', h1, ⟨h2, h3, h4 _ _ h.fr (Nat.le_refl _)⟩, hf⟩
theorem AwAt.keepC {W w : World} {rb mb k : Nat} {us : List (Nat × Value)} {R : RG} (h : AwAt W w rb mb us R k) {α : Type} {d : Kd α} {A : Option Addr} {n : Nat} {xs : List α} (hC : Kd.C d W A n xs) : ∀ w', Fr [rb] w w' → Kd.C d w' A n xs := fun w' f =>
  Kd.C_below hC (h.fr.trans f (fun z hz => .inr (by
    obtain rfl := List.mem_singleton.1 hz
    exact h.own _ (List.mem_cons_self ..)))).below0
theorem rows_stay {α : Type} {d : Kd α} {e : TypeId} (hE : ∀ q ∈ e :: d.E, q ≠ 87 ∧ q ≠ 95 ∧ q ≠ 108) {w w' : World} {rb mb : Nat} {us : List (Nat × Value)} {R : RG} {v : Value} {l : List α} (h : RegAt w rb mb us R) (r : d.R e w 0 (fun _ => True) v l) (f : Fr (blks rb us) w w') : d.R e w' 0 (fun _ => True) v l := by
  have ht : ∀ b ∈ blks rb us, ∃ cs t, w.heap[b]? = some (.cells cs t (0, 0)) ∧ (t = 87 ∨ t = 95 ∨ t = 108) := by
    intro b hm
    unfold blks at hm
    rcases List.mem_cons.1 hm with rfl | hm
    · exact ⟨_, _, h.blk, .inl rfl⟩
    · obtain ⟨a, ha, hm⟩ := List.mem_flatMap.1 hm
      obtain ⟨i, hi⟩ := List.mem_iff_getElem?.1 ha
      obtain ⟨x, hx⟩ : ∃ x, R.places[i]? = some x := ⟨_, List.getElem?_eq_getElem (by rw [← h.len]; exact (List.getElem?_eq_some_iff.1 hi).1)⟩
      have hp := h.pl i x a hx hi
      rcases List.mem_cons.1 hm with rfl | hm
      · exact ⟨_, _, hp.blk, .inr (.inl rfl)⟩
      · obtain ⟨cells, hc⟩ := Kd.R_typed hp.row b (by simpa using hm)
        exact ⟨_, _, hc, .inr (.inr rfl)⟩
  have hno : ∀ (b : Nat), b ∈ blks rb us → ∀ q ∈ e :: d.E, ∀ cells, w.heap[b]? ≠ some (.cells cells q (0, 0)) := by
    intro b hb q hq cells hc
    obtain ⟨cs, t, h1, h2⟩ := ht b hb
    rw [h1] at hc
    injection hc with hc; injection hc with _ hc
    obtain ⟨g1, g2, g3⟩ := hE q hq
    rcases h2 with h2 | h2 | h2
    · exact g1 (hc.symm.trans h2)
    · exact g2 (hc.symm.trans h2)
    · exact g3 (hc.symm.trans h2)
  refine R_fr2 r f (fun b hb q hq cells hc => hno b hb q (List.mem_cons_of_mem _ hq) cells hc) (fun b hb hm => ?_)
  obtain ⟨cells, hc⟩ := Kd.R_typed r b hb
  exact hno b hm e (List.mem_cons_self ..) cells hc
theorem eLo : ∀ q ∈ 40 :: kLo.E, q ≠ 87 ∧ q ≠ 95 ∧ q ≠ 108 := by
  intro q hq
  rcases List.mem_cons.1 hq with rfl | hq
  · decide
  · have := kLo_E hq
    simp at this
    rcases this with rfl | rfl | rfl | rfl <;> decide
theorem ePc : ∀ q ∈ 65 :: kPc.E, q ≠ 87 ∧ q ≠ 95 ∧ q ≠ 108 := by
  intro q hq
  rcases List.mem_cons.1 hq with rfl | hq
  · decide
  · simp [Kd.iso, Kd.pair, Kd.int, Kd.string, Kd.bool, Kd.scalar, k65] at hq
theorem AwAt.recordX {W w : World} {rb mb k : Nat} {us : List (Nat × Value)} {R : RG} (h : AwAt W w rb mb us R k) (hk : k ≤ 1000) {n : ByteArray} {ep : Int} {x : LO} (hs : n.size ≤ maxLen) (hx : LogIn x) {A0 A2 : Option Addr} (c0 c2 : Nat)
    (s0 : ∀ w', Fr [rb] w w' → Kd.C k135 w' A0 x.f0.length x.f0) (s2 : ∀ w', Fr [rb] w w' → kB.C w' A2 x.f2.length x.f2) :
    Calls Tryz.prog 25 #[.pointer (some ⟨rb, 0, none⟩), .string n, .int .i64 ep, .agg #[.slice A0 x.f0.length c0, .int .i64 x.f1, .slice A2 x.f2.length c2, .int .i64 x.f3]] w (fun e w' => ∃ us', e = .returned (.tuple #[.int .i64 (R.record wordB (logB x) n ep x).1.1, .int .i64 (R.record wordB (logB x) n ep x).1.2]) ∧ AwAt W w' rb mb us' (R.record wordB (logB x) n ep x).2 (k + 1) ∧ Stays w w' ∧ Fr (blks rb us) w w') := by
  refine (record_any validSays rb mb us R n ep x A0 c0 A2 c2 w h.live.at_ h.live.inv hs h.live.pl (by have := h.live.nr; omega) s0 s2 hx).mono fun e w' hd => ?_
  have hd' := hd
  obtain ⟨-, -, -, hf, -⟩ := hd
  have he : Reg.doBy wordB logB R ⟨Reg.kRecord, n, ep, false, x⟩ = ((R.record wordB (logB x) n ep x).1, (R.record wordB (logB x) n ep x).2) := by
    unfold Reg.doBy
    rw [if_pos rfl]
  obtain ⟨us', h1, h2, h3⟩ := h.step (x := ⟨Reg.kRecord, n, ep, false, x⟩) hx he hd'
  exact ⟨us', h1, h2, h3, hf⟩
theorem fenced_er {R : RG} {v : Bool} {n : ByteArray} {ep : Int} {x : LO} (h : ¬ (n = R.primary ∧ ep = R.epoch)) : (R.record wordB v n ep x).1.2 = 1 ∨ (R.record wordB v n ep x).1.2 = 4 ∨ (R.record wordB v n ep x).1.2 = 15 ∨ (R.record wordB v n ep x).1.2 = 7 := by
  unfold Reg.Rg.record
  split
  · exact .inl rfl
  split
  · rename_i e he
    unfold Reg.Rg.find at he
    split at he
    · cases he; exact .inl rfl
    · split at he
      · cases he; exact .inr (.inl rfl)
      · cases he
  · unfold Reg.Rg.recordAt
    split
    · exact .inr (.inr (.inl rfl))
    split
    · exact .inr (.inr (.inr rfl))
    · rename_i h1
      exfalso
      apply h
      constructor
      · exact Decidable.byContradiction fun e => h1 (.inl e)
      · exact Decidable.byContradiction fun e => h1 (.inr e)
set_option maxRecDepth 100000 in
set_option maxHeartbeats 16000000 in
theorem fenced_any (An : Option Addr) (cn : Nat) (names : List ByteArray) (need : Int) (Al : Option Addr) (cl : Nat) (l : List SP) (x : SP) (A0 : Option Addr) (c0 : Nat) (A2 : Option Addr) (c2 : Nat) (w : World)
    (hN : Kd.C Kd.string w An names.length names) (hNs : ∀ s ∈ names, s.size ≤ maxLen) (hL : Kd.C kP w Al l.length l) (hLs : ∀ y ∈ l, StepIn y) (hx : StepIn x) (h0 : Kd.C k135 w A0 x.f4.f0.length x.f4.f0) (h2 : kB.C w A2 x.f4.f2.length x.f4.f2) :
    Calls Tryz.prog 6 #[.slice An names.length cn, .int .i64 need, .slice Al l.length cl, .agg (stL x A0 c0 A2 c2).toArray] w fun e w' => e = .returned (.bool true) ∧ Fr [] w w' := by
  have F0 := hid ((Fr.refl [] w).alloc (.cells (stL x A0 c0 A2 c2).toArray 42))
  have B0 := hid (heap_alloc_new w (.cells (stL x A0 c0 A2 c2).toArray 42))
  have HN := hid hN
  have HL := hid hL
  have H0 := hid h0
  have H2 := hid h2
  have HNS := hid hNs
  have HLS := hid hLs
  have HX := hid hx
  have hmN := Kd.C_max hN
  have hmL := Kd.C_max hL
  unfold stL at *
  clear hN hL h0 h2 hNs hLs hx
  go_enter Tryz.func6, Tryz.ntmps6
  go_wp2_with fail
  generalize w.alloc (.cells #[.string x.f0, .string x.f1, .int .i64 x.f2, .bool x.f3, .slice A0 x.f4.f0.length c0, .int .i64 x.f4.f1, .slice A2 x.f4.f2.length c2, .int .i64 x.f4.f3] 42) = wa at F0 B0 ⊢
  have HN := hid (Kd.C_below HN.out F0.out.below0)
  have HL := hid (Kd.C_below HL.out F0.out.below0)
  have H0 := hid (Kd.C_below H0.out F0.out.below0)
  have H2 := hid (Kd.C_below H2.out F0.out.below0)
  refine (great_any Al cl l wa HL.out).mono ?_
  rintro e wb ⟨bg, rfl, hbg, fb⟩
  have FB := hid fb
  have BB := hid (fb.blk B0.out (by simp))
  have HBG := hid hbg
  clear fb hbg
  have AWK := hid (fun (W : World) (f : Fr [] wa W) => (awake_any W).mono (R' := fun e w' => e = .returned (.bool true) ∧ Fr [] w w') (fun e w' ⟨h1, h2⟩ => ⟨h1, F0.out.then (f.then h2)⟩))
  cases bg with
  | true =>
    go_wp2_with fail
    refine (AWK.out _ FB.out).mono ?_
    rintro e w' ⟨rfl, f⟩
    go_wp2
    go_ret
    exact ⟨rfl, f⟩
  | false =>
    have hl60 := HBG.out rfl
    by_cases h50 : 50 < names.length
    · have q1 : decide ((50 : Int) < (names.length : Int)) = true := decide_eq_true (by omega)
      go_wp2_with fail
      refine (AWK.out _ FB.out).mono ?_
      rintro e w' ⟨rfl, f⟩
      go_wp2
      go_ret
      exact ⟨rfl, f⟩
    · have q1 : decide ((50 : Int) < (names.length : Int)) = false := decide_eq_false (by omega)
      have y4 := cell_of_row wb w.heap.size 4 _ _ _ BB.out
      have y5 := cell_of_row wb w.heap.size 5 _ _ _ BB.out
      have y6 := cell_of_row wb w.heap.size 6 _ _ _ BB.out
      have y7 := cell_of_row wb w.heap.size 7 _ _ _ BB.out
      simp at y4 y5 y6 y7
      go_wp2_with fail
      refine (size_any x.f4 A0 c0 A2 c2 wb (Kd.C_below H2.out FB.out.below0)).mono ?_
      rintro e wc ⟨z, rfl, fc⟩
      have FC := hid (FB.out.then fc)
      have BC := hid (fc.blk BB.out (by simp))
      clear fc y4 y5 y6 y7
      by_cases hz : 100 < z
      · have q2 : decide (100 < z) = true := decide_eq_true hz
        go_wp2_with fail
        refine (AWK.out _ FC.out).mono ?_
        rintro e w' ⟨rfl, f⟩
        go_wp2
        go_ret
        exact ⟨rfl, f⟩
      · have q2 : decide (100 < z) = false := decide_eq_false hz
        go_wp2_with fail
        have hnew := new_any An cn names need wc (Kd.C_below HN.out FC.out.below0) HNS.out (by omega)
        cases hnb : Reg.newBy (α := LO) wordB names need with
        | mk o er =>
          rw [hnb] at hnew
          cases o with
          | none =>
            have her := new_none hnb
            have her' : (er == 0) = false := by simpa using her
            clear hnb
            refine hnew.mono ?_
            rintro e wd ⟨rfl, fd⟩
            have FD := hid (FC.out.then fd)
            clear fd hnew
            go_wp2_with fail
            refine (AWK.out _ FD.out).mono ?_
            rintro e w' ⟨rfl, f⟩
            go_wp2
            go_ret
            exact ⟨rfl, f⟩
          | some R =>
            obtain rfl := new_errs hnb
            have HNB := hid hnb
            clear hnb
            refine hnew.mono ?_
            rintro e wd ⟨rb, mb, us, rfl, hd, fd, od⟩
            have AW := hid (show AwAt wa wd rb mb us R 0 from ⟨new_live HNB.out HNS.out hd, fun b hb => Nat.le_trans FC.out.size (od b hb), FC.out.then fd⟩)
            have BD := hid (fd.blk BC.out (by simp))
            clear hd fd od hnew
            have BA := hid B0.out
            clear BB BC BD
            go_wp2_with fail
            go_loopw [11] (fun i wr => ∃ (k : Nat) (us' : List (Nat × Value)), i = .int .i64 k ∧ k ≤ l.length ∧ AwAt wa wr rb mb us' (runK R l k) k) (fun i _ => l.length - (intOf i).toNat)
            case atStart => exact ⟨0, us, rfl, Nat.zero_le _, by rw [runK_0]; exact AW.out⟩
            case round =>
              obtain ⟨k, us', rfl, hk, hA⟩ := hrel
              have HA := hid hA
              clear hA
              by_cases hlt : k < l.length
              · obtain ⟨y, hy⟩ : ∃ y, l[k]? = some y := ⟨_, List.getElem?_eq_getElem hlt⟩
                obtain ⟨sb, so, B0', b0', B2', b2', eA, ⟨d0, d1, d2, d3, d4, d5, d6, d7⟩, r0, r2⟩ := steps_at HL.out hy
                subst eA
                have d0 := HA.out.fr.cell0 d0
                have d1 := HA.out.fr.cell0 d1
                have d2 := HA.out.fr.cell0 d2
                have d3 := HA.out.fr.cell0 d3
                have d4 := HA.out.fr.cell0 d4
                have d5 := HA.out.fr.cell0 d5
                have d6 := HA.out.fr.cell0 d6
                have d7 := HA.out.fr.cell0 d7
                have hm0 : (0 : Int) ≤ (k : Int) := by omega
                have hm1 : (k : Int) < (l.length : Int) := by omega
                have HY := hid hy
                have HDO := hid (HA.out.do (by omega) (HLS.out y (List.mem_iff_getElem?.2 ⟨k, hy⟩)) b0' b2' (HA.out.keepC r0) (HA.out.keepC r2))
                clear r0 r2 hy
                go_wp2_with fail
                refine HDO.out.mono ?_
                rintro e w5 ⟨us5, rfl, h5, -⟩
                have A5 := hid h5
                clear h5
                unfold pairV
                go_wp2
                go_roundw
                case rel => exact ⟨k + 1, us5, by go_num, by omega, by rw [← runK_step HY.out]; exact A5.out⟩
                case measure => simp [intOf]; omega
              · obtain rfl : k = l.length := by omega
                generalize runK R l l.length = R1 at HA
                go_wp2_with fail
                refine (state_any rb mb us' R1 _ HA.out.live.at_ HA.out.live.inv.names HA.out.live.nm HA.out.live.pl).mono ?_
                rintro e u1 ⟨sv, rfl, sr, f1, -⟩
                obtain ⟨SA, sc, rfl⟩ := Kd.R_slice sr
                have HA := hid (HA.out.fr0 f1)
                have SR := hid sr
                clear f1 sr
                unfold regV
                go_wp2_with fail
                refine (primary_any rb mb l.length us' R1 _ HA.out.live).mono ?_
                rintro e u2 ⟨lv, rfl, lr, f2, -⟩
                obtain ⟨LA, lc, rfl⟩ := Kd.R_slice lr
                have f2' : Fr [] u1 (u2.alloc (.cells #[.string R1.primary, .int .i64 R1.epoch, .int .i64 R1.acked, .slice SA (placesOf R1).length sc] 48)) := f2.alloc _
                have HA := hid (HA.out.fr0 f2')
                have SR := hid (R_fr0 SR.out f2')
                have LR := hid (R_fr0 lr ((Fr.refl [] u2).alloc (.cells #[.string R1.primary, .int .i64 R1.epoch, .int .i64 R1.acked, .slice SA (placesOf R1).length sc] 48)))
                have WB := hid (heap_alloc_new u2 (.cells #[.string R1.primary, .int .i64 R1.epoch, .int .i64 R1.acked, .slice SA (placesOf R1).length sc] 48))
                clear f2 f2' lr
                have bx := HA.out.fr.blk BA.out (by simp)
                have y2 := cell_of_row _ w.heap.size 2 _ _ _ bx
                have y1 := cell_of_row _ w.heap.size 1 _ _ _ bx
                have y4 := cell_of_row _ w.heap.size 4 _ _ _ bx
                have y5 := cell_of_row _ w.heap.size 5 _ _ _ bx
                have y6 := cell_of_row _ w.heap.size 6 _ _ _ bx
                have y7 := cell_of_row _ w.heap.size 7 _ _ _ bx
                have k0 := cell_of_row _ u2.heap.size 0 _ _ _ WB.out
                have k1 := cell_of_row _ u2.heap.size 1 _ _ _ WB.out
                simp at y1 y2 y4 y5 y6 y7
                simp at k0 k1
                clear bx
                by_cases hfen : x.f1 = R1.primary ∧ x.f2 = R1.epoch
                · have e1 : (x.f2 == R1.epoch) = true := by simp [hfen.2]
                  have e2 : (x.f1.toList == R1.primary.toList) = true := by rw [hfen.1]; simp
                  have HFR := hid HA.out.fr
                  clear hfen
                  go_wp2_with fail
                  refine (AWK.out _ HFR.out).mono ?_
                  rintro e w' ⟨rfl, f⟩
                  go_wp2
                  go_ret
                  exact ⟨rfl, f⟩
                · have FEN := hid (fenced (v := logB x.f4) (x := x.f4) hfen)
                  have FER := hid (fenced_er (v := logB x.f4) (x := x.f4) hfen)
                  have HREC := hid (HA.out.recordX (by omega) (ep := x.f2) HX.out.s1 HX.out.l c0 c2 (HA.out.keepC H0.out) (HA.out.keepC H2.out))
                  have fin : Hid (∀ (u4 : World) (us4 : List (Nat × Value)) (er : Int), (er == 0) = false → True) := hid (fun _ _ _ _ => trivial)
                  by_cases hne : x.f2 = R1.epoch
                  · have e1 : (x.f2 == R1.epoch) = true := by simp [hne]
                    have e2 : (x.f1.toList == R1.primary.toList) = false := list_beq (fun e => hfen ⟨e, hne⟩)
                    clear hfen hne
                    go_wp2_with fail
                    refine HREC.out.mono ?_
                    rintro e u4 ⟨us4, rfl, h4, st4, f4⟩
                    rw [FEN.out.2] at h4
                    have SR4 := hid (rows_stay ePc HA.out.live.at_ SR.out f4)
                    have LR4 := hid (rows_stay eLo HA.out.live.at_ LR.out f4)
                    have WB4 := hid (st4 _ _ _ WB.out (by decide) (by decide) (by decide))
                    have HA4 := hid h4
                    have her := FER.out
                    generalize (R1.record wordB (logB x.f4) x.f1 x.f2 x.f4).1.2 = er at her ⊢
                    generalize (R1.record wordB (logB x.f4) x.f1 x.f2 x.f4).1.1 = nn
                    rcases her with rfl | rfl | rfl | rfl
                    all_goals
                      generalize u2.heap.size = xb at WB4 ⊢
                      clear h4 st4 f4 y1 y2 y4 y5 y6 y7 k0 k1 HREC FEN FER fin
                      go_wp2_with fail
                      have HS := hid (fun w' (f : Fr [] u4 w') => (by
                        have hb := f.blk WB4.out (by simp)
                        have k0 := cell_of_row w' xb 0 _ _ _ hb
                        have k1 := cell_of_row w' xb 1 _ _ _ hb
                        have k2 := cell_of_row w' xb 2 _ _ _ hb
                        have k3 := cell_of_row w' xb 3 _ _ _ hb
                        simp at k0 k1 k2 k3
                        exact ⟨k0, k1, k2, k3⟩ : (fun w' : World => w'.cell? ⟨xb, 0, none⟩ = some (.string R1.primary) ∧ w'.cell? ⟨xb, 1, none⟩ = some (.int .i64 R1.epoch) ∧ w'.cell? ⟨xb, 2, none⟩ = some (.int .i64 R1.acked) ∧ w'.cell? ⟨xb, 3, none⟩ = some (.slice SA (placesOf R1).length sc)) w'))
                      have S0 := HS.out _ (Fr.refl [] u4).drew
                      go_region_held3 (fun w' : World => w'.cell? ⟨xb, 0, none⟩ = some (.string R1.primary) ∧ w'.cell? ⟨xb, 1, none⟩ = some (.int .i64 R1.epoch) ∧ w'.cell? ⟨xb, 2, none⟩ = some (.int .i64 R1.acked) ∧ w'.cell? ⟨xb, 3, none⟩ = some (.slice SA (placesOf R1).length sc)) (with_reducible first | exact S0 | exact S5 | exact S6 | exact S7 | exact S8 | exact S9) (first
                        | (go_at_call 16; refine (state_any rb mb us4 R1 _ (HA4.out.live.at_.fr0 (Fr.refl [] u4).drew) HA4.out.live.inv.names HA4.out.live.nm HA4.out.live.pl).mono ?_; rintro e u5 ⟨sv5, rfl, sr5, f5, -⟩; obtain ⟨SB, sc5, rfl⟩ := Kd.R_slice sr5; have F5 := hid ((Fr.refl [] u4).drew.then f5); have SR5 := hid sr5; have S5 := HS.out _ F5.out; unfold regV; clear f5 sr5)
                        | (go_at_call 15; refine (sstate_any R1 SB sc5 SA sc (placesOf R1) u5 (Kd.R_reads' SR5.out).2.2 (Kd.R_reads' (R_fr0 SR4.out F5.out)).2.2).mono ?_; rintro e u6 ⟨rfl, f6⟩; have F6 := hid (F5.out.then f6); have S6 := HS.out _ F6.out; clear f6)
                        | (go_at_call 20; refine (primary_any rb mb (l.length + 1) us4 R1 u6 (HA4.out.live.fr0 F6.out)).mono ?_; rintro e u7 ⟨lv7, rfl, lr7, f7, -⟩; obtain ⟨LB, lc7, rfl⟩ := Kd.R_slice lr7; have F7 := hid (F6.out.then f7); have LR7 := hid lr7; have S7 := HS.out _ F7.out; clear f7 lr7)
                        | (go_at_call 21; refine (slogs_any LB lc7 LA lc (logsOf R1) u7 (kLo_C LR7.out).2.2 (kLo_C (R_fr0 LR4.out F7.out)).2.2 (by have := Kd.C_max (kLo_C LR7.out).2.2; omega)).mono ?_; rintro e u8 ⟨rfl, f8⟩; have F8 := hid (F7.out.then f8); have S8 := HS.out _ F8.out; clear f8)
                        | (go_at_call 10; refine (awake_any u8).mono ?_; rintro e u9 ⟨rfl, f9⟩; have F9 := hid (F8.out.then f9); have S9 := HS.out _ F9.out; clear f9))
                      go_wp2
                      go_ret
                      exact ⟨rfl, F0.out.then (HA4.out.fr.then F9.out)⟩
                  · have e1 : (x.f2 == R1.epoch) = false := by simpa using hne
                    clear hfen hne
                    go_wp2_with fail
                    refine HREC.out.mono ?_
                    rintro e u4 ⟨us4, rfl, h4, st4, f4⟩
                    rw [FEN.out.2] at h4
                    have SR4 := hid (rows_stay ePc HA.out.live.at_ SR.out f4)
                    have LR4 := hid (rows_stay eLo HA.out.live.at_ LR.out f4)
                    have WB4 := hid (st4 _ _ _ WB.out (by decide) (by decide) (by decide))
                    have HA4 := hid h4
                    have her := FER.out
                    generalize (R1.record wordB (logB x.f4) x.f1 x.f2 x.f4).1.2 = er at her ⊢
                    generalize (R1.record wordB (logB x.f4) x.f1 x.f2 x.f4).1.1 = nn
                    rcases her with rfl | rfl | rfl | rfl
                    all_goals
                      generalize u2.heap.size = xb at WB4 ⊢
                      clear h4 st4 f4 y1 y2 y4 y5 y6 y7 k0 k1 HREC FEN FER fin
                      go_wp2_with fail
                      have HS := hid (fun w' (f : Fr [] u4 w') => (by
                        have hb := f.blk WB4.out (by simp)
                        have k0 := cell_of_row w' xb 0 _ _ _ hb
                        have k1 := cell_of_row w' xb 1 _ _ _ hb
                        have k2 := cell_of_row w' xb 2 _ _ _ hb
                        have k3 := cell_of_row w' xb 3 _ _ _ hb
                        simp at k0 k1 k2 k3
                        exact ⟨k0, k1, k2, k3⟩ : (fun w' : World => w'.cell? ⟨xb, 0, none⟩ = some (.string R1.primary) ∧ w'.cell? ⟨xb, 1, none⟩ = some (.int .i64 R1.epoch) ∧ w'.cell? ⟨xb, 2, none⟩ = some (.int .i64 R1.acked) ∧ w'.cell? ⟨xb, 3, none⟩ = some (.slice SA (placesOf R1).length sc)) w'))
                      have S0 := HS.out _ (Fr.refl [] u4).drew
                      go_region_held3 (fun w' : World => w'.cell? ⟨xb, 0, none⟩ = some (.string R1.primary) ∧ w'.cell? ⟨xb, 1, none⟩ = some (.int .i64 R1.epoch) ∧ w'.cell? ⟨xb, 2, none⟩ = some (.int .i64 R1.acked) ∧ w'.cell? ⟨xb, 3, none⟩ = some (.slice SA (placesOf R1).length sc)) (with_reducible first | exact S0 | exact S5 | exact S6 | exact S7 | exact S8 | exact S9) (first
                        | (go_at_call 16; refine (state_any rb mb us4 R1 _ (HA4.out.live.at_.fr0 (Fr.refl [] u4).drew) HA4.out.live.inv.names HA4.out.live.nm HA4.out.live.pl).mono ?_; rintro e u5 ⟨sv5, rfl, sr5, f5, -⟩; obtain ⟨SB, sc5, rfl⟩ := Kd.R_slice sr5; have F5 := hid ((Fr.refl [] u4).drew.then f5); have SR5 := hid sr5; have S5 := HS.out _ F5.out; unfold regV; clear f5 sr5)
                        | (go_at_call 15; refine (sstate_any R1 SB sc5 SA sc (placesOf R1) u5 (Kd.R_reads' SR5.out).2.2 (Kd.R_reads' (R_fr0 SR4.out F5.out)).2.2).mono ?_; rintro e u6 ⟨rfl, f6⟩; have F6 := hid (F5.out.then f6); have S6 := HS.out _ F6.out; clear f6)
                        | (go_at_call 20; refine (primary_any rb mb (l.length + 1) us4 R1 u6 (HA4.out.live.fr0 F6.out)).mono ?_; rintro e u7 ⟨lv7, rfl, lr7, f7, -⟩; obtain ⟨LB, lc7, rfl⟩ := Kd.R_slice lr7; have F7 := hid (F6.out.then f7); have LR7 := hid lr7; have S7 := HS.out _ F7.out; clear f7 lr7)
                        | (go_at_call 21; refine (slogs_any LB lc7 LA lc (logsOf R1) u7 (kLo_C LR7.out).2.2 (kLo_C (R_fr0 LR4.out F7.out)).2.2 (by have := Kd.C_max (kLo_C LR7.out).2.2; omega)).mono ?_; rintro e u8 ⟨rfl, f8⟩; have F8 := hid (F7.out.then f8); have S8 := HS.out _ F8.out; clear f8)
                        | (go_at_call 10; refine (awake_any u8).mono ?_; rintro e u9 ⟨rfl, f9⟩; have F9 := hid (F8.out.then f9); have S9 := HS.out _ F9.out; clear f9))
                      go_wp2
                      go_ret
                      exact ⟨rfl, F0.out.then (HA4.out.fr.then F9.out)⟩
theorem ship_first {R : RG} {p f : RP} {n : ByteArray} {k : Int} (hp : R.look n = some p) : (R.shipAt p f n k).2.first = R.first := by
  unfold Reg.Rg.shipAt
  split
  · rfl
  split
  · rfl
  rename_i hne
  split
  · rfl
  · show (R.put n _).first = R.first
    rw [Reg.put_first hp, if_neg (fun e => hne e.symm)]
theorem agree_end {R : RG} (h : Reg.Inv R) {n : ByteArray} {m : Int} (hm : (R.ship wordB n 4000).1 = (m, 0)) : logAt (R.ship wordB n 4000).2 n = logsOf (R.ship wordB n 4000).2 ∧ ((R.ship wordB n 4000).2.find wordB n).2 = 0 ∧ m ≤ ((logsOf (R.ship wordB n 4000).2).length : Int) ∧
    ((R.ship wordB n 4000).2.ship wordB n 4000).1 = (0, 0) ∧ logsOf ((R.ship wordB n 4000).2.ship wordB n 4000).2 = logsOf (R.ship wordB n 4000).2 := by
  obtain ⟨f, hf⟩ := h.prim
  cases hfi : R.find wordB n with
  | mk o er =>
    cases o with
    | none =>
      have he := Reg.find_err hfi
      unfold Reg.Rg.ship at hm
      rw [hfi] at hm
      injection hm with _ hm
      exact absurd hm he
    | some p =>
      obtain ⟨rfl, hw, hl⟩ := Reg.find_some hfi
      have es : R.ship wordB n 4000 = R.shipAt p f n 4000 := by
        unfold Reg.Rg.ship
        rw [hfi, hf]
      rw [es] at hm ⊢
      obtain ⟨e1, e2, e3, e4, e5, e6⟩ := Reg.ship_end h hl hf hm
      have hfi2 : (R.shipAt p f n 4000).2.find wordB n = (some { p with log := f.log }, 0) := by
        unfold Reg.Rg.find
        rw [if_neg (by simp [hw]), e1]
      have es2 : (R.shipAt p f n 4000).2.ship wordB n 4000 = (R.shipAt p f n 4000).2.shipAt { p with log := f.log } f n 4000 := by
        conv => lhs; unfold Reg.Rg.ship
        rw [hfi2, e3, e2]
      refine ⟨?_, by rw [hfi2], by rw [logs_len, e4]; omega, ?_, ?_⟩
      · unfold logAt logsOf
        rw [hfi2, e4]
      · rw [es2, e6]
      · rw [es2]
        unfold logsOf
        rw [ship_first e1]
theorem AwAt.shipX {W w : World} {rb mb k : Nat} {us : List (Nat × Value)} {R : RG} (h : AwAt W w rb mb us R k) {n : ByteArray} {most : Int} (hs : n.size ≤ maxLen) :
    Calls Tryz.prog 22 #[.pointer (some ⟨rb, 0, none⟩), .string n, .int .i64 most] w (fun e w' => ∃ us', e = .returned (.tuple #[.int .i64 (R.ship wordB n most).1.1, .int .i64 (R.ship wordB n most).1.2]) ∧ AwAt W w' rb mb us' (R.ship wordB n most).2 (k + 1) ∧ Fr (blks rb us) w w') := by
  refine (ship_any rb mb us R n most w h.live.at_ h.live.inv hs h.live.pl).mono fun e w' hd => ?_
  have hd' := hd
  obtain ⟨-, -, -, hf, -⟩ := hd
  have he : Reg.doBy wordB logB R ⟨Reg.kShip, n, most, false, eA⟩ = ((R.ship wordB n most).1, (R.ship wordB n most).2) := by
    unfold Reg.doBy
    rw [if_neg (by show ¬ Reg.kShip = Reg.kRecord; decide), if_pos rfl]
  obtain ⟨us', h1, h2, h3⟩ := h.step (x := ⟨Reg.kShip, n, most, false, eA⟩) inA he hd'
  exact ⟨us', h1, h2, hf⟩
set_option maxRecDepth 100000 in
set_option maxHeartbeats 16000000 in
theorem ragree_any (An : Option Addr) (cn : Nat) (names : List ByteArray) (need : Int) (Al : Option Addr) (cl : Nat) (l : List SP) (ton : ByteArray) (w : World)
    (hN : Kd.C Kd.string w An names.length names) (hNs : ∀ s ∈ names, s.size ≤ maxLen) (hL : Kd.C kP w Al l.length l) (hLs : ∀ y ∈ l, StepIn y) (hto : ton.size ≤ maxLen) :
    Calls Tryz.prog 5 #[.slice An names.length cn, .int .i64 need, .slice Al l.length cl, .string ton] w fun e w' => e = .returned (.bool true) ∧ Fr [] w w' := by
  have HN := hid hN
  have HL := hid hL
  have HNS := hid hNs
  have HLS := hid hLs
  have hmN := Kd.C_max hN
  have hmL := Kd.C_max hL
  have AWK := hid (fun (W : World) (f : Fr [] w W) => (awake_any W).mono (R' := fun e w' => e = .returned (.bool true) ∧ Fr [] w w') (fun e w' ⟨h1, h2⟩ => ⟨h1, f.then h2⟩))
  clear hN hL hNs hLs
  go_enter Tryz.func5, Tryz.ntmps5
  go_wp2_with fail
  refine (great_any Al cl l w HL.out).mono ?_
  rintro e wb ⟨bg, rfl, hbg, fb⟩
  have FB := hid fb
  have HBG := hid hbg
  clear fb hbg
  cases bg with
  | true =>
    go_wp2_with fail
    refine (AWK.out _ FB.out).mono ?_
    rintro e w' ⟨rfl, f⟩
    go_wp2
    go_ret
    exact ⟨rfl, f⟩
  | false =>
    have hl60 := HBG.out rfl
    by_cases h50 : 50 < names.length
    · have q1 : decide ((50 : Int) < (names.length : Int)) = true := decide_eq_true (by omega)
      go_wp2_with fail
      refine (AWK.out _ FB.out).mono ?_
      rintro e w' ⟨rfl, f⟩
      go_wp2
      go_ret
      exact ⟨rfl, f⟩
    · have q1 : decide ((50 : Int) < (names.length : Int)) = false := decide_eq_false (by omega)
      go_wp2_with fail
      have hnew := new_any An cn names need wb (Kd.C_below HN.out FB.out.below0) HNS.out (by omega)
      cases hnb : Reg.newBy (α := LO) wordB names need with
      | mk o er =>
        rw [hnb] at hnew
        cases o with
        | none =>
          have her := new_none hnb
          have her' : (er == 0) = false := by simpa using her
          clear hnb
          refine hnew.mono ?_
          rintro e wd ⟨rfl, fd⟩
          have FD := hid (FB.out.then fd)
          clear fd hnew
          go_wp2_with fail
          refine (AWK.out _ FD.out).mono ?_
          rintro e w' ⟨rfl, f⟩
          go_wp2
          go_ret
          exact ⟨rfl, f⟩
        | some R =>
          obtain rfl := new_errs hnb
          have HNB := hid hnb
          clear hnb
          refine hnew.mono ?_
          rintro e wd ⟨rb, mb, us, rfl, hd, fd, od⟩
          have AW := hid (show AwAt w wd rb mb us R 0 from ⟨new_live HNB.out HNS.out hd, fun b hb => Nat.le_trans FB.out.size (od b hb), FB.out.then fd⟩)
          clear hd fd od hnew
          go_wp2_with fail
          go_loopw [11] (fun i wr => ∃ (k : Nat) (us' : List (Nat × Value)), i = .int .i64 k ∧ k ≤ l.length ∧ AwAt w wr rb mb us' (runK R l k) k) (fun i _ => l.length - (intOf i).toNat)
          case atStart => exact ⟨0, us, rfl, Nat.zero_le _, by rw [runK_0]; exact AW.out⟩
          case round =>
            obtain ⟨k, us', rfl, hk, hA⟩ := hrel
            have HA := hid hA
            clear hA
            by_cases hlt : k < l.length
            · obtain ⟨y, hy⟩ : ∃ y, l[k]? = some y := ⟨_, List.getElem?_eq_getElem hlt⟩
              obtain ⟨sb, so, B0', b0', B2', b2', eA, ⟨d0, d1, d2, d3, d4, d5, d6, d7⟩, r0, r2⟩ := steps_at HL.out hy
              subst eA
              have d0 := HA.out.fr.cell0 d0
              have d1 := HA.out.fr.cell0 d1
              have d2 := HA.out.fr.cell0 d2
              have d3 := HA.out.fr.cell0 d3
              have d4 := HA.out.fr.cell0 d4
              have d5 := HA.out.fr.cell0 d5
              have d6 := HA.out.fr.cell0 d6
              have d7 := HA.out.fr.cell0 d7
              have hm0 : (0 : Int) ≤ (k : Int) := by omega
              have hm1 : (k : Int) < (l.length : Int) := by omega
              have HY := hid hy
              have HDO := hid (HA.out.do (by omega) (HLS.out y (List.mem_iff_getElem?.2 ⟨k, hy⟩)) b0' b2' (HA.out.keepC r0) (HA.out.keepC r2))
              clear r0 r2 hy
              go_wp2_with fail
              refine HDO.out.mono ?_
              rintro e w5 ⟨us5, rfl, h5, -⟩
              have A5 := hid h5
              clear h5
              unfold pairV
              go_wp2
              go_roundw
              case rel => exact ⟨k + 1, us5, by go_num, by omega, by rw [← runK_step HY.out]; exact A5.out⟩
              case measure => simp [intOf]; omega
            · obtain rfl : k = l.length := by omega
              generalize runK R l l.length = R1 at HA
              go_wp2_with fail
              refine (HA.out.shipX hto).mono ?_
              rintro e w6 ⟨us6, rfl, h6, -⟩
              have A6 := hid h6
              have HE := hid (fun m => agree_end (R := R1) (n := ton) (m := m) HA.out.live.inv)
              clear h6
              generalize hP : R1.ship wordB ton 4000 = P at A6 HE ⊢
              obtain ⟨⟨m, er⟩, R2⟩ := P
              dsimp only at A6 HE ⊢
              clear hP
              by_cases her : er = 0
              · subst her
                obtain ⟨E1, E2, E3, E4, E5⟩ := HE.out m rfl
                have HL2 := hid (log_any rb mb us6 R2 ton _ A6.out.live.at_ A6.out.live.inv A6.out.live.ok hto)
                rw [E1, E2] at HL2
                have hmle : decide (m ≤ ((logsOf R2).length : Int)) = true := decide_eq_true E3
                have e4 := hid E4
                have e5 := hid E5
                clear E1 E2 E4 E5 HE
                go_wp2_with fail
                refine HL2.out.mono ?_
                rintro e w7 ⟨xv, rfl, xr, f7, -⟩
                obtain ⟨XA, xc, rfl⟩ := Kd.R_slice xr
                have A7 := hid (A6.out.fr0 f7)
                have XR := hid xr
                clear f7 xr
                go_wp2_with fail
                refine (A7.out.shipX (most := 4000) hto).mono ?_
                rintro e w8 ⟨us8, rfl, h8, f8⟩
                have A8 := hid h8
                have XR8 := hid (rows_stay eLo A7.out.live.at_ XR.out f8)
                rw [e4.out]
                clear h8 f8
                go_wp2_with fail
                refine (primary_any rb mb _ us8 _ w8 A8.out.live).mono ?_
                rintro e w9 ⟨pv, rfl, pr, f9, -⟩
                rw [e5.out] at pr
                obtain ⟨PA, pc, rfl⟩ := Kd.R_slice pr
                have A9 := hid (A8.out.fr0 f9)
                have XR9 := hid (R_fr0 XR8.out f9)
                have PR := hid pr
                clear f9 pr
                go_wp2_with fail
                refine (slogs_any XA xc PA pc (logsOf R2) w9 (kLo_C XR9.out).2.2 (kLo_C PR.out).2.2 (Kd.C_max (kLo_C PR.out).2.2)).mono ?_
                rintro e w10 ⟨rfl, f10⟩
                have A10 := hid (A9.out.fr0 f10)
                clear f10
                go_wp2_with fail
                refine (AWK.out _ A10.out.fr).mono ?_
                rintro e w' ⟨rfl, f⟩
                go_wp2
                go_ret
                exact ⟨rfl, f⟩
              · have her' : (er == 0) = false := by simpa using her
                clear her HE
                go_wp2_with fail
                refine (AWK.out _ A6.out.fr).mono ?_
                rintro e w' ⟨rfl, f⟩
                go_wp2
                go_ret
                exact ⟨rfl, f⟩
end Go.Proofs.YtkolnoadeihmoaaGreat
