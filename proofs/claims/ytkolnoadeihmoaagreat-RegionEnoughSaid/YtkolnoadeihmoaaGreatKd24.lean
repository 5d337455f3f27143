/-
  Regions awake: the walk.
  Regions awake: the examples hold.
  What a law's loop carries.
  RegionEnough: some region can take over; the walk.
-/
import Derived.Test.YtkolnoadeihmoaaGreatKd23
import Derived.Test.YtkolnoadeihmoaaGreatKd19
namespace Go.Proofs.YtkolnoadeihmoaaGreat
open Go.RowKit Go.Proofs.YtkolnoadeihmoaaGreatW.PrintWords
theorem step_did {w0 rb mb k : Nat} {us : List (Nat × Value)} {R R' : RG} {x : Reg.Call LO} {p : Int × Int} {v : Value} {w : World} {e : Ending} {w' : World} (h : RLive w rb mb us R k) (hx : LogIn x.log) (hb : ∀ b ∈ blks rb us, w0 ≤ b) (h0 : w0 ≤ w.heap.size) (he : Reg.doBy wordB logB R x = (p, R')) (hd : Did rb mb us R' v w e w') : Did2 w0 rb mb (k + 1) R' v w e w' := by
  have := Did2.of (v := v) (e := e) (w' := w') h hx hb h0 (by rw [he]; exact hd)
  rw [he] at this
  exact this
theorem ent_keep {n : ByteArray} {w : World} {rb mb b : Nat} {us : List (Nat × Value)} {R : RG} (h : RegAt w rb mb us R) (r : kD.R 135 w 0 (fun _ => True) (.slice (some ⟨b, 0, none⟩) 1 1) [entD n]) : ∀ w', Fr [rb] w w' → Kd.C k135 w' (some ⟨b, 0, none⟩) [entD n].length [entD n] := by
  intro w' f
  have hE : ∀ q ∈ kD.E, q ≠ 87 := fun q hq => by
    simp [kD, Kd.iso, Kd.pair, Kd.int, Kd.string, Kd.scalar, ros, k192] at hq
    rcases hq with rfl | rfl <;> decide
  have r' := R_fr2 r f (NoT.one h.blk hE) (fun k hk hm => by
    obtain ⟨cells, hc⟩ := Kd.R_typed r k hk
    obtain rfl := List.mem_singleton.1 hm
    rw [h.blk] at hc
    injection hc with hc; injection hc with _ hc; exact absurd hc (by decide))
  exact (Kd.R_reads' r').2.2
theorem nil_keep {w : World} {rb : Nat} : ∀ w', Fr [rb] w w' → kB.C w' none ([] : List BL).length [] := fun w' _ => ⟨rfl, by simp, fun h => absurd h (by simp)⟩
theorem strs_lit (w : World) (l : List ByteArray) (hl : l.length ≤ 1000) : Kd.C Kd.string (w.alloc (.cells (l.map Value.string).toArray 9)) (some ⟨w.heap.size, 0, none⟩) l.length l := by
  have hr : Reps (Kd.string.M w 0 (fun k => some k ≠ some w.heap.size)) Kd.string.sz l (l.map Value.string) := by
    have : ∀ (acc l : List ByteArray), Reps (Kd.string.M w 0 (fun k => some k ≠ some w.heap.size)) Kd.string.sz acc (acc.map Value.string) → Reps (Kd.string.M w 0 (fun k => some k ≠ some w.heap.size)) Kd.string.sz (acc ++ l) ((acc ++ l).map Value.string) := by
      intro acc l
      induction l generalizing acc with
      | nil => intro h; simpa using h
      | cons x r ih =>
        intro h
        have h2 := ih (acc ++ [x]) (by
          have := h.snoc (p := x) (show Kd.string.M w 0 (fun k => some k ≠ some w.heap.size) x [.string x] from rfl) rfl
          simpa using this)
        simpa using h2
    simpa using this [] l (Reps.none _ _)
  have r := lit_rows Kd.string 9 w l _ (by omega) hr
  exact (Kd.R_reads' r).2.2
theorem inA : LogIn eA := entIn sA (by decide) 1
structure AwAt (W w : World) (rb mb : Nat) (us : List (Nat × Value)) (R : RG) (k : Nat) : Prop where
  live : RLive w rb mb us R k
  own : ∀ b ∈ blks rb us, W.heap.size ≤ b
  fr : Fr [] W w
theorem AwAt.fr0 {W w w' : World} {rb mb k : Nat} {us : List (Nat × Value)} {R : RG} (h : AwAt W w rb mb us R k) (f : Fr [] w w') : AwAt W w' rb mb us R k := ⟨h.live.fr0 f, h.own, h.fr.then f⟩
def Stays (w w' : World) : Prop := ∀ (b : Nat) (cs : Array Value) (t : TypeId), w.heap[b]? = some (.cells cs t (0, 0)) → t ≠ 87 → t ≠ 95 → t ≠ 108 → w'.heap[b]? = some (.cells cs t (0, 0))
theorem stays_of {w w' : World} {rb mb : Nat} {us : List (Nat × Value)} {R : RG} (h : RegAt w rb mb us R) (f : Fr (blks rb us) w w') : Stays w w' := by
  intro b cs t hb h1 h2 h3
  refine f.blk hb (fun hm => ?_)
  unfold blks at hm
  rcases List.mem_cons.1 hm with rfl | hm
  · rw [h.blk] at hb
    injection hb with hb; injection hb with _ hb; exact h1 hb.symm
  · obtain ⟨a, ha, hm⟩ := List.mem_flatMap.1 hm
    obtain ⟨i, hi⟩ := List.mem_iff_getElem?.1 ha
    obtain ⟨x, hx⟩ : ∃ x, R.places[i]? = some x := ⟨_, List.getElem?_eq_getElem (by rw [← h.len]; exact (List.getElem?_eq_some_iff.1 hi).1)⟩
    have hp := h.pl i x a hx hi
    rcases List.mem_cons.1 hm with rfl | hm
    · rw [hp.blk] at hb
      injection hb with hb; injection hb with _ hb; exact h2 hb.symm
    · obtain ⟨cells, hc⟩ := Kd.R_typed hp.row b (by simpa using hm)
      rw [hc] at hb
      injection hb with hb; injection hb with _ hb; exact h3 hb.symm
def AwEnd (W w : World) (rb mb : Nat) (R' : RG) (k : Nat) (v : Value) (e : Ending) (w' : World) : Prop := ∃ us', e = .returned v ∧ AwAt W w' rb mb us' R' k ∧ Stays w w'
theorem AwAt.step {W w w' : World} {rb mb k : Nat} {us : List (Nat × Value)} {R R' : RG} {x : Reg.Call LO} {p : Int × Int} {v : Value} {e : Ending} (h : AwAt W w rb mb us R k) (hx : LogIn x.log) (he : Reg.doBy wordB logB R x = (p, R')) (hd : Did rb mb us R' v w e w') : AwEnd W w rb mb R' (k + 1) v e w' := by
  have hst : Stays w w' := by
    obtain ⟨us', -, -, hf, -⟩ := hd
    exact stays_of h.live.at_ hf
  obtain ⟨us', h1, h2, h3, h4⟩ := step_did h.live hx h.own h.fr.size he hd
  exact ⟨us', h1, ⟨h2, h3, h4 _ _ h.fr (Nat.le_refl _)⟩, hst⟩
section
variable {W w : World} {rb mb k : Nat} {us : List (Nat × Value)} {R R' : RG}
theorem AwAt.record (h : AwAt W w rb mb us R k) (hk : k ≤ 1000) {n m : ByteArray} {ep t : Int} {p : Int × Int} {b : Nat} (hs : n.size ≤ maxLen) (hm : m.size ≤ maxLen) (r : kD.R 135 w 0 (fun _ => True) (.slice (some ⟨b, 0, none⟩) 1 1) [entD m]) (he : R.record wordB (logB (entX m t)) n ep (entX m t) = (p, R')) :
    Calls Tryz.prog 25 #[.pointer (some ⟨rb, 0, none⟩), .string n, .int .i64 ep, logV (entX m t) (.slice (some ⟨b, 0, none⟩) 1 1) (.slice none 0 0)] w (AwEnd W w rb mb R' (k + 1) (.tuple #[.int .i64 p.1, .int .i64 p.2])) := by
  have hi := entIn m hm t
  have := record_any validSays rb mb us R n ep (entX m t) (some ⟨b, 0, none⟩) 1 none 0 w h.live.at_ h.live.inv hs h.live.pl (by have := h.live.nr; omega) (ent_keep h.live.at_ r) nil_keep hi
  rw [he] at this
  exact this.mono fun e w' hd => h.step (x := ⟨Reg.kRecord, n, ep, false, entX m t⟩) hi he hd
theorem AwAt.ship (h : AwAt W w rb mb us R k) {n : ByteArray} {most : Int} {p : Int × Int} (hs : n.size ≤ maxLen) (he : R.ship wordB n most = (p, R')) :
    Calls Tryz.prog 22 #[.pointer (some ⟨rb, 0, none⟩), .string n, .int .i64 most] w (AwEnd W w rb mb R' (k + 1) (.tuple #[.int .i64 p.1, .int .i64 p.2])) := by
  have := ship_any rb mb us R n most w h.live.at_ h.live.inv hs h.live.pl
  rw [he] at this
  exact this.mono fun e w' hd => h.step (x := ⟨Reg.kShip, n, most, false, eA⟩) inA he hd
theorem AwAt.fail (h : AwAt W w rb mb us R k) (hk : k ≤ 1000) {n : ByteArray} {p : Int × Int} (hs : n.size ≤ maxLen) (he : R.fail wordB n = (p, R')) :
    Calls Tryz.prog 26 #[.pointer (some ⟨rb, 0, none⟩), .string n] w (AwEnd W w rb mb R' (k + 1) (.tuple #[.int .i64 p.1, .int .i64 p.2])) := by
  have := rfail_any rb mb us R n w h.live.at_ h.live.inv hs (by have := h.live.ne; omega)
  rw [he] at this
  exact this.mono fun e w' hd => h.step (x := ⟨⟨#[]⟩, n, 0, false, eA⟩) inA he hd
theorem AwAt.state (h : AwAt W w rb mb us R k) (pn : ByteArray) (en an : Int) (h1 : R.primary = pn) (h2 : R.epoch = en) (h3 : R.acked = an) :
    Calls Tryz.prog 16 #[.pointer (some ⟨rb, 0, none⟩)] w (fun e w' => ∃ A n c, e = .returned (.agg #[.string pn, .int .i64 en, .int .i64 an, .slice A n c]) ∧ Fr [] w w') :=
  (state_any rb mb us R w h.live.at_ h.live.inv.names h.live.nm h.live.pl).mono fun e w' ⟨v, he, r, f, _⟩ => by
    obtain ⟨A, c, rfl⟩ := Kd.R_slice r
    subst h1 h2 h3
    exact ⟨A, _, c, he, f⟩
end
theorem reg_field2 (p : ByteArray) (en an : Int) (A : Option Addr) (n c : Nat) (W : World) : (Instr.field 48 (.agg #[.string p, .int .i64 en, .int .i64 an, .slice A n c]) 1).run Tryz.prog W = .ok (.int .i64 en) W := by kernel_rfl
set_option maxRecDepth 100000 in
set_option maxHeartbeats 16000000 in
theorem awake_any (w : World) : Calls Tryz.prog 10 #[] w fun e w' => e = .returned (.bool true) ∧ Fr [] w w' := by
  have F1 := hid ((Fr.refl [] w).alloc (.cells #[.string ⟨#[110]⟩, .string ⟨#[109]⟩, .string ⟨#[107]⟩] 9))
  have HC1 := hid (strs_lit w [sN, sM, sK] (by simp))
  have hfld := reg_field2
  go_enter Tryz.func10, Tryz.ntmps10
  go_wp2_with fail
  have hnew := new_any (some ⟨w.heap.size, 0, none⟩) 3 [sN, sM, sK] 2 _ HC1.out (by
    intro s hs
    simp at hs
    rcases hs with rfl | rfl | rfl <;> decide) (by simp)
  rw [aw_new] at hnew
  refine hnew.mono ?_
  rintro e w1 ⟨rb, mb, us0, rfl, h1, f1, o1⟩
  have A0 := hid (show AwAt w w1 rb mb us0 r0 0 from ⟨r0_live h1, fun b hb => Nat.le_trans F1.out.size (o1 b hb), F1.out.then f1⟩)
  clear h1 f1 o1 hnew HC1 F1
  go_wp2_with fail
  refine (entry_any ⟨#[97]⟩ 1 _).mono ?_
  rintro e v1 ⟨b1, rfl, q1, g1, -⟩
  have A0 := hid (A0.out.fr0 g1)
  have Q1 := hid q1
  clear g1 q1
  go_wp2_with fail
  refine (AwAt.record A0.out (by omega) (n := sN) (m := sA) (ep := 1) (t := 1) (b := b1) (by decide) (by decide) Q1.out aw_r1).mono ?_
  rintro e w1x ⟨us1, rfl, h1, t1⟩
  have A1 := hid h1
  clear h1 t1
  go_wp2_with fail
  refine (AwAt.ship A1.out (n := sM) (most := 1) (by decide) aw_r2).mono ?_
  rintro e w2x ⟨us2, rfl, h2, t2⟩
  have A2 := hid h2
  clear h2 t2
  go_wp2_with fail
  refine (AwAt.state A2.out ⟨#[110]⟩ 1 1 (by rfl) (by rfl) (by rfl)).mono ?_
  rintro e s1 ⟨S1, n1, c1, rfl, g1⟩
  have g1' : Fr [] s1 (s1.alloc (.cells #[.string ⟨#[110]⟩, .int .i64 1, .int .i64 1, .slice S1 n1 c1] 48)) := (Fr.refl [] s1).alloc _
  have BX1 := hid (heap_alloc_new s1 (.cells #[.string ⟨#[110]⟩, .int .i64 1, .int .i64 1, .slice S1 n1 c1] 48))
  have A2 := hid (A2.out.fr0 (g1.then g1'))
  go_wp2_with fail
  generalize s1.alloc (.cells #[.string ⟨#[110]⟩, .int .i64 1, .int .i64 1, .slice S1 n1 c1] 48) = s1' at BX1 A2  ⊢
  generalize s1.heap.size = x1 at BX1 ⊢
  clear g1 g1'
  refine (entry_any ⟨#[98]⟩ 2 _).mono ?_
  rintro e v2 ⟨b2, rfl, q2, g2, -⟩
  have BX1 := hid (g2.blk BX1.out (by simp))
  have A2 := hid (A2.out.fr0 g2)
  have Q2 := hid q2
  clear g2 q2
  go_wp2_with fail
  refine (AwAt.record A2.out (by omega) (n := sN) (m := sB) (ep := 1) (t := 2) (b := b2) (by decide) (by decide) Q2.out aw_r3).mono ?_
  rintro e w3x ⟨us3, rfl, h3, t3⟩
  have BX1 := hid (t3 _ _ _ BX1.out (by decide) (by decide) (by decide))
  have A3 := hid h3
  clear h3 t3
  go_wp2_with fail
  refine (AwAt.state A3.out ⟨#[110]⟩ 1 1 (by rfl) (by rfl) (by rfl)).mono ?_
  rintro e s2 ⟨S2, n2, c2, rfl, g2⟩
  have g2' : Fr [] s2 (s2.alloc (.cells #[.string ⟨#[110]⟩, .int .i64 1, .int .i64 1, .slice S2 n2 c2] 48)) := (Fr.refl [] s2).alloc _
  have BX2 := hid (heap_alloc_new s2 (.cells #[.string ⟨#[110]⟩, .int .i64 1, .int .i64 1, .slice S2 n2 c2] 48))
  have BX1 := hid ((g2.then g2').blk BX1.out (by simp))
  have A3 := hid (A3.out.fr0 (g2.then g2'))
  go_wp2_with fail
  generalize s2.alloc (.cells #[.string ⟨#[110]⟩, .int .i64 1, .int .i64 1, .slice S2 n2 c2] 48) = s2' at BX2 A3 BX1 ⊢
  generalize s2.heap.size = x2 at BX2 ⊢
  clear g2 g2'
  refine (AwAt.fail A3.out (by omega) (n := sK) (by decide) aw_f3).mono ?_
  rintro e w4x ⟨us4, rfl, h4, t4⟩
  have BX1 := hid (t4 _ _ _ BX1.out (by decide) (by decide) (by decide))
  have BX2 := hid (t4 _ _ _ BX2.out (by decide) (by decide) (by decide))
  have A4 := hid h4
  clear h4 t4
  go_wp2_with fail
  refine (AwAt.fail A4.out (by omega) (n := sM) (by decide) aw_r4).mono ?_
  rintro e w5x ⟨us5, rfl, h5, t5⟩
  have BX1 := hid (t5 _ _ _ BX1.out (by decide) (by decide) (by decide))
  have BX2 := hid (t5 _ _ _ BX2.out (by decide) (by decide) (by decide))
  have A5 := hid h5
  clear h5 t5
  go_wp2_with fail
  refine (entry_any ⟨#[99]⟩ 3 _).mono ?_
  rintro e v3 ⟨b3, rfl, q3, g3, -⟩
  have BX1 := hid (g3.blk BX1.out (by simp))
  have BX2 := hid (g3.blk BX2.out (by simp))
  have A5 := hid (A5.out.fr0 g3)
  have Q3 := hid q3
  clear g3 q3
  go_wp2_with fail
  refine (AwAt.record A5.out (by omega) (n := sN) (m := sC) (ep := 1) (t := 3) (b := b3) (by decide) (by decide) Q3.out aw_c4).mono ?_
  rintro e w6x ⟨us6, rfl, h6, t6⟩
  have BX1 := hid (t6 _ _ _ BX1.out (by decide) (by decide) (by decide))
  have BX2 := hid (t6 _ _ _ BX2.out (by decide) (by decide) (by decide))
  have A6 := hid h6
  clear h6 t6
  go_wp2_with fail
  refine (AwAt.ship A6.out (n := sN) (most := 5) (by decide) aw_r5).mono ?_
  rintro e w7x ⟨us7, rfl, h7, t7⟩
  have BX1 := hid (t7 _ _ _ BX1.out (by decide) (by decide) (by decide))
  have BX2 := hid (t7 _ _ _ BX2.out (by decide) (by decide) (by decide))
  have A7 := hid h7
  clear h7 t7
  go_wp2_with fail
  have hlog := log_any rb mb _ r5 sN _ A7.out.live.at_ A7.out.live.inv A7.out.live.ok (by decide)
  rw [aw_log.1, aw_log.2] at hlog
  refine hlog.mono ?_
  rintro e y1 ⟨LV, rfl, lr, g4, -⟩
  obtain ⟨LA, LC, rfl⟩ := Kd.R_slice lr
  have BX1 := hid (g4.blk BX1.out (by simp))
  have BX2 := hid (g4.blk BX2.out (by simp))
  have A7 := hid (A7.out.fr0 g4)
  clear g4 lr hlog
  go_wp2_with fail
  refine (rbase_any rb mb _ r5 sM eA _ A7.out.live.at_ A7.out.live.inv A7.out.live.ok (by decide) aw_base inA aw_ok (by simp [eA, entX, entD]) rfl (by rw [aw_com])).mono ?_
  rintro e y2 ⟨tb, cb, cv, sb, fm, m1, m2, nx, rfl, hB, g5⟩
  have BX1 := hid (g5.blk BX1.out (by simp))
  have BX2 := hid (g5.blk BX2.out (by simp))
  have A7 := hid (A7.out.fr0 g5)
  have HB := hid hB
  clear g5 hB
  have g6 : Fr [] y2 (y2.alloc (.cells #[.map none, .string ⟨#[]⟩, .int .i64 0, .int .i64 0, .int .i64 0, .int .i64 0] 87)) := (Fr.refl [] y2).alloc _
  have BZ := hid (heap_alloc_new y2 (.cells #[.map none, .string ⟨#[]⟩, .int .i64 0, .int .i64 0, .int .i64 0, .int .i64 0] 87))
  have BX1 := hid (g6.blk BX1.out (by simp))
  have BX2 := hid (g6.blk BX2.out (by simp))
  have A7 := hid (A7.out.fr0 g6)
  have HB := hid (HB.out.fr0 g6)
  go_wp2_with fail
  generalize y2.alloc (.cells #[.map none, .string ⟨#[]⟩, .int .i64 0, .int .i64 0, .int .i64 0, .int .i64 0] 87) = y3 at BZ BX1 BX2 A7 HB ⊢
  generalize y2.heap.size = zb at BZ ⊢
  clear g6
  refine (entry_any ⟨#[97]⟩ 1 _).mono ?_
  rintro e y4 ⟨b4, rfl, -, g7, -⟩
  have BX1 := hid (g7.blk BX1.out (by simp))
  have BX2 := hid (g7.blk BX2.out (by simp))
  have BZ := hid (g7.blk BZ.out (by simp))
  have A7 := hid (A7.out.fr0 g7)
  have HB := hid (HB.out.fr0 g7)
  clear g7
  go_wp2_with fail
  refine (record_none none sN 1 eA (some ⟨b4, 0, none⟩) 1 none 0 _ (.inl rfl)).mono ?_
  rintro e y5 ⟨rfl, g8⟩
  have BX1 := hid (g8.blk BX1.out (by simp))
  have BX2 := hid (g8.blk BX2.out (by simp))
  have BZ := hid (g8.blk BZ.out (by simp))
  have A7 := hid (A7.out.fr0 g8)
  have HB := hid (HB.out.fr0 g8)
  clear g8
  have z0 := cell_of_row y5 zb 0 _ _ _ BZ.out
  simp at z0
  go_wp2_with fail
  refine (fail_none (some ⟨zb, 0, none⟩) sN _ (.inr ⟨zb, rfl, z0⟩)).mono ?_
  rintro e w' ⟨rfl, rfl⟩
  clear z0
  go_wp2_with fail
  refine (entry_none 1 _).mono ?_
  rintro e y6 ⟨rfl, g9⟩
  have BX1 := hid (g9.blk BX1.out (by simp))
  have BX2 := hid (g9.blk BX2.out (by simp))
  have BZ := hid (g9.blk BZ.out (by simp))
  have A7 := hid (A7.out.fr0 g9)
  have HB := hid (HB.out.fr0 g9)
  clear g9
  have g10 : Fr [] y6 (y6.alloc (.cells #[.slice none 0 0, .int .i64 0, .slice none 0 0, .int .i64 0] 40)) := (Fr.refl [] y6).alloc _
  have BX1 := hid (g10.blk BX1.out (by simp))
  have BX2 := hid (g10.blk BX2.out (by simp))
  have BZ := hid (g10.blk BZ.out (by simp))
  have A7 := hid (A7.out.fr0 g10)
  have HB := hid (HB.out.fr0 g10)
  go_wp2_with fail
  have hC2 := strs_lit (y6.alloc (.cells #[.slice none 0 0, .int .i64 0, .slice none 0 0, .int .i64 0] 40)) [sN] (by simp)
  rw [World.size_alloc] at hC2
  generalize y6.alloc (.cells #[.slice none 0 0, .int .i64 0, .slice none 0 0, .int .i64 0] 40) = y7 at hC2 BX1 BX2 BZ A7 HB ⊢
  have g11 : Fr [] y7 (y7.alloc (.cells #[.string ⟨#[110]⟩] 9)) := (Fr.refl [] y7).alloc _
  have BX1 := hid (g11.blk BX1.out (by simp))
  have BX2 := hid (g11.blk BX2.out (by simp))
  have BZ := hid (g11.blk BZ.out (by simp))
  have A7 := hid (A7.out.fr0 g11)
  have HB := hid (HB.out.fr0 g11)
  have hnew2 := new_any (some ⟨y6.heap.size + 1, 0, none⟩) 1 [sN] 2 _ hC2 (by
    intro s hs
    simp at hs
    subst hs
    decide) (by simp)
  rw [aw_bad] at hnew2
  refine hnew2.mono ?_
  rintro e y8 ⟨rfl, g12⟩
  have BX1 := hid (g12.blk BX1.out (by simp))
  have BX2 := hid (g12.blk BX2.out (by simp))
  have BZ := hid (g12.blk BZ.out (by simp))
  have A7 := hid (A7.out.fr0 g12)
  have HB := hid (HB.out.fr0 g12)
  clear g12 g11 g10 hC2 hnew2
  have p1 := cell_of_row y8 x1 2 _ _ _ BX1.out
  have p2 := cell_of_row y8 x1 0 _ _ _ BX1.out
  have p3 := cell_of_row y8 x2 2 _ _ _ BX2.out
  have z0 := cell_of_row y8 zb 0 _ _ _ BZ.out
  simp at p1 p2 p3 z0
  have hst : ((⟨#[110]⟩ : ByteArray).toList == [110]) = true := by decide +kernel
  go_wp2_with fail
  refine (tcount_any HB.out).mono ?_
  rintro e w' ⟨rfl, rfl⟩
  rw [aw_len]
  go_wp2_with fail
  refine (AwAt.state A7.out ⟨#[109]⟩ 2 1 (by rfl) (by rfl) (by rfl)).mono ?_
  rintro e y9 ⟨S9, n9, c9, rfl, g13⟩
  have z1 := g13.cell0 z0
  have A8 := hid (A7.out.fr0 g13)
  clear g13 p1 p2 p3 z0
  go_wp2_with fail
  refine (clone_none (some ⟨zb, 0, none⟩) _ (.inr ⟨zb, rfl, z1⟩)).mono ?_
  rintro e w' ⟨rfl, rfl⟩
  go_wp2_with fail
  refine (state_none none _ (.inl rfl)).mono ?_
  rintro e y10 ⟨rfl, g14⟩
  have A9 := hid (A8.out.fr0 g14)
  clear g14
  go_wp2
  go_ret
  exact ⟨rfl, A9.out.fr⟩
def runK (R : RG) (l : List SP) (k : Nat) : RG := Reg.runBy wordB logB R ((l.map callOf).take k)
theorem runK_step {R : RG} {l : List SP} {k : Nat} {x : SP} (h : l[k]? = some x) : (Reg.doBy wordB logB (runK R l k) (callOf x)).2 = runK R l (k + 1) := by
  unfold runK
  rw [Reg.run_take (x := callOf x) (by simp [h])]
theorem runK_0 (R : RG) (l : List SP) : runK R l 0 = R := by unfold runK; simp [Reg.runBy]
theorem AwAt.do {W w : World} {rb mb k : Nat} {us : List (Nat × Value)} {R : RG} (h : AwAt W w rb mb us R k) (hk : k ≤ 100000) {x : SP} (hx : StepIn x) {A0 A2 : Option Addr} (c0 c2 : Nat)
    (s0 : ∀ w', Fr [rb] w w' → Kd.C k135 w' A0 x.f4.f0.length x.f4.f0) (s2 : ∀ w', Fr [rb] w w' → kB.C w' A2 x.f4.f2.length x.f4.f2) :
    Calls Tryz.prog 13 #[.pointer (some ⟨rb, 0, none⟩), .agg #[.string x.f0, .string x.f1, .int .i64 x.f2, .bool x.f3, .slice A0 x.f4.f0.length c0, .int .i64 x.f4.f1, .slice A2 x.f4.f2.length c2, .int .i64 x.f4.f3]] w (fun e w' => ∃ us', e = .returned (pairV (Reg.doBy wordB logB R (callOf x)).1) ∧ AwAt W w' rb mb us' (Reg.doBy wordB logB R (callOf x)).2 (k + 1) ∧ Fr (blks rb us) w w') := by
  refine (do_any validSays W.heap.size rb mb us R k x A0 c0 A2 c2 w h.live hx hk s0 s2 h.own h.fr.size).mono ?_
  rintro e w' ⟨⟨us', h1, h2, h3, h4⟩, hf⟩
  exact ⟨us', h1, ⟨h2, h3, h4 _ _ h.fr (Nat.le_refl _)⟩, hf⟩
theorem AwAt.keepC {W w : World} {rb mb k : Nat} {us : List (Nat × Value)} {R : RG} (h : AwAt W w rb mb us R k) {α : Type} {d : Kd α} {A : Option Addr} {n : Nat} {xs : List α} (hC : Kd.C d W A n xs) : ∀ w', Fr [rb] w w' → Kd.C d w' A n xs := fun w' f =>
  Kd.C_below hC (h.fr.trans f (fun z hz => .inr (by
    obtain rfl := List.mem_singleton.1 hz
    exact h.own _ (List.mem_cons_self ..)))).below0
theorem do_need (R : RG) (x : Reg.Call LO) : (Reg.doBy wordB logB R x).2.need = R.need := by
  unfold Reg.doBy Reg.Rg.record Reg.Rg.ship Reg.Rg.set Reg.Rg.fail Reg.Rg.recordAt Reg.Rg.shipAt Reg.Rg.failAt
  repeat' split
  all_goals rfl
theorem runK_need {R : RG} {l : List SP} : ∀ {k : Nat}, k ≤ l.length → (runK R l k).need = R.need
  | 0, _ => by rw [runK_0]
  | k + 1, h => by
    have hx : l[k]? = some l[k] := List.getElem?_eq_getElem (by omega)
    rw [← runK_step hx, do_need]
    exact runK_need (by omega)
theorem new_need {names : List ByteArray} {need : Int} {R : RG} (h : Reg.newBy wordB names need = (some R, 0)) : R.need = need := by
  unfold Reg.newBy at h
  split at h
  · cases h
  · split at h
    · cases h
    · split at h
      · cases h
      · cases h
        rfl
def downBy (l : List PC) : Nat := (l.filter fun x => !x.f1).length
def okBy (R : RG) (l : List PC) : Bool := l.any fun x => x.f1 && (decide (x.f0 = R.primary) || decide ((R.fail wordB x.f0).1.2 = 0))
theorem down_snoc (l : List PC) (x : PC) : downBy (l ++ [x]) = downBy l + if x.f1 then 0 else 1 := by
  unfold downBy
  rw [List.filter_append, List.length_append]
  cases hx : x.f1 <;> simp [hx]
theorem ok_snoc (R : RG) (l : List PC) (x : PC) : okBy R (l ++ [x]) = (okBy R l || (x.f1 && (decide (x.f0 = R.primary) || decide ((R.fail wordB x.f0).1.2 = 0)))) := by
  unfold okBy
  rw [List.any_append]
  simp
theorem down_le (l : List PC) : downBy l ≤ l.length := List.length_filter_le _ _
theorem names_perm2 (R : RG) : (namesOf R).Perm (bytesOf R) := List.mergeSort_perm _ _
theorem places_perm {R : RG} (hn : (R.places.map (·.1)).Nodup) : (placesOf R).Perm (R.places.map fun p => (⟨p.1, p.2.up, p.2.log.length⟩ : PC)) := by
  have h1 : (placesOf R).Perm ((bytesOf R).map (placeOf R)) := (names_perm2 R).map _
  have h2 : (bytesOf R).map (placeOf R) = R.places.map fun p => (⟨p.1, p.2.up, p.2.log.length⟩ : PC) := by
    unfold bytesOf
    rw [List.map_map]
    apply List.map_congr_left
    intro p hp
    have hl : R.look p.1 = some p.2 := Reg.mem_look hn hp
    have e : (⟨p.1.data.toList.toArray⟩ : ByteArray) = p.1 := by cases p.1; simp
    simp only [Function.comp, placeOf]
    rw [e, hl]
  rw [h2] at h1
  exact h1
theorem enough_end {R : RG} (h : Reg.Inv R) (hw : ∀ p ∈ R.places, wordB p.1 = true) : okBy R (placesOf R) = true ∨ R.need ≤ (downBy (placesOf R) : Int) := by
  by_cases hd : ((R.places.filter fun x => !x.2.up).length : Int) < R.need
  · left
    obtain ⟨x, hx, hu, ho⟩ := Reg.enough_up h hd
    unfold okBy
    rw [List.any_eq_true]
    refine ⟨⟨x.1, x.2.up, x.2.log.length⟩, (places_perm h.names).mem_iff.2 (List.mem_map.2 ⟨x, hx, rfl⟩), ?_⟩
    have hl : R.look x.1 = some x.2 := Reg.mem_look h.names hx
    have hf : R.find wordB x.1 = (some x.2, 0) := by
      unfold Reg.Rg.find
      rw [if_neg (by simp [hw x hx]), hl]
    have hfa : R.fail wordB x.1 = R.failAt x.2 x.1 := by
      unfold Reg.Rg.fail
      rw [hf]
    show (x.2.up && (decide (x.1 = R.primary) || decide ((R.fail wordB x.1).1.2 = 0))) = true
    rw [hu, hfa]
    rcases ho with ho | ho <;> simp [ho]
  · right
    have e : downBy (placesOf R) = (R.places.filter fun x => !x.2.up).length := by
      unfold downBy
      rw [((places_perm h.names).filter _).length_eq, List.filter_map, List.length_map]
      rfl
    rw [e]
    omega
theorem reg_inv_perm {R R' : RG} (h : Reg.Inv R) (p : Reg.Perm R R') : Reg.Inv R' := by
  have hf := p.first h.names
  refine ⟨Reg.names_perm p.places h.names, ?_, ?_, ?_, ?_, ?_, ?_, ?_⟩
  · obtain ⟨q, hq⟩ := h.prim
    exact ⟨q, by rw [← p.look h.names, ← p.primary]; exact hq⟩
  · rw [← p.need, ← p.places.length_eq]; exact h.need
  · rw [← p.acked]; exact h.acked
  · have he := h.enough
    unfold Reg.Rg.count at he ⊢
    rw [← p.need, ← p.acked, ← hf, ← (p.places.filter _).length_eq]
    exact he
  · exact fun x hx y hy => h.mat x (p.places.mem_iff.2 hx) y (p.places.mem_iff.2 hy)
  · rw [← p.records]
    exact fun x hx => h.recs x (p.places.mem_iff.2 hx)
  · exact fun x hx => h.long x (p.places.mem_iff.2 hx)
theorem place_at {w : World} {A : Option Addr} {n k : Nat} {l : List PC} {x : PC} (h : Kd.C kPc w A n l) (hx : l[k]? = some x) : ∃ b off, A = some ⟨b, off, none⟩ ∧ w.cell? ⟨b, off + k * 3, none⟩ = some (.string x.f0) ∧ w.cell? ⟨b, off + k * 3 + 1, none⟩ = some (.bool x.f1) ∧ w.cell? ⟨b, off + k * 3 + 2, none⟩ = some (.int .i64 x.f2) := by
  obtain ⟨b, off, c, e, hK, hc⟩ := cells_at (d := kPc) (by decide) h hx
  obtain rfl := k65_open hK
  exact ⟨b, off, e, hc 0 _ rfl, hc 1 _ rfl, hc 2 _ rfl⟩
theorem place_of_mem {R : RG} (hn : (R.places.map (·.1)).Nodup) {x : PC} (h : x ∈ placesOf R) : (∃ p ∈ R.places, p.1 = x.f0) ∧ True := by
  obtain ⟨p, hp, e⟩ := List.mem_map.1 ((places_perm hn).mem_iff.1 h)
  exact ⟨⟨p, hp, by rw [← e]⟩, trivial⟩
theorem clone_fail (rb mb : Nat) (us : List (Nat × Value)) (R R' : RG) (n : ByteArray) (w : World) (h : RegAt w rb mb us R') (hi : Reg.Inv R) (hp : Reg.Perm R R') (hs : n.size ≤ maxLen) (hep : 0 ≤ R.epoch ∧ R.epoch ≤ 1000000) (k : Nat) (hb : ∀ b ∈ blks rb us, k ≤ b) (v : World) (hv : v.heap.size = k) (hf : Fr [] v w) :
    Calls Tryz.prog 26 #[.pointer (some ⟨rb, 0, none⟩), .string n] w (fun e w' => ∃ m, e = .returned (.tuple #[.int .i64 m, .int .i64 (R.fail wordB n).1.2]) ∧ Fr [] v w') := by
  refine (rfail_any rb mb us R' n w h (reg_inv_perm hi hp) hs (by rw [← hp.epoch]; exact hep)).mono ?_
  rintro e w' ⟨us', rfl, -, f, -⟩
  rw [← hp.fail hi.names]
  exact ⟨_, rfl, hf.trans f (fun z hz => .inr (by rw [hv]; exact hb z hz))⟩
set_option maxRecDepth 100000 in
set_option maxHeartbeats 16000000 in
theorem enough_any (An : Option Addr) (cn : Nat) (names : List ByteArray) (need : Int) (Al : Option Addr) (cl : Nat) (l : List SP) (w : World)
    (hN : Kd.C Kd.string w An names.length names) (hNs : ∀ s ∈ names, s.size ≤ maxLen) (hL : Kd.C kP w Al l.length l) (hLs : ∀ y ∈ l, StepIn y) :
    Calls Tryz.prog 7 #[.slice An names.length cn, .int .i64 need, .slice Al l.length cl] w fun e w' => e = .returned (.bool true) ∧ Fr [] w w' := by
  have HN := hid hN
  have HL := hid hL
  have HNS := hid hNs
  have HLS := hid hLs
  have hmN := Kd.C_max hN
  have hmL := Kd.C_max hL
  have AWK := hid (fun (W : World) (f : Fr [] w W) => (awake_any W).mono (R' := fun e w' => e = .returned (.bool true) ∧ Fr [] w w') (fun e w' ⟨h1, h2⟩ => ⟨h1, f.then h2⟩))
  clear hN hL hNs hLs
  go_enter Tryz.func7, Tryz.ntmps7
  go_wp2_with fail
  refine (great_any Al cl l w HL.out).mono ?_
  rintro e wb ⟨bg, rfl, hbg, fb⟩
  have FB := hid fb
  have HBG := hid hbg
  clear fb hbg
  cases bg with
  | true =>
    go_wp2_with fail
    refine (AWK.out _ FB.out).mono ?_
    rintro e w' ⟨rfl, f⟩
    go_wp2
    go_ret
    exact ⟨rfl, f⟩
  | false =>
    have hl60 := HBG.out rfl
    by_cases h50 : 50 < names.length
    · have q1 : decide ((50 : Int) < (names.length : Int)) = true := decide_eq_true (by omega)
      go_wp2_with fail
      refine (AWK.out _ FB.out).mono ?_
      rintro e w' ⟨rfl, f⟩
      go_wp2
      go_ret
      exact ⟨rfl, f⟩
    · have q1 : decide ((50 : Int) < (names.length : Int)) = false := decide_eq_false (by omega)
      go_wp2_with fail
      have hnew := new_any An cn names need wb (Kd.C_below HN.out FB.out.below0) HNS.out (by omega)
      cases hnb : Reg.newBy (α := LO) wordB names need with
      | mk o er =>
        rw [hnb] at hnew
        cases o with
        | none =>
          have her := new_none hnb
          have her' : (er == 0) = false := by simpa using her
          clear hnb
          refine hnew.mono ?_
          rintro e wd ⟨rfl, fd⟩
          have FD := hid (FB.out.then fd)
          clear fd hnew
          go_wp2_with fail
          refine (AWK.out _ FD.out).mono ?_
          rintro e w' ⟨rfl, f⟩
          go_wp2
          go_ret
          exact ⟨rfl, f⟩
        | some R =>
          obtain rfl := new_errs hnb
          have HNB := hid hnb
          have HND := hid (new_need hnb)
          clear hnb
          refine hnew.mono ?_
          rintro e wd ⟨rb, mb, us, rfl, hd, fd, od⟩
          have AW := hid (show AwAt w wd rb mb us R 0 from ⟨new_live HNB.out HNS.out hd, fun b hb => Nat.le_trans FB.out.size (od b hb), FB.out.then fd⟩)
          clear hd fd od hnew
          go_wp2_with fail
          go_loopw [9] (fun i wr => ∃ (k : Nat) (us' : List (Nat × Value)), i = .int .i64 k ∧ k ≤ l.length ∧ AwAt w wr rb mb us' (runK R l k) k) (fun i _ => l.length - (intOf i).toNat)
          case atStart => exact ⟨0, us, rfl, Nat.zero_le _, by rw [runK_0]; exact AW.out⟩
          case round =>
            obtain ⟨k, us', rfl, hk, hA⟩ := hrel
            have HA := hid hA
            clear hA
            by_cases hlt : k < l.length
            · obtain ⟨y, hy⟩ : ∃ y, l[k]? = some y := ⟨_, List.getElem?_eq_getElem hlt⟩
              obtain ⟨sb, so, B0', b0', B2', b2', eA, ⟨d0, d1, d2, d3, d4, d5, d6, d7⟩, r0, r2⟩ := steps_at HL.out hy
              subst eA
              have d0 := HA.out.fr.cell0 d0
              have d1 := HA.out.fr.cell0 d1
              have d2 := HA.out.fr.cell0 d2
              have d3 := HA.out.fr.cell0 d3
              have d4 := HA.out.fr.cell0 d4
              have d5 := HA.out.fr.cell0 d5
              have d6 := HA.out.fr.cell0 d6
              have d7 := HA.out.fr.cell0 d7
              have hm0 : (0 : Int) ≤ (k : Int) := by omega
              have hm1 : (k : Int) < (l.length : Int) := by omega
              have HY := hid hy
              have HDO := hid (HA.out.do (by omega) (HLS.out y (List.mem_iff_getElem?.2 ⟨k, hy⟩)) b0' b2' (HA.out.keepC r0) (HA.out.keepC r2))
              clear r0 r2 hy
              go_wp2_with fail
              refine HDO.out.mono ?_
              rintro e w5 ⟨us5, rfl, h5, -⟩
              have A5 := hid h5
              clear h5
              unfold pairV
              go_wp2
              go_roundw
              case rel => exact ⟨k + 1, us5, by go_num, by omega, by rw [← runK_step HY.out]; exact A5.out⟩
              case measure => simp [intOf]; omega
            · obtain rfl : k = l.length := by omega
              have HNE := hid ((runK_need (R := R) (l := l) (Nat.le_refl _)).trans HND.out)
              generalize runK R l l.length = R1 at HA HNE
              go_wp2_with fail
              refine (state_any rb mb us' R1 _ HA.out.live.at_ HA.out.live.inv.names HA.out.live.nm HA.out.live.pl).mono ?_
              rintro e u1 ⟨sv, rfl, sr, f1, -⟩
              obtain ⟨SA, sc, rfl⟩ := Kd.R_slice sr
              have hPl : (placesOf R1).length = R1.places.length := by simp [placesOf, names_len]
              have hP1 := HA.out.live.pl
              have HNM := hid (fun x (hx : x ∈ placesOf R1) => (place_of_mem (R := R1) HA.out.live.inv.names hx))
              have HEND := hid (enough_end HA.out.live.inv HA.out.live.wd)
              unfold regV
              generalize hPL : placesOf R1 = PL at sr hPl HNM HEND ⊢
              have hP1 : PL.length ≤ 1000 := by omega
              clear hPL hPl
              have f2 := f1.alloc (.cells #[.string R1.primary, .int .i64 R1.epoch, .int .i64 R1.acked, .slice SA PL.length sc] 48)
              have HA2 : Hid (AwAt w (u1.alloc (.cells #[.string R1.primary, .int .i64 R1.epoch, .int .i64 R1.acked, .slice SA PL.length sc] 48)) rb mb us' R1 l.length) := hid (HA.out.fr0 f2)
              have SR : Hid (kPc.R 65 (u1.alloc (.cells #[.string R1.primary, .int .i64 R1.epoch, .int .i64 R1.acked, .slice SA PL.length sc] 48)) 0 (fun _ => True) (.slice SA PL.length sc) PL) := hid (R_fr0 sr ((Fr.refl [] u1).alloc (.cells #[.string R1.primary, .int .i64 R1.epoch, .int .i64 R1.acked, .slice SA PL.length sc] 48)))
              have WB : Hid ((u1.alloc (.cells #[.string R1.primary, .int .i64 R1.epoch, .int .i64 R1.acked, .slice SA PL.length sc] 48)).heap[u1.heap.size]? = some (.cells #[.string R1.primary, .int .i64 R1.epoch, .int .i64 R1.acked, .slice SA PL.length sc] 48 (0, 0))) := hid (heap_alloc_new u1 (.cells #[.string R1.primary, .int .i64 R1.epoch, .int .i64 R1.acked, .slice SA PL.length sc] 48))
              clear f1 f2 sr HA
              go_wp2
              generalize (u1.alloc (.cells #[.string R1.primary, .int .i64 R1.epoch, .int .i64 R1.acked, .slice SA PL.length sc] 48)) = u2 at HA2 SR WB ⊢
              generalize u1.heap.size = xb at WB ⊢
              go_loopw [11, 12, 13] (fun dv ov i wr => ∃ (k : Nat), i = .int .i64 k ∧ k ≤ PL.length ∧ dv = .int .i64 (downBy (PL.take k)) ∧ ov = .bool (okBy R1 (PL.take k)) ∧ Fr [] u2 wr) (fun _ _ i _ => PL.length - (intOf i).toNat)
              case atStart => exact ⟨0, rfl, Nat.zero_le _, rfl, rfl, Fr.refl _ _⟩
              case round =>
                obtain ⟨k, rfl, hk, rfl, rfl, hF⟩ := hrel
                have HF := hid hF
                have bx := hF.blk WB.out (by simp)
                have k0 := cell_of_row _ xb 0 _ _ _ bx
                have k3 := cell_of_row _ xb 3 _ _ _ bx
                simp at k0 k3
                clear hF bx
                by_cases hlt : k < PL.length
                · obtain ⟨x, hx⟩ : ∃ x, PL[k]? = some x := ⟨_, List.getElem?_eq_getElem hlt⟩
                  obtain ⟨b, off, eA, p0, p1, p2⟩ := place_at (Kd.R_reads' (R_fr0 SR.out HF.out)).2.2 hx
                  subst eA
                  have hm0 : (0 : Int) ≤ (k : Int) := by omega
                  have hm1 : (k : Int) < (PL.length : Int) := by omega
                  have htk : PL.take (k + 1) = PL.take k ++ [x] := by
                    obtain ⟨h1, h2⟩ := List.getElem?_eq_some_iff.1 hx
                    rw [List.take_succ_eq_append_getElem h1, h2]
                  have hdn := down_snoc (PL.take k) x
                  have hok := ok_snoc R1 (PL.take k) x
                  rw [← htk] at hdn hok
                  have hdl := down_le (PL.take k)
                  rw [List.length_take] at hdl
                  obtain ⟨hxs, hxe⟩ := HNM.out x (List.mem_iff_getElem?.2 ⟨k, hx⟩)
                  have XN := hid (show x.f0.size ≤ maxLen by obtain ⟨q, hq, e⟩ := hxs; rw [← e]; exact HA2.out.live.nm q hq)
                  generalize downBy (PL.take k) = dn at hdn hdl ⊢
                  generalize okBy R1 (PL.take k) = okv at hok ⊢
                  have HDN := hid hdn
                  have HOK := hid hok
                  clear hx htk hdn hok hxs hxe
                  obtain ⟨xn, xu, xl⟩ := x
                  cases xu with
                  | false =>
                    have hw : IntKind.i64.wrap ((dn : Int) + 1) = ((dn + 1 : Nat) : Int) := by rw [IntWalk.i64_in _ (by omega)]; omega
                    go_wp2
                    go_roundw
                    case rel => exact ⟨k + 1, by go_num, by omega, by rw [HDN.out]; simp, by rw [HOK.out]; simp, HF.out.alloc _⟩
                    case measure => simp [intOf]; omega
                  | true =>
                    go_wp2_with fail
                    have f3 : Fr [] wr (wr.alloc (.cells #[.string xn, .bool true, .int .i64 xl] 65)) := (Fr.refl [] wr).alloc _
                    have b3 := heap_alloc_new wr (.cells #[.string xn, .bool true, .int .i64 xl] 65)
                    generalize wr.alloc (.cells #[.string xn, .bool true, .int .i64 xl] 65) = u3 at f3 b3 ⊢
                    generalize wr.heap.size = pb at b3 ⊢
                    have F3 := hid (HF.out.then f3)
                    have B3 := hid b3
                    have HX3 := hid (fun w' (f : Fr [] u3 w') => (by
                      have hb := f.blk B3.out (by simp)
                      have k0 := cell_of_row w' pb 0 _ _ _ hb
                      simpa using k0 : (fun w' : World => w'.cell? ⟨pb, 0, none⟩ = some (.string xn)) w'))
                    have S0 := HX3.out _ (Fr.refl [] u3).drew
                    clear f3 b3 k0 k3 p0 p1 p2
                    go_region_held3 (fun w' : World => w'.cell? ⟨pb, 0, none⟩ = some (.string xn)) (with_reducible first | exact S0 | exact S1 | exact S2) (first
                      | (go_at_call 18; refine (clone_any rb mb us' R1 _ ((HA2.out.live.at_.fr0 F3.out).fr0 (Fr.refl [] u3).drew) HA2.out.live.inv).mono ?_; rintro e u4 ⟨rb2, mb2, us2, R2, rfl, hr2, hp2, f4, hb4⟩; have H4 := hid hr2; have P4 := hid hp2; have F4 := hid ((Fr.refl [] u3).drew.then f4); have B4 := hid hb4; have S1 := HX3.out _ F4.out; clear hr2 hp2 f4 hb4)
                      | (go_at_call 26; refine (clone_fail rb2 mb2 us2 R1 R2 xn u4 H4.out HA2.out.live.inv P4.out XN.out (by have := HA2.out.live.ne; omega) u3.heap.size (fun b hb => B4.out b hb) u3 rfl F4.out).mono ?_; rintro e u5 ⟨m, rfl, f5⟩; have F5 := hid f5; have S2 := HX3.out _ F5.out; clear f5))
                    rename_i hh
                    clear hh S0 S1 S2
                    have F6 := hid (F3.out.then F5.out)
                    have k0 := F6.out.blk WB.out (by simp)
                    have k0 := cell_of_row _ xb 0 _ _ _ k0
                    have k1 := HX3.out _ F5.out
                    simp at k0 k1
                    have HOK' := HOK.out
                    have er0 : ∃ er, er = (R1.fail wordB xn).1.2 := ⟨_, rfl⟩
                    obtain ⟨er, her⟩ := er0
                    rw [← her] at HOK' ⊢
                    have HDN' : downBy (PL.take (k + 1)) = dn := by rw [HDN.out]; simp
                    have HD2 := hid HDN'
                    clear her HDN'
                    have hfin : ∀ bb : Bool, okBy R1 (PL.take (k + 1)) = bb → Hid (Value.bool bb = .bool (okBy R1 (PL.take (k + 1)))) := fun bb h => hid (by rw [h])
                    cases okv with
                    | true =>
                      have HFI := hfin true (by rw [HOK']; rfl)
                      clear HOK' hfin
                      go_wp2
                      go_roundw
                      case rel => exact ⟨k + 1, by go_num, by omega, by rw [HD2.out], HFI.out, F6.out⟩
                      case measure => simp [intOf]; omega
                    | false =>
                      by_cases hn : xn = R1.primary
                      · have HFI := hfin true (by rw [HOK', hn]; simp)
                        have b1 : (xn.toList == R1.primary.toList) = true := by rw [hn]; simp
                        clear HOK' hfin hn
                        go_wp2
                        go_roundw
                        case rel => exact ⟨k + 1, by go_num, by omega, by rw [HD2.out], HFI.out, F6.out⟩
                        case measure => simp [intOf]; omega
                      · have b1 : (xn.toList == R1.primary.toList) = false := list_beq hn
                        by_cases he : er = 0
                        · have HFI := hfin true (by rw [HOK', he]; simp)
                          have b2 : (er == 0) = true := by simpa using he
                          clear HOK' hfin hn he
                          go_wp2
                          go_roundw
                          case rel => exact ⟨k + 1, by go_num, by omega, by rw [HD2.out], HFI.out, F6.out⟩
                          case measure => simp [intOf]; omega
                        · have HFI := hfin false (by rw [HOK']; simp [hn, he])
                          have b2 : (er == 0) = false := by simpa using he
                          clear HOK' hfin hn he
                          go_wp2
                          go_roundw
                          case rel => exact ⟨k + 1, by go_num, by omega, by rw [HD2.out], HFI.out, F6.out⟩
                          case measure => simp [intOf]; omega
                · obtain rfl : k = PL.length := by omega
                  have eT : PL.take PL.length = PL := List.take_length
                  rw [eT]
                  clear eT hlt hk
                  cases ho : okBy R1 PL with
                  | true =>
                    go_wp2_with fail
                    refine (AWK.out _ (HA2.out.fr.then HF.out)).mono ?_
                    rintro e w' ⟨rfl, f⟩
                    go_wp2
                    go_ret
                    exact ⟨rfl, f⟩
                  | false =>
                    have hge : need ≤ (downBy PL : Int) := by
                      rcases HEND.out with h | h
                      · rw [ho] at h; cases h
                      · rw [← HNE.out]; exact h
                    have q5 : decide (need ≤ (downBy PL : Int)) = true := decide_eq_true hge
                    clear ho
                    generalize (downBy PL : Int) = dd at hge q5 ⊢
                    go_wp2_with fail
                    refine (AWK.out _ (HA2.out.fr.then HF.out)).mono ?_
                    rintro e w' ⟨rfl, f⟩
                    go_wp2
                    go_ret
                    exact ⟨rfl, f⟩
end Go.Proofs.YtkolnoadeihmoaaGreat
