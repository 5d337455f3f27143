/-
  The walk of StorePlays.
-/
import Derived.Test.YtggkhgpdnjkfcaaTh
namespace Go.Proofs.Ytggkhgpdnjkfcaa
open Go.RowKit Go.Maps Go.Proofs.Ytggkhgpdnjkfcaa.PStorePlays Go.Proofs.YtggkhgpdnjkfcaaW.PrintWords Go.Proofs.YtggkhgpdnjkfcaaW.PrintLast Go.Proofs.YtggkhgpdnjkfcaaW.PrintMore

/-- Where the stores lie: apart from each other, all made by the call. -/
structure Places (B b1 m1 r1 b2 m2 r2 : Nat) : Prop where
  a1 : B ≤ b1
  a2 : B ≤ m1
  a3 : B ≤ r1
  a4 : B ≤ b2
  a5 : B ≤ m2
  a6 : B ≤ r2
  nb : b1 ≠ b2
  nm : m1 ≠ m2
  nr : r1 ≠ r2
def Inv (w wr : World) (b1 m1 r1 b2 m2 r2 : Nat) : Prop := ∃ s t, Pair wr b1 m1 r1 s ∧ Pair wr b2 m2 r2 t ∧ Fr [] w wr
theorem Pair.over {w w1 : World} {b1 m1 r1 b2 m2 r2 : Nat} {s t : St} (h1 : Pair w b1 m1 r1 s) (h2 : Pair w b2 m2 r2 t) (hb : b1 ≠ b2) (hm : m1 ≠ m2) (hr : r1 ≠ r2) (f : Fr [b1, m1, r1] w w1) : Pair w1 b2 m2 r2 t := by
  have k1 := h1.st.no64
  have k2 := h1.rf.no64
  have n1 := h1.st.ne_map h2.st.map
  have n2 := h2.st.ne_map h1.st.map
  have n3 := h1.rf.ne h2.st
  have n4 := h2.rf.ne h1.st
  refine h2.fr f (by simp; omega) (by simp; omega) (by simp; omega) ?_
  intro k hk; simp at hk; rcases hk with rfl | rfl | rfl
  · exact k1.1
  · exact k1.2
  · exact k2

theorem clone_ex (b mb : Nat) (s : St) (w : World) (h : StoreAt w b mb s) :
    Calls Try.prog 17 #[.pointer (some ⟨b, 0, none⟩)] w fun e w' => ∃ bx mx, e = .returned (.pointer (some ⟨bx, 0, none⟩)) ∧ StoreAt w' bx mx s ∧ Fr [] w w' ∧ w.heap.size ≤ bx ∧ w.heap.size ≤ mx :=
  (clone_any b mb s w h).mono fun e w' ⟨h1, h2, h3⟩ => ⟨_, _, h1, h2, h3, by omega, by omega⟩
theorem two_made {w : World} {s t : St} {v1 v2 : Value} (h1 : RefV w v1 s.files) (h2 : RefV w v2 t.files) (o1 : s.Ok) (o2 : t.Ok) :
    RefAt ((w.alloc (.cells #[v1, .int .i64 s.most] 43)).alloc (.cells #[v2, .int .i64 t.most] 43)).drew w.heap.size s ∧ RefAt ((w.alloc (.cells #[v1, .int .i64 s.most] 43)).alloc (.cells #[v2, .int .i64 t.most] 43)).drew (w.heap.size + 1) t ∧ Fr [] w ((w.alloc (.cells #[v1, .int .i64 s.most] 43)).alloc (.cells #[v2, .int .i64 t.most] 43)).drew := by
  have fr := (((Fr.refl [] w).alloc (.cells #[v1, .int .i64 s.most] 43)).alloc (.cells #[v2, .int .i64 t.most] 43)).drew
  refine ⟨⟨⟨v1, (Below.heap_alloc _ _ _ (by simp)).trans (heap_alloc_new w _), h1.fr fr (by simp)⟩, o1⟩, ⟨⟨v2, ?_, h2.fr fr (by simp)⟩, o2⟩, fr⟩
  have := heap_alloc_new (w.alloc (.cells #[v1, .int .i64 s.most] 43)) (.cells #[v2, .int .i64 t.most] 43)
  have e : (w.alloc (.cells #[v1, .int .i64 s.most] 43)).heap.size = w.heap.size + 1 := by simp
  rw [e] at this
  exact this

set_option maxRecDepth 100000 in
set_option maxHeartbeats 8000000 in
theorem plays_any (a : Option Addr) (n c : Nat) (xs : List Ac) (w : World) (h1 : ActsB w.heap.size w a n xs) :
    Calls Try.prog 5 #[.slice a n c] w (RetTrue w) := by
  have H1 := hid h1
  have hsm := h1.small
  have HL := hid h1.len
  clear h1
  go_enter Try.func5, Try.ntmps5
  go_wp2_with fail
  refine (great_any _ _ _ _ _ _ H1.out).mono ?_
  rintro e w1 ⟨g, rfl, hg, rfl⟩
  cases g
  case true =>
    go_wp2_with fail
    refine (awake_any _).mono ?_
    rintro e w1 ⟨rfl, f1⟩
    go_wp2_with fail
    go_ret
    exact ⟨rfl, f1.below0⟩
  have HG := hid (hg rfl)
  clear hg
  go_wp2_with fail
  refine (new_store _).mono ?_
  rintro e w1 ⟨b1, m1, rfl, s1, f1, z1, z2⟩
  have F1 := hid f1
  go_wp2_with fail
  refine (new_store _).mono ?_
  rintro e w2 ⟨b2, m2, rfl, t2, f2, z3, z4⟩
  have s2 := s1.fr f2 (by simp) (by simp)
  have hN := s1.ne2 z3 z4
  have F2 := hid (F1.out.then f2)
  have s0 := F1.out.size
  have s9 := F2.out.size
  have HP : Hid (Places w.heap.size b1 m1 w2.heap.size b2 m2 (w2.heap.size + 1)) :=
    ⟨z1, z2, by omega, by omega, by omega, by omega, by simp at hN; omega, by simp at hN; omega, by omega⟩
  have HI : Hid (Inv w ((w2.alloc (.cells #[.slice none 0 0, .int .i64 0] 43)).alloc (.cells #[.slice none 0 0, .int .i64 0] 43)) b1 m1 w2.heap.size b2 m2 (w2.heap.size + 1)) := by
    have fa := (Fr.refl [] w2).alloc (.cells #[.slice none 0 0, .int .i64 0] 43)
    have fb := (Fr.refl [] (w2.alloc (.cells #[.slice none 0 0, .int .i64 0] 43))).alloc (.cells #[.slice none 0 0, .int .i64 0] 43)
    have q1 := (RefAt.zero w2).fr fb (by simp) (by simp)
    have q2 := RefAt.zero (w2.alloc (.cells #[.slice none 0 0, .int .i64 0] 43))
    have e : (w2.alloc (.cells #[.slice none 0 0, .int .i64 0] 43)).heap.size = w2.heap.size + 1 := by simp
    rw [e] at q2
    exact ⟨St.empty, St.empty, ⟨s2.fr (fa.then fb) (by simp) (by simp), q1⟩, ⟨t2.fr (fa.then fb) (by simp) (by simp), q2⟩, (F2.out.then fa).then fb⟩
  have HB2 := hid s9
  clear f1 f2 s1 s2 t2 z1 z2 z3 z4 F1 F2 hN s0 s9
  go_wp2
  generalize (w2.alloc (.cells #[.slice none 0 0, .int .i64 0] 43)).alloc (.cells #[.slice none 0 0, .int .i64 0] 43) = w3 at HI ⊢
  generalize hr2 : w2.heap.size + 1 = r2 at HP HI ⊢
  generalize hr1 : w2.heap.size = r1 at HP HI HB2 ⊢
  clear hr1 hr2 HB2
  go_loopw [7] (fun i wr => ∃ k : Nat, i = .int .i64 k ∧ k ≤ n ∧ Inv w wr b1 m1 r1 b2 m2 r2) (fun i _ => n - (intOf i).toNat)
  case atStart => exact ⟨0, rfl, Nat.zero_le _, HI.out⟩
  case round =>
    obtain ⟨k, rfl, hk, s, t, hp1, hp2, hf⟩ := hrel
    have P1 := hid hp1
    have P2 := hid hp2
    have FW := hid hf
    clear hp1 hp2 hf
    by_cases hlt : k < n
    · go_wp2_with fail
      refine (clone_ex b1 m1 s _ P1.out.st).mono ?_
      rintro e wa ⟨bx, mx, rfl, sx, fx, gx, kx⟩
      have SX := hid (And.intro sx fx)
      have GX := hid (And.intro gx kx)
      clear sx fx gx kx
      go_wp2_with fail
      refine (clone_ex b2 m2 t _ (P2.out.st.fr SX.out.2 (by simp) (by simp))).mono ?_
      rintro e wb ⟨bz, mz, rfl, sy, fy, gy, ky⟩
      have SY := hid (And.intro sy fy)
      have GY := hid (And.intro gy ky)
      clear sy fy gy ky
      go_wp2_with fail
      have FB := hid (SX.out.2.then SY.out.2)
      obtain ⟨v1, hb1, hv1⟩ := P1.out.rf.blk
      obtain ⟨A1, q1, rfl, -, -⟩ := hv1.reads
      obtain ⟨v2, hb2, hv2⟩ := P2.out.rf.blk
      obtain ⟨A2, q2, rfl, -, -⟩ := hv2.reads
      have HC : Hid (∀ w', Fr [] wb w' → (w'.cell? ⟨r1, 0, none⟩ = some (.slice A1 (FS s.files).length q1) ∧ w'.cell? ⟨r1, 1, none⟩ = some (.int .i64 s.most)) ∧ (w'.cell? ⟨r2, 0, none⟩ = some (.slice A2 (FS t.files).length q2) ∧ w'.cell? ⟨r2, 1, none⟩ = some (.int .i64 t.most))) := fun w' f => by
        have e1 := ((FB.out.then f).block r1 P1.out.rf.lt (by simp)).trans hb1
        have e2 := ((FB.out.then f).block r2 P2.out.rf.lt (by simp)).trans hb2
        exact ⟨⟨cell_of_row w' _ 0 _ _ _ e1, cell_of_row w' _ 1 _ _ _ e1⟩, cell_of_row w' _ 0 _ _ _ e2, cell_of_row w' _ 1 _ _ _ e2⟩
      have HV : Hid (∀ w', Fr [] wb w' → RefV w' (.slice A1 (FS s.files).length q1) s.files ∧ RefV w' (.slice A2 (FS t.files).length q2) t.files) := fun w' f => ⟨hv1.fr (FB.out.then f) (by simp), hv2.fr (FB.out.then f) (by simp)⟩
      clear hb1 hb2 hv1 hv2
      obtain ⟨⟨c10, c11⟩, c20, c21⟩ := HC.out _ (Fr.refl _ _)
      have l1 : r1 < wb.heap.size := Nat.lt_of_lt_of_le P1.out.rf.lt FB.out.size
      have l2 : r2 < wb.heap.size := Nat.lt_of_lt_of_le P2.out.rf.lt FB.out.size
      have l3 : r1 ≠ wb.heap.size := by omega
      have l4 : r2 ≠ wb.heap.size := by omega
      have l5 : r1 ≠ wb.heap.size + 1 := by omega
      have l6 : r2 ≠ wb.heap.size + 1 := by omega
      refine (fun (KEY : Hid (∀ (w5 : World) (pa pb : Nat), Hid (RefAt w5 pa s ∧ RefAt w5 pb t ∧ Fr [] wb w5 ∧ wb.heap.size ≤ pa ∧ wb.heap.size ≤ pb) → (?KEYP : World → Nat → Nat → Prop) w5 pa pb)) => ?main) ?key
      case main =>
        have hsv := HV.out _ (Fr.refl _ _)
        have T1 := hid (two_made (w := wb) hsv.1 hsv.2 P1.out.rf.ok P2.out.rf.ok)
        have T2 := hid (two_made (w := wb) hsv.2 hsv.1 P2.out.rf.ok P1.out.rf.ok)
        clear hsv
        go_region
        all_goals first
          | (obtain ⟨pa, hpa⟩ : ∃ p, p = wb.heap.size := ⟨_, rfl⟩
             obtain ⟨pb, hpb⟩ : ∃ p, p = wb.heap.size + 1 := ⟨_, rfl⟩
             obtain ⟨w5, hw5⟩ : ∃ p, p = ((wb.alloc (.cells #[.slice A1 (FS s.files).length q1, .int .i64 s.most] 43)).alloc (.cells #[.slice A2 (FS t.files).length q2, .int .i64 t.most] 43)).drew := ⟨_, rfl⟩
             rw [← hw5, ← hpb, ← hpa]
             exact KEY.out w5 pa pb (by subst hw5 hpa hpb; exact ⟨T1.out.1, T1.out.2.1, T1.out.2.2, Nat.le_refl _, Nat.le_succ _⟩))
          | (obtain ⟨pa, hpa⟩ : ∃ p, p = wb.heap.size + 1 := ⟨_, rfl⟩
             obtain ⟨pb, hpb⟩ : ∃ p, p = wb.heap.size := ⟨_, rfl⟩
             obtain ⟨w5, hw5⟩ : ∃ p, p = ((wb.alloc (.cells #[.slice A2 (FS t.files).length q2, .int .i64 t.most] 43)).alloc (.cells #[.slice A1 (FS s.files).length q1, .int .i64 s.most] 43)).drew := ⟨_, rfl⟩
             rw [← hw5, ← hpa, ← hpb]
             exact KEY.out w5 pa pb (by subst hw5 hpa hpb; exact ⟨T2.out.2.1, T2.out.1, T2.out.2.2, Nat.le_succ _, Nat.le_refl _⟩))
      case key =>
        intro w5 pa pb HK5
        clear c10 c11 c20 c21 l3 l4 l5 l6
        have F5 := hid HK5.out.2.2.1
        have FV := hid (FW.out.then (FB.out.then F5.out))
        have Q1 : Hid (Pair w5 b1 m1 r1 s) := P1.out.fr (FB.out.then F5.out) (by simp) (by simp) (by simp) (by simp)
        have Q2 : Hid (Pair w5 b2 m2 r2 t) := P2.out.fr (FB.out.then F5.out) (by simp) (by simp) (by simp) (by simp)
        have QX : Hid (Pair w5 bx mx pa s) := ⟨SX.out.1.fr (SY.out.2.then F5.out) (by simp) (by simp), HK5.out.1⟩
        have QZ : Hid (Pair w5 bz mz pb t) := ⟨SY.out.1.fr F5.out (by simp) (by simp), HK5.out.2.1⟩
        have HV5 := hid (HV.out _ F5.out)
        obtain ⟨⟨c10, c11⟩, c20, c21⟩ := HC.out _ F5.out
        have hp := HP.out
        have HQ1 : Hid (∀ z, z ∈ [b1, m1, r1] → z ∈ ([] : List Nat) ∨ w.heap.size ≤ z) := by
          intro z hz; simp at hz; rcases hz with rfl | rfl | rfl
          · exact .inr hp.a1
          · exact .inr hp.a2
          · exact .inr hp.a3
        have HQ2 : Hid (∀ z, z ∈ [b2, m2, r2] → z ∈ ([] : List Nat) ∨ w.heap.size ≤ z) := by
          intro z hz; simp at hz; rcases hz with rfl | rfl | rfl
          · exact .inr hp.a4
          · exact .inr hp.a5
          · exact .inr hp.a6
        have HQN1 : Hid (r2 ≠ b1 ∧ r2 ≠ m1 ∧ r1 ≠ r2) := ⟨(Q2.out.rf.ne Q1.out.st).1, (Q2.out.rf.ne Q1.out.st).2, hp.nr⟩
        have HQN2 : Hid (r1 ≠ b2 ∧ r1 ≠ m2 ∧ r1 ≠ r2) := ⟨(Q1.out.rf.ne Q2.out.st).1, (Q1.out.rf.ne Q2.out.st).2, hp.nr⟩
        have u1 := P1.out.st.lt
        have u2 := P1.out.st.map.lt
        have u3 := P1.out.rf.lt
        have u4 := P2.out.st.lt
        have u5 := P2.out.st.map.lt
        have u6 := P2.out.rf.lt
        have u7 := SX.out.2.size
        have u8 := SY.out.2.size
        have u9 := GX.out
        have u10 := GY.out
        have u11 := HK5.out.2.2.2
        have HXY1 : Hid (∀ w', Fr [b1, m1, r1] w5 w' → Pair w' bx mx pa s ∧ Pair w' bz mz pb t) := fun w' f =>
          ⟨Q1.out.over QX.out (by omega) (by omega) (by omega) f, Q1.out.over QZ.out (by omega) (by omega) (by omega) f⟩
        have HXY2 : Hid (∀ w', Fr [b2, m2, r2] w5 w' → Pair w' bx mx pa s ∧ Pair w' bz mz pb t) := fun w' f =>
          ⟨Q2.out.over QX.out (by omega) (by omega) (by omega) f, Q2.out.over QZ.out (by omega) (by omega) (by omega) f⟩
        clear u1 u2 u3 u4 u5 u6 u7 u8 u9 u10 u11 hp
        obtain ⟨x, hx⟩ : ∃ x, xs[k]? = some x := ⟨_, List.getElem?_eq_getElem (by rw [HL.out]; exact hlt)⟩
        have HIx : Hid (∀ w', Below w.heap.size w w' → IntsR w' x.lv x.nums) := fun w' hb => by
          obtain ⟨_, _, _, _, _, _, _, _, _, _, _, _, _, _, _, _, r6⟩ := (H1.out.below hb).get k x hx
          exact r6.1
        have hmem : x ∈ xs := List.mem_iff_getElem?.2 ⟨k, hx⟩
        have hgr := HG.out x hmem
        obtain ⟨pb0, off, rfl, hB, d0, d1, d2, d3, d4, d5, d6, r1x, r2x, r3x, r4x, r5x, r6x⟩ := H1.out.get k x hx
        obtain ⟨op, second, bytes, file, at_, by_, lv, nums⟩ := x
        simp only at d0 d1 d2 d3 d4 d5 d6 r1x r2x r3x r4x r5x r6x hgr HIx
        obtain ⟨⟨la, lc, rfl, -⟩, -, r7x⟩ := r6x
        have HI2 := HIx
        have HY : Hid (bytes.size ≤ maxLen ∧ (Lit.int .i64 file).wf = true ∧ (op = sLarge → at_ ≤ 8388609) ∧ ∀ z ∈ nums, (Lit.int .i64 z).wf = true) := ⟨r2x, r3x, hgr, r7x⟩
        have HX : Hid (∀ w', Below w.heap.size w w' → w'.cell? ⟨pb0, off + k * 7, none⟩ = some (.string op) ∧ w'.cell? ⟨pb0, off + k * 7 + 1, none⟩ = some (.bool second) ∧ w'.cell? ⟨pb0, off + k * 7 + 2, none⟩ = some (.string bytes) ∧ w'.cell? ⟨pb0, off + k * 7 + 3, none⟩ = some (.int .i64 file) ∧ w'.cell? ⟨pb0, off + k * 7 + 4, none⟩ = some (.int .i64 at_) ∧ w'.cell? ⟨pb0, off + k * 7 + 5, none⟩ = some (.int .i64 by_) ∧ w'.cell? ⟨pb0, off + k * 7 + 6, none⟩ = some (.slice la nums.length lc)) := fun w' hb => by
          have hk : ∀ o, w'.cell? ⟨pb0, o, none⟩ = w.cell? ⟨pb0, o, none⟩ := fun o => hb.cell (p := ⟨pb0, o, none⟩) hB
          exact ⟨(hk _).trans d0, (hk _).trans d1, (hk _).trans d2, (hk _).trans d3, (hk _).trans d4, (hk _).trans d5, (hk _).trans d6⟩
        clear d0 d1 d2 d3 d4 d5 d6 r1x r2x r3x r4x r5x r7x hgr hmem hx hB HIx
        obtain ⟨d0, d1, d2, d3, d4, d5, d6⟩ := HX.out w5 (FV.out.below0)
        have hk0 : (0 : Int) ≤ (k : Int) := by omega
        have hk1 : (k : Int) < (n : Int) := by omega
        cases second
        case' false => go_wp2_with fail
        case' true => go_wp2_with fail
        case' false => clear d0 d1 d2 d3 d4 d5 d6
        case' true => clear d0 d1 d2 d3 d4 d5 d6
        · have HS : Hid (∀ w', Fr [b2, m2, r2] w5 w' → (fun w' => w'.cell? ⟨pb0, off + k * 7, none⟩ = some (.string op) ∧ w'.cell? ⟨pb0, off + k * 7 + 1, none⟩ = some (.bool true) ∧ w'.cell? ⟨pb0, off + k * 7 + 2, none⟩ = some (.string bytes) ∧ w'.cell? ⟨pb0, off + k * 7 + 3, none⟩ = some (.int .i64 file) ∧ w'.cell? ⟨pb0, off + k * 7 + 4, none⟩ = some (.int .i64 at_) ∧ w'.cell? ⟨pb0, off + k * 7 + 5, none⟩ = some (.int .i64 by_) ∧ w'.cell? ⟨pb0, off + k * 7 + 6, none⟩ = some (.slice la nums.length lc) ∧ w'.cell? ⟨r1, 0, none⟩ = some (.slice A1 (FS s.files).length q1) ∧ w'.cell? ⟨r1, 1, none⟩ = some (.int .i64 s.most)) w') := fun w' f => by
            have hb := (FV.out.trans f HQ2.out).below0
            obtain ⟨d0, d1, d2, d3, d4, d5, d6⟩ := HX.out w' hb
            have hn := HQN2.out
            have e0 := (f.block r1 Q1.out.rf.lt (by simp; omega))
            exact ⟨d0, d1, d2, d3, d4, d5, d6, (World.cell?_of_block (w := w5) e0).trans c10, (World.cell?_of_block (w := w5) e0).trans c11⟩
          have FD := hid ((Fr.refl [b2, m2, r2] w5).drew)
          have S0 : (fun w' => w'.cell? ⟨pb0, off + k * 7, none⟩ = some (.string op) ∧ w'.cell? ⟨pb0, off + k * 7 + 1, none⟩ = some (.bool true) ∧ w'.cell? ⟨pb0, off + k * 7 + 2, none⟩ = some (.string bytes) ∧ w'.cell? ⟨pb0, off + k * 7 + 3, none⟩ = some (.int .i64 file) ∧ w'.cell? ⟨pb0, off + k * 7 + 4, none⟩ = some (.int .i64 at_) ∧ w'.cell? ⟨pb0, off + k * 7 + 5, none⟩ = some (.int .i64 by_) ∧ w'.cell? ⟨pb0, off + k * 7 + 6, none⟩ = some (.slice la nums.length lc) ∧ w'.cell? ⟨r1, 0, none⟩ = some (.slice A1 (FS s.files).length q1) ∧ w'.cell? ⟨r1, 1, none⟩ = some (.int .i64 s.most)) w5.drew := HS.out _ FD.out
          go_region_held3 (fun w' => w'.cell? ⟨pb0, off + k * 7, none⟩ = some (.string op) ∧ w'.cell? ⟨pb0, off + k * 7 + 1, none⟩ = some (.bool true) ∧ w'.cell? ⟨pb0, off + k * 7 + 2, none⟩ = some (.string bytes) ∧ w'.cell? ⟨pb0, off + k * 7 + 3, none⟩ = some (.int .i64 file) ∧ w'.cell? ⟨pb0, off + k * 7 + 4, none⟩ = some (.int .i64 at_) ∧ w'.cell? ⟨pb0, off + k * 7 + 5, none⟩ = some (.int .i64 by_) ∧ w'.cell? ⟨pb0, off + k * 7 + 6, none⟩ = some (.slice la nums.length lc) ∧ w'.cell? ⟨r1, 0, none⟩ = some (.slice A1 (FS s.files).length q1) ∧ w'.cell? ⟨r1, 1, none⟩ = some (.int .i64 s.most)) (first | assumption | trivial) (first
            | (go_at_call 18; refine (done_any (s := t) (t := s) (b := b2) (mb := m2) (rb := r2) (b2 := b1) (mb2 := m1) HY.out.1 HY.out.2.1 HY.out.2.2.1 (HI2.out _ (FV.out.drew.below0)) HY.out.2.2.2 (Q2.out.fr (Fr.refl [] w5).drew (by simp) (by simp) (by simp) (by simp)) (Q1.out.st.fr (Fr.refl [] w5).drew (by simp) (by simp)) (HV5.out.1.fr (Fr.refl [] w5).drew (by simp))).mono ?_; rintro e w6 ⟨u1, rfl, pd, fd⟩; have R1 := hid pd; have R2 := hid (Q2.out.over Q1.out (Ne.symm HP.out.nb) (Ne.symm HP.out.nm) (Ne.symm HP.out.nr) (FD.out.then fd)); have G6 := hid (FD.out.then fd); have S6 := HS.out _ G6.out; clear pd fd))
          rename_i hh
          clear hh
          have E6 : Hid (Fr [] w w6) := FV.out.trans G6.out HQ2.out
          have X6 := hid (HXY2.out w6 G6.out)
          clear S0 S6 HS c10 c11 c20 c21
          obtain ⟨vv1, hb1, hv1⟩ := R2.out.rf.blk
          obtain ⟨B1, p1, rfl, -, -⟩ := hv1.reads
          obtain ⟨vv2, hb2, hv2⟩ := R1.out.rf.blk
          obtain ⟨B2, p2, rfl, -, -⟩ := hv2.reads
          obtain ⟨vv3, hb3, hv3⟩ := X6.out.1.rf.blk
          obtain ⟨B3, p3, rfl, -, -⟩ := hv3.reads
          obtain ⟨vv4, hb4, hv4⟩ := X6.out.2.rf.blk
          obtain ⟨B4, p4, rfl, -, -⟩ := hv4.reads
          have HC6 : Hid (∀ w', Fr [] w6 w' → (w'.cell? ⟨r1, 0, none⟩ = some (.slice B1 (FS s.files).length p1) ∧ w'.cell? ⟨r1, 1, none⟩ = some (.int .i64 s.most)) ∧ (w'.cell? ⟨r2, 0, none⟩ = some (.slice B2 (FS u1.files).length p2) ∧ w'.cell? ⟨r2, 1, none⟩ = some (.int .i64 u1.most)) ∧ (w'.cell? ⟨pa, 0, none⟩ = some (.slice B3 (FS s.files).length p3) ∧ w'.cell? ⟨pa, 1, none⟩ = some (.int .i64 s.most)) ∧ (w'.cell? ⟨pb, 0, none⟩ = some (.slice B4 (FS t.files).length p4) ∧ w'.cell? ⟨pb, 1, none⟩ = some (.int .i64 t.most))) := fun w' f => by
            have e1 := (f.block r1 R2.out.rf.lt (by simp)).trans hb1
            have e2 := (f.block r2 R1.out.rf.lt (by simp)).trans hb2
            have e3 := (f.block pa X6.out.1.rf.lt (by simp)).trans hb3
            have e4 := (f.block pb X6.out.2.rf.lt (by simp)).trans hb4
            exact ⟨⟨cell_of_row w' _ 0 _ _ _ e1, cell_of_row w' _ 1 _ _ _ e1⟩, ⟨cell_of_row w' _ 0 _ _ _ e2, cell_of_row w' _ 1 _ _ _ e2⟩, ⟨cell_of_row w' _ 0 _ _ _ e3, cell_of_row w' _ 1 _ _ _ e3⟩, ⟨cell_of_row w' _ 0 _ _ _ e4, cell_of_row w' _ 1 _ _ _ e4⟩⟩
          have V1 := hid hv1
          have V2 := hid hv2
          have V3 := hid hv3
          have V4 := hid hv4
          clear hb1 hb2 hb3 hb4 hv1 hv2 hv3 hv4
          obtain ⟨⟨x1, x2⟩, ⟨x3, x4⟩, ⟨x5, x6⟩, x7, x8⟩ := HC6.out _ (Fr.refl _ _)
          go_wp2_with fail
          refine (agree_any b1 m1 s _ _ _ _ R2.out.st V1.out).mono ?_
          rintro e w7 ⟨rfl, f7⟩
          have F7 := hid f7
          clear f7 x1 x2 x3 x4 x5 x6 x7 x8
          obtain ⟨⟨x1, x2⟩, ⟨x3, x4⟩, ⟨x5, x6⟩, x7, x8⟩ := HC6.out _ F7.out
          go_wp2_with fail
          refine (agree_any b2 m2 u1 _ _ _ _ (R1.out.st.fr F7.out (by simp) (by simp)) (V2.out.fr F7.out (by simp))).mono ?_
          rintro e w8 ⟨rfl, f8⟩
          have F8 := hid (F7.out.then f8)
          clear f8 x1 x2 x3 x4 x5 x6 x7 x8
          obtain ⟨⟨x1, x2⟩, ⟨x3, x4⟩, ⟨x5, x6⟩, x7, x8⟩ := HC6.out _ F8.out
          go_wp2_with fail
          refine (agree_any bx mx s _ _ _ _ (X6.out.1.st.fr F8.out (by simp) (by simp)) (V3.out.fr F8.out (by simp))).mono ?_
          rintro e w9 ⟨rfl, f9⟩
          have F9 := hid (F8.out.then f9)
          clear f9 x1 x2 x3 x4 x5 x6 x7 x8
          obtain ⟨⟨x1, x2⟩, ⟨x3, x4⟩, ⟨x5, x6⟩, x7, x8⟩ := HC6.out _ F9.out
          go_wp2_with fail
          refine (agree_any bz mz t _ _ _ _ (X6.out.2.st.fr F9.out (by simp) (by simp)) (V4.out.fr F9.out (by simp))).mono ?_
          rintro e w10 ⟨rfl, f10⟩
          have F10 := hid (F9.out.then f10)
          clear f10 x1 x2 x3 x4 x5 x6 x7 x8
          go_wp2
          go_roundw
          case rel => exact ⟨k + 1, by go_num, by omega, s, u1, R2.out.fr F10.out (by simp) (by simp) (by simp) (by simp), R1.out.fr F10.out (by simp) (by simp) (by simp) (by simp), E6.out.then F10.out⟩
          case measure => simp [intOf]; omega

        · have HS : Hid (∀ w', Fr [b1, m1, r1] w5 w' → (fun w' => w'.cell? ⟨pb0, off + k * 7, none⟩ = some (.string op) ∧ w'.cell? ⟨pb0, off + k * 7 + 1, none⟩ = some (.bool false) ∧ w'.cell? ⟨pb0, off + k * 7 + 2, none⟩ = some (.string bytes) ∧ w'.cell? ⟨pb0, off + k * 7 + 3, none⟩ = some (.int .i64 file) ∧ w'.cell? ⟨pb0, off + k * 7 + 4, none⟩ = some (.int .i64 at_) ∧ w'.cell? ⟨pb0, off + k * 7 + 5, none⟩ = some (.int .i64 by_) ∧ w'.cell? ⟨pb0, off + k * 7 + 6, none⟩ = some (.slice la nums.length lc) ∧ w'.cell? ⟨r2, 0, none⟩ = some (.slice A2 (FS t.files).length q2) ∧ w'.cell? ⟨r2, 1, none⟩ = some (.int .i64 t.most)) w') := fun w' f => by
            have hb := (FV.out.trans f HQ1.out).below0
            obtain ⟨d0, d1, d2, d3, d4, d5, d6⟩ := HX.out w' hb
            have hn := HQN1.out
            have e0 := (f.block r2 Q2.out.rf.lt (by simp; omega))
            exact ⟨d0, d1, d2, d3, d4, d5, d6, (World.cell?_of_block (w := w5) e0).trans c20, (World.cell?_of_block (w := w5) e0).trans c21⟩
          have FD := hid ((Fr.refl [b1, m1, r1] w5).drew)
          have S0 : (fun w' => w'.cell? ⟨pb0, off + k * 7, none⟩ = some (.string op) ∧ w'.cell? ⟨pb0, off + k * 7 + 1, none⟩ = some (.bool false) ∧ w'.cell? ⟨pb0, off + k * 7 + 2, none⟩ = some (.string bytes) ∧ w'.cell? ⟨pb0, off + k * 7 + 3, none⟩ = some (.int .i64 file) ∧ w'.cell? ⟨pb0, off + k * 7 + 4, none⟩ = some (.int .i64 at_) ∧ w'.cell? ⟨pb0, off + k * 7 + 5, none⟩ = some (.int .i64 by_) ∧ w'.cell? ⟨pb0, off + k * 7 + 6, none⟩ = some (.slice la nums.length lc) ∧ w'.cell? ⟨r2, 0, none⟩ = some (.slice A2 (FS t.files).length q2) ∧ w'.cell? ⟨r2, 1, none⟩ = some (.int .i64 t.most)) w5.drew := HS.out _ FD.out
          go_region_held3 (fun w' => w'.cell? ⟨pb0, off + k * 7, none⟩ = some (.string op) ∧ w'.cell? ⟨pb0, off + k * 7 + 1, none⟩ = some (.bool false) ∧ w'.cell? ⟨pb0, off + k * 7 + 2, none⟩ = some (.string bytes) ∧ w'.cell? ⟨pb0, off + k * 7 + 3, none⟩ = some (.int .i64 file) ∧ w'.cell? ⟨pb0, off + k * 7 + 4, none⟩ = some (.int .i64 at_) ∧ w'.cell? ⟨pb0, off + k * 7 + 5, none⟩ = some (.int .i64 by_) ∧ w'.cell? ⟨pb0, off + k * 7 + 6, none⟩ = some (.slice la nums.length lc) ∧ w'.cell? ⟨r2, 0, none⟩ = some (.slice A2 (FS t.files).length q2) ∧ w'.cell? ⟨r2, 1, none⟩ = some (.int .i64 t.most)) (first | assumption | trivial) (first
            | (go_at_call 18; refine (done_any (s := s) (t := t) (b := b1) (mb := m1) (rb := r1) (b2 := b2) (mb2 := m2) HY.out.1 HY.out.2.1 HY.out.2.2.1 (HI2.out _ (FV.out.drew.below0)) HY.out.2.2.2 (Q1.out.fr (Fr.refl [] w5).drew (by simp) (by simp) (by simp) (by simp)) (Q2.out.st.fr (Fr.refl [] w5).drew (by simp) (by simp)) (HV5.out.2.fr (Fr.refl [] w5).drew (by simp))).mono ?_; rintro e w6 ⟨u1, rfl, pd, fd⟩; have R1 := hid pd; have R2 := hid (Q1.out.over Q2.out HP.out.nb HP.out.nm HP.out.nr (FD.out.then fd)); have G6 := hid (FD.out.then fd); have S6 := HS.out _ G6.out; clear pd fd))
          rename_i hh
          clear hh
          have E6 : Hid (Fr [] w w6) := FV.out.trans G6.out HQ1.out
          have X6 := hid (HXY1.out w6 G6.out)
          clear S0 S6 HS c10 c11 c20 c21
          obtain ⟨vv1, hb1, hv1⟩ := R1.out.rf.blk
          obtain ⟨B1, p1, rfl, -, -⟩ := hv1.reads
          obtain ⟨vv2, hb2, hv2⟩ := R2.out.rf.blk
          obtain ⟨B2, p2, rfl, -, -⟩ := hv2.reads
          obtain ⟨vv3, hb3, hv3⟩ := X6.out.1.rf.blk
          obtain ⟨B3, p3, rfl, -, -⟩ := hv3.reads
          obtain ⟨vv4, hb4, hv4⟩ := X6.out.2.rf.blk
          obtain ⟨B4, p4, rfl, -, -⟩ := hv4.reads
          have HC6 : Hid (∀ w', Fr [] w6 w' → (w'.cell? ⟨r1, 0, none⟩ = some (.slice B1 (FS u1.files).length p1) ∧ w'.cell? ⟨r1, 1, none⟩ = some (.int .i64 u1.most)) ∧ (w'.cell? ⟨r2, 0, none⟩ = some (.slice B2 (FS t.files).length p2) ∧ w'.cell? ⟨r2, 1, none⟩ = some (.int .i64 t.most)) ∧ (w'.cell? ⟨pa, 0, none⟩ = some (.slice B3 (FS s.files).length p3) ∧ w'.cell? ⟨pa, 1, none⟩ = some (.int .i64 s.most)) ∧ (w'.cell? ⟨pb, 0, none⟩ = some (.slice B4 (FS t.files).length p4) ∧ w'.cell? ⟨pb, 1, none⟩ = some (.int .i64 t.most))) := fun w' f => by
            have e1 := (f.block r1 R1.out.rf.lt (by simp)).trans hb1
            have e2 := (f.block r2 R2.out.rf.lt (by simp)).trans hb2
            have e3 := (f.block pa X6.out.1.rf.lt (by simp)).trans hb3
            have e4 := (f.block pb X6.out.2.rf.lt (by simp)).trans hb4
            exact ⟨⟨cell_of_row w' _ 0 _ _ _ e1, cell_of_row w' _ 1 _ _ _ e1⟩, ⟨cell_of_row w' _ 0 _ _ _ e2, cell_of_row w' _ 1 _ _ _ e2⟩, ⟨cell_of_row w' _ 0 _ _ _ e3, cell_of_row w' _ 1 _ _ _ e3⟩, ⟨cell_of_row w' _ 0 _ _ _ e4, cell_of_row w' _ 1 _ _ _ e4⟩⟩
          have V1 := hid hv1
          have V2 := hid hv2
          have V3 := hid hv3
          have V4 := hid hv4
          clear hb1 hb2 hb3 hb4 hv1 hv2 hv3 hv4
          obtain ⟨⟨x1, x2⟩, ⟨x3, x4⟩, ⟨x5, x6⟩, x7, x8⟩ := HC6.out _ (Fr.refl _ _)
          go_wp2_with fail
          refine (agree_any b1 m1 u1 _ _ _ _ R1.out.st V1.out).mono ?_
          rintro e w7 ⟨rfl, f7⟩
          have F7 := hid f7
          clear f7 x1 x2 x3 x4 x5 x6 x7 x8
          obtain ⟨⟨x1, x2⟩, ⟨x3, x4⟩, ⟨x5, x6⟩, x7, x8⟩ := HC6.out _ F7.out
          go_wp2_with fail
          refine (agree_any b2 m2 t _ _ _ _ (R2.out.st.fr F7.out (by simp) (by simp)) (V2.out.fr F7.out (by simp))).mono ?_
          rintro e w8 ⟨rfl, f8⟩
          have F8 := hid (F7.out.then f8)
          clear f8 x1 x2 x3 x4 x5 x6 x7 x8
          obtain ⟨⟨x1, x2⟩, ⟨x3, x4⟩, ⟨x5, x6⟩, x7, x8⟩ := HC6.out _ F8.out
          go_wp2_with fail
          refine (agree_any bx mx s _ _ _ _ (X6.out.1.st.fr F8.out (by simp) (by simp)) (V3.out.fr F8.out (by simp))).mono ?_
          rintro e w9 ⟨rfl, f9⟩
          have F9 := hid (F8.out.then f9)
          clear f9 x1 x2 x3 x4 x5 x6 x7 x8
          obtain ⟨⟨x1, x2⟩, ⟨x3, x4⟩, ⟨x5, x6⟩, x7, x8⟩ := HC6.out _ F9.out
          go_wp2_with fail
          refine (agree_any bz mz t _ _ _ _ (X6.out.2.st.fr F9.out (by simp) (by simp)) (V4.out.fr F9.out (by simp))).mono ?_
          rintro e w10 ⟨rfl, f10⟩
          have F10 := hid (F9.out.then f10)
          clear f10 x1 x2 x3 x4 x5 x6 x7 x8
          go_wp2
          go_roundw
          case rel => exact ⟨k + 1, by go_num, by omega, u1, t, R1.out.fr F10.out (by simp) (by simp) (by simp) (by simp), R2.out.fr F10.out (by simp) (by simp) (by simp) (by simp), E6.out.then F10.out⟩
          case measure => simp [intOf]; omega

    · go_wp2_with fail
      refine (awake_any _).mono ?_
      rintro e wz ⟨rfl, fz⟩
      go_wp2_with fail
      go_ret
      exact ⟨rfl, (FW.out.then fz).below0⟩

end Go.Proofs.Ytggkhgpdnjkfcaa
