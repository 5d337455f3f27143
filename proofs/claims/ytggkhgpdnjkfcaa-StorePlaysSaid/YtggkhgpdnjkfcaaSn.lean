/-
  The walk of StoreNumbers.
-/
import Derived.Test.YtggkhgpdnjkfcaaSk
namespace Go.Proofs.Ytggkhgpdnjkfcaa
open Go.RowKit Go.Maps

def RetTrue (w : World) (e : Ending) (w' : World) : Prop := e = .returned (.bool true) ∧ Below w.heap.size w w'

set_option maxRecDepth 100000 in
set_option maxHeartbeats 4000000 in
theorem numbers_any (a : Option Addr) (n c : Nat) (xs : List Ac) (bytes : ByteArray) (a2 : Option Addr) (n2 c2 : Nat) (ys : List Ac) (w : World) (h1 : ActsB w.heap.size w a n xs) (h2 : ActsB w.heap.size w a2 n2 ys) (hb : bytes.size ≤ maxLen) :
    Calls Try.prog 3 #[.slice a n c, .string bytes, .slice a2 n2 c2] w (RetTrue w) := by
  have H1 := hid h1
  have H2 := hid h2
  have HB := hid hb
  have hsm := h2.small
  have HL := hid h2.len
  unfold maxLen at hb
  clear h1 h2
  go_enter Try.func3, Try.ntmps3
  go_wp2_with fail
  refine (great_any _ _ _ _ _ _ H1.out).mono ?_
  rintro e w1 ⟨r1, rfl, -, rfl⟩
  cases r1
  case true =>
    go_wp2_with fail
    refine (awake_any _).mono ?_
    rintro e w1 ⟨rfl, f1⟩
    go_wp2_with fail
    go_ret
    exact ⟨rfl, f1.below0⟩
  go_wp2_with fail
  refine (great_any _ _ _ _ _ _ H2.out).mono ?_
  rintro e w1 ⟨r2, rfl, -, rfl⟩
  cases r2
  case true =>
    go_wp2_with fail
    refine (awake_any _).mono ?_
    rintro e w1 ⟨rfl, f1⟩
    go_wp2_with fail
    go_ret
    exact ⟨rfl, f1.below0⟩
  by_cases hb2 : 2000 < bytes.size
  · go_wp2_with fail
    refine (awake_any _).mono ?_
    rintro e w1 ⟨rfl, f1⟩
    go_wp2_with fail
    go_ret
    exact ⟨rfl, f1.below0⟩
  go_wp2_with fail
  refine (new_store _).mono ?_
  rintro e w1 ⟨b, mb, rfl, s1, f1, z1, z2⟩
  have F1 := hid f1
  go_wp2_with fail
  refine (new_store _).mono ?_
  rintro e w2 ⟨b2, mb2, rfl, t2, f2, z3, z4⟩
  have s2 := s1.fr f2 (by simp) (by simp)
  have hN := s1.ne2 z3 z4
  have F2 := hid (F1.out.then f2)
  have z5 : w.heap.size ≤ b2 := Nat.le_trans F1.out.size z3
  have z6 : w.heap.size ≤ mb2 := Nat.le_trans F1.out.size z4
  have HN : Hid (b ≠ b2 ∧ mb ≠ mb2) := by simp at hN; exact ⟨by omega, by omega⟩
  have HZ : Hid ((w.heap.size ≤ b ∧ w.heap.size ≤ mb) ∧ w.heap.size ≤ b2 ∧ w.heap.size ≤ mb2) := ⟨⟨z1, z2⟩, z5, z6⟩
  have HF : Hid (∀ z, z ∈ [b, mb, b2, mb2] → z ∈ ([] : List Nat) ∨ w.heap.size ≤ z) := by
    intro z hz; simp at hz; rcases hz with rfl | rfl | rfl | rfl <;> right <;> assumption
  clear f1 f2 s1 F1 z1 z2 z3 z4 z5 z6 hN
  go_wp2_with fail
  refine (play_any w.heap.size _ _ _ xs _ (H1.out.below (F2.out.below (Nat.le_refl _) (by simp))) b mb b2 mb2 _ _ s2 t2 HZ.out.1.1 HZ.out.1.2 HZ.out.2.1 HZ.out.2.2 HN.out.1 HN.out.2).mono ?_
  rintro e w3 ⟨rfl, d3⟩
  have F3 := hid (F2.out.trans d3.fr HF.out)
  obtain ⟨s3, t3, -⟩ := d3
  clear s2 t2 F2
  generalize playL xs (St.empty, St.empty) = p at s3 t3
  obtain ⟨s, t⟩ := p
  simp only at s3 t3
  have m0 := s3.ok.m0
  have m1 := s3.ok.m1
  go_wp2_with fail
  refine (most_any b mb s _ s3).mono ?_
  rintro e w4 ⟨rfl, rfl⟩
  go_wp2_with fail
  have HO := hid s3.ok
  by_cases hm : s.most = 4000
  · have hfull : s.full bytes = true := by simp [St.full, hm]
    refine (put_full b mb s bytes _ s3 HB.out hfull).mono ?_
    rintro e w4 ⟨rfl, rfl⟩
    have hmb : (s.most == 4000) = true := by simp [hm]
    clear hm hfull
    go_wp2_with fail
    refine (most_any b mb s _ s3).mono ?_
    rintro e w4 ⟨rfl, rfl⟩
    go_wp2_with fail
    refine (awake_any _).mono ?_
    rintro e w5 ⟨rfl, f5⟩
    go_wp2_with fail
    go_ret
    exact ⟨rfl, (F3.out.then f5).below0⟩
  · have hnew := has_new (s := s) bytes (by omega) (by omega)
    refine (put_room b mb s bytes _ s3 HB.out hnew.1).mono ?_
    rintro e w4 ⟨rfl, s4, f4⟩
    have t4 := t3.fr f4 (by simp; exact ⟨Ne.symm HN.out.1, t3.ne_map s3.map⟩) (by simp; exact ⟨Ne.symm (s3.ne_map t3.map), Ne.symm HN.out.2⟩)
    have F4 := hid (F3.out.trans f4 (fun z hz => HF.out z (by simp at hz ⊢; omega)))
    have HH := hid hnew.2
    have hmb : (s.most == 4000) = false := by simp [hm]
    have S4 := hid s4
    have T4 := hid t4
    have hm0 : s.most < 4000 := by omega
    clear hm hnew s3 t3 F3 f4 s4 t4
    generalize hq : s.put bytes = q at HH S4
    have hqm : q.most = s.most + 1 := hq ▸ put_m1 (by omega) (by omega)
    have HQ := hid hqm
    clear hq hqm
    have D4 : Hid (Below w.heap.size w w4) := F4.out.below (Nat.le_refl _) (by simp)
    go_wp2_with fail
    go_loopw [12, 13] (fun g i wr => ∃ (k : Nat) (gb : Bool), i = .int .i64 k ∧ k ≤ n2 ∧ g = .bool gb ∧ GoneUpto ys (s.most + 1) k gb ∧ Fr [] w4 wr) (fun _ i _ => n2 - (intOf i).toNat)
    case atStart => exact ⟨0, false, rfl, Nat.zero_le _, rfl, fun _ j y hj => absurd hj (by omega), Fr.refl _ _⟩
    case round =>
      obtain ⟨k, gb, rfl, hk, rfl, hg, hfr⟩ := hrel
      have HG := hid hg
      have HR := hid hfr
      by_cases hlt : k < n2
      · obtain ⟨x, hx⟩ : ∃ x, ys[k]? = some x := ⟨_, List.getElem?_eq_getElem (by rw [HL.out]; exact hlt)⟩
        obtain ⟨pb, off, rfl, hB, c0, c1, c2, c3, c4, c5, c6, r1, r2, r3, r4, r5, r6⟩ := (H2.out.below (D4.out.trans (hfr.below (B := w.heap.size) D4.out.size (by simp)))).get k x hx
        clear hg hfr hB
        obtain ⟨op, second, bytes', file, at_, by_, lv, nums⟩ := x
        simp only at c0 c1 c2 c3 c4 c5 c6 r1 r2 r3 r4 r5 r6
        obtain ⟨⟨la, lc, rfl, -⟩, -⟩ := r6
        have HX := hid hx
        unfold maxLen at r1
        clear hx r2 r3 r4 r5
        cases gb
        case true =>
          go_wp2_with fail
          go_roundw
          case rel => exact ⟨k + 1, true, by go_num, by omega, rfl, GoneUpto.yes _ _ _, HR.out.alloc _⟩
          case measure => simp [intOf]; omega
        cases second
        case true =>
          go_wp2_with fail
          all_goals go_roundw
          all_goals first
            | (case measure => simp [intOf]; omega)
            | (case rel => exact ⟨k + 1, false, by go_num, by omega, rfl, HG.out.step HX.out (.inr (.inr rfl)), HR.out.alloc _⟩)
        by_cases hf : file = s.most + 1
        · have hfb : (file == s.most + 1) = true := by simp [hf]
          have HF2 := hid hf
          clear hf
          go_wp2_with fail
          all_goals go_roundw
          all_goals first
            | (case measure => simp [intOf]; omega)
            | (case rel => first
                | exact ⟨k + 1, true, by go_num, by omega, rfl, GoneUpto.yes _ _ _, HR.out.alloc _⟩
                | exact ⟨k + 1, false, by go_num, by omega, rfl, HG.out.step HX.out (.inr (.inl ⟨beq_eq_false_iff_ne.2 (by assumption), beq_eq_false_iff_ne.2 (by assumption)⟩)), HR.out.alloc _⟩)
        · have hfb : (file == s.most + 1) = false := by simp [hf]
          have HF2 := hid hf
          clear hf
          go_wp2_with fail
          all_goals go_roundw
          all_goals first
            | (case measure => simp [intOf]; omega)
            | (case rel => exact ⟨k + 1, false, by go_num, by omega, rfl, HG.out.step HX.out (.inl HF2.out), HR.out.alloc _⟩)
      · have hkn : k = ys.length := by rw [HL.out]; omega
        subst hkn
        have s5 := S4.out.fr hfr (by simp) (by simp)
        have t5 := T4.out.fr hfr (by simp) (by simp)
        have F5 := hid (F4.out.then hfr)
        clear hfr hg
        go_wp2_with fail
        refine (play_any w.heap.size _ _ _ ys _ (H2.out.below (F5.out.below (Nat.le_refl _) (by simp))) b mb b2 mb2 _ _ s5 t5 HZ.out.1.1 HZ.out.1.2 HZ.out.2.1 HZ.out.2.2 HN.out.1 HN.out.2).mono ?_
        rintro e w6 ⟨rfl, d6⟩
        have F6 := hid (F5.out.trans d6.fr HF.out)
        obtain ⟨s6, -, -⟩ := d6
        have hmost := playL_most ys (q, t)
        have hplay : gb = false → Has (playL ys (q, t)).1 (s.most + 1) bytes := fun e => by
          subst e; exact HH.out.play ys (q, t) HG.out.all
        have HP := hid hplay
        clear s5 t5 hplay F5
        generalize playL ys (q, t) = p at s6 HP hmost
        obtain ⟨s7, t7⟩ := p
        simp only at s6 hmost
        rw [HQ.out] at hmost
        have m2 := s6.ok.m1
        have hk1 := wf_small (n := s.most + 1) (by omega) (by omega)
        go_wp2_with fail
        refine (get_any b mb s7 (s.most + 1) hk1 _ s6).mono ?_
        rintro e w7 ⟨rfl, rfl⟩
        have HE : Hid (gb = false → s7.getB (s.most + 1) = bytes ∧ s7.getE (s.most + 1) = 0) := fun e => by
          have := (HP.out e).get
          simp [St.getB, St.getE, this]
        generalize s7.getB (s.most + 1) = gB at HE ⊢
        generalize s7.getE (s.most + 1) = gE at HE ⊢
        have hput := put_any b mb s7 ⟨#[]⟩ w6 s6 (by decide)
        clear hk1 s6 HP
        by_cases h5 : s7.most = 4000
        · have ef : s7.putE ⟨#[]⟩ = 2 := by simp [St.putE, St.full, h5]
          have es : s7.put ⟨#[]⟩ = s7 := by simp [St.put, St.full, h5]
          rw [ef, es] at hput
          have h5b : (s7.most == 4000) = true := by simp [h5]
          clear ef es h5
          cases gb
          · obtain ⟨rfl, rfl⟩ := HE.out rfl
            go_wp2_with fail
            refine hput.mono ?_
            rintro e w7 ⟨rfl, s8, f8⟩
            have F8 := hid (F6.out.trans f8 (fun z hz => HF.out z (by simp at hz ⊢; omega)))
            clear f8 hput
            go_wp2_with fail
            refine (most_any b mb s7 _ s8).mono ?_
            rintro e w8 ⟨rfl, rfl⟩
            go_wp2_with fail
            refine (awake_any _).mono ?_
            rintro e w9 ⟨rfl, f9⟩
            go_wp2_with fail
            go_ret
            exact ⟨rfl, (F8.out.then f9).below0⟩
          · go_wp2_with fail
            refine hput.mono ?_
            rintro e w7 ⟨rfl, s8, f8⟩
            have F8 := hid (F6.out.trans f8 (fun z hz => HF.out z (by simp at hz ⊢; omega)))
            clear f8 hput
            go_wp2_with fail
            refine (most_any b mb s7 _ s8).mono ?_
            rintro e w8 ⟨rfl, rfl⟩
            go_wp2_with fail
            refine (awake_any _).mono ?_
            rintro e w9 ⟨rfl, f9⟩
            go_wp2_with fail
            go_ret
            exact ⟨rfl, (F8.out.then f9).below0⟩
        · have ef : s7.putE ⟨#[]⟩ = 0 := put_e0 (by omega)
          have en : s7.putN ⟨#[]⟩ = s7.most + 1 := put_n0 (by omega)
          rw [ef, en] at hput
          have hgt : s.most + 1 < s7.most + 1 := by omega
          clear ef en h5
          cases gb
          · obtain ⟨rfl, rfl⟩ := HE.out rfl
            go_wp2_with fail
            refine hput.mono ?_
            rintro e w7 ⟨rfl, -, f8⟩
            have F8 := hid (F6.out.trans f8 (fun z hz => HF.out z (by simp at hz ⊢; omega)))
            clear f8 hput
            go_wp2_with fail
            refine (awake_any _).mono ?_
            rintro e w9 ⟨rfl, f9⟩
            go_wp2_with fail
            go_ret
            exact ⟨rfl, (F8.out.then f9).below0⟩
          · go_wp2_with fail
            refine hput.mono ?_
            rintro e w7 ⟨rfl, -, f8⟩
            have F8 := hid (F6.out.trans f8 (fun z hz => HF.out z (by simp at hz ⊢; omega)))
            clear f8 hput
            go_wp2_with fail
            refine (awake_any _).mono ?_
            rintro e w9 ⟨rfl, f9⟩
            go_wp2_with fail
            go_ret
            exact ⟨rfl, (F8.out.then f9).below0⟩

end Go.Proofs.Ytggkhgpdnjkfcaa
