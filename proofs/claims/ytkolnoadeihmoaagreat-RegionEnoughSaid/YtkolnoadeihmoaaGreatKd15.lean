/-
  Valid of a deed: create. (printed by wip/tools/gen_valid.py)
  Valid of a deed: drop. (printed by wip/tools/gen_valid.py)
  Valid of a deed: rename. (printed by wip/tools/gen_valid.py)
  Valid of a deed: swap. (printed by wip/tools/gen_valid.py)
  Valid of a deed: lay. (printed by wip/tools/gen_valid.py)
  Valid of a deed: keep. (printed by wip/tools/gen_valid.py)
  Valid of every deed; Commit.
-/
import Derived.BigGuardPart
import Derived.BigCall
import Derived.Test.YtkolnoadeihmoaaGreatKd14
namespace Go.Proofs.YtkolnoadeihmoaaGreat
open Go.RowKit Go.Proofs.YtkolnoadeihmoaaGreatW.PrintWords
set_option maxRecDepth 100000 in
set_option maxHeartbeats 8000000 in
theorem valid_create (x : DE) (A4 : Option Addr) (c4 : Nat) (A6 : Option Addr) (c6 : Nat) (w : World) (r4 : kC.C w A4 x.f4.length x.f4) (r6 : kI.C w A6 x.f6.length x.f6) (hi : DeedIn x) (fn : Nat) (hf : flagsOf x.f0 = some ⟨true, true, false, false, true, true⟩) (hr : rowOf x.f0 = some (dRow true true false false true true fn)) :
    Calls Tryz.prog 91 #[deedV x A4 c4 A6 c6] w fun e w' => e = .returned (.bool (validB x)) ∧ Fr [] w w' := by
  unfold deedV
  have E0 := hid (show validB x = (preB ⟨true, true, false, false, true, true⟩ x && restB ⟨true, true, false, false, true, true⟩ x) by unfold validB; rw [hf])
  obtain ⟨hl1, hl2, hl3⟩ := look3 (W := (w.alloc (.cells #[.string x.f0, .string x.f1, .string x.f2, .string x.f3, .slice A4 x.f4.length c4, .int .i64 x.f5, .slice A6 x.f6.length c6] 135)).drew) (fun W r hb => look_yes_in (r := r) hr hb)
  simp only [World.alloc_drew, World.size_drew, World.size_alloc, box0, dRow] at hl1 hl2 hl3
  have G1 := hid (ends1 w (.cells #[.string x.f0, .string x.f1, .string x.f2, .string x.f3, .slice A4 x.f4.length c4, .int .i64 x.f5, .slice A6 x.f6.length c6] 135) (.map deedRows 7) (.cells #[.bool true, .bool true, .bool false, .bool false, .bool true, .bool true, .func (.func fn) #[] #[]] 198))
  have G2 := hid (ends2 w (.cells #[.string x.f0, .string x.f1, .string x.f2, .string x.f3, .slice A4 x.f4.length c4, .int .i64 x.f5, .slice A6 x.f6.length c6] 135) (.map deedRows 7) (.cells #[.bool true, .bool true, .bool false, .bool false, .bool true, .bool true, .func (.func fn) #[] #[]] 198))
  have R4 := hid r4
  have R6 := hid r6
  have HI := hid hi
  clear hf hr r4 r6 hi
  go_enter Tryz.func91, Tryz.ntmps91
  dsimp only [List.append]
  go_wp2_with fail
  refine (fun (KEY : Hid (∀ w2 mb rb, Fr [] w w2 → ValAt w2 w.heap.size rb x A4 c4 A6 c6 true true false false true true → (?KEYP : World → Nat → Nat → Prop) w2 mb rb)) => ?main) ?key
  case main =>
    go_region_with (first
      | (go_at_call 135; refine (deeds_any _).mono ?_; rintro e w' ⟨rfl, rfl⟩))
    all_goals first
      | (obtain ⟨g1, g2, g3⟩ := G1.out
         have g4 := ValAt.mk' g2 g3
         generalize (((w.alloc _).alloc (.map deedRows 7)).alloc _).drew = w2 at g1 g4 ⊢
         generalize w.heap.size + 1 + 1 = rb at g4 ⊢
         generalize w.heap.size + 1 = mb
         exact KEY.out w2 mb rb g1 g4)
      | (obtain ⟨g1, g2, g3⟩ := G2.out
         have g4 := ValAt.mk' g2 g3
         generalize (((w.alloc _).alloc _).alloc (.map deedRows 7)).drew = w2 at g1 g4 ⊢
         generalize w.heap.size + 1 + 1 = mb
         generalize w.heap.size + 1 = rb at g4 ⊢
         exact KEY.out w2 mb rb g1 g4)
  refine hid (fun w2 mb rb g1 g4 => ?_)
  clear hl1 hl2 hl3 G1 G2
  have ALL := hid g4
  have F1 := hid g1
  have FA := hid (Fr.refl [] w2)
  obtain ⟨d1, d2, d3, d4, d5, d6, e0, e1, e2, e3, e4, e5⟩ := g4
  clear g1
  by_cases ht : x.f2.toList = []
  · have hof : ofB x = false := by simp [ofB, ht]
    have E1 := hid E0.out
    unfold preB restB at E1
    rw [hof] at E1
    have E2 := hid E1.out
    have ht2 : x.f2.toList.isEmpty = true := by simpa using ht
    clear E0 E1 hof
    have hk : (x.f5 < 0 ∧ (x.f5 == 0) = false) ∨ (1000000000 < x.f5 ∧ (x.f5 == 0) = false) ∨ (0 ≤ x.f5 ∧ x.f5 ≤ 1000000000) := by
      by_cases q1 : x.f5 < 0
      · exact .inl ⟨q1, by simp; omega⟩
      · by_cases q2 : 1000000000 < x.f5
        · exact .inr (.inl ⟨q2, by simp; omega⟩)
        · exact .inr (.inr ⟨by omega, by omega⟩)
    have hk' : (x.f5 < 0 ∧ (x.f5 == 0) = false ∧ ¬ 0 ≤ x.f5) ∨ (1000000000 < x.f5 ∧ (x.f5 == 0) = false ∧ 0 ≤ x.f5) ∨ (0 ≤ x.f5 ∧ x.f5 ≤ 1000000000 ∧ 0 ≤ x.f5) := by
      rcases hk with ⟨h1, h2⟩ | ⟨h1, h2⟩ | ⟨h1, h2⟩
      · exact .inl ⟨h1, h2, by omega⟩
      · exact .inr (.inl ⟨h1, h2, by omega⟩)
      · exact .inr (.inr ⟨h1, h2, h1⟩)
    clear hk
    rcases hk' with ⟨hk1, hk2, hk3⟩ | ⟨hk1, hk2, hk3⟩ | ⟨hk1, hk2, hk3⟩
    all_goals
      go_wp2_with (first
        | (go_at_call 34; with_reducible refine (word_fr _ (by first | exact HI.out.s1 | exact HI.out.s2 | exact HI.out.s3) _).mono ?_; rintro e w3 ⟨rfl, f3⟩; have FA := hid (FA.out.then f3); obtain ⟨d1, d2, d3, d4, d5, d6, e0, e1, e2, e3, e4, e5⟩ := ALL.out.fr FA.out; clear f3)
        | (go_at_call 136; refine (cols_any A4 c4 x.f4 _ (Kd.C_below R4.out (F1.out.then FA.out).below0) HI.out.l4 HI.out.n4).mono ?_; rintro e w3 ⟨rfl, f3⟩; have FA := hid (FA.out.then f3); obtain ⟨d1, d2, d3, d4, d5, d6, e0, e1, e2, e3, e4, e5⟩ := ALL.out.fr FA.out; clear f3)
        | (go_at_call 137; refine (files_any A6 c6 x.f6 _ (Kd.C_below R6.out (F1.out.then FA.out).below0) HI.out.l6).mono ?_; rintro e w3 ⟨rfl, f3⟩; have FA := hid (FA.out.then f3); obtain ⟨d1, d2, d3, d4, d5, d6, e0, e1, e2, e3, e4, e5⟩ := ALL.out.fr FA.out; clear f3))
    all_goals first
      | (have hno : False := by omega
         exact hno.elim)
      | (have E3 := E2.out
         go_ret
         refine ⟨?_, F1.out.then FA.out⟩
         rw [E3]
         refine congrArg (fun b => Ending.returned (Value.bool b)) ?_
         rw [Bool.eq_iff_iff]
         first
           | (simp_all; done)
           | (simp_all; intros; omega))
  · have hof : ofB x = true := by simp [ofB, ht]
    have E1 := hid E0.out
    unfold preB restB at E1
    rw [hof] at E1
    have E2 := hid E1.out
    have ht2 : x.f2.toList.isEmpty = false := by simpa using ht
    clear E0 E1 hof
    have hk : (x.f5 < 0 ∧ (x.f5 == 0) = false) ∨ (1000000000 < x.f5 ∧ (x.f5 == 0) = false) ∨ (0 ≤ x.f5 ∧ x.f5 ≤ 1000000000) := by
      by_cases q1 : x.f5 < 0
      · exact .inl ⟨q1, by simp; omega⟩
      · by_cases q2 : 1000000000 < x.f5
        · exact .inr (.inl ⟨q2, by simp; omega⟩)
        · exact .inr (.inr ⟨by omega, by omega⟩)
    have hk' : (x.f5 < 0 ∧ (x.f5 == 0) = false ∧ ¬ 0 ≤ x.f5) ∨ (1000000000 < x.f5 ∧ (x.f5 == 0) = false ∧ 0 ≤ x.f5) ∨ (0 ≤ x.f5 ∧ x.f5 ≤ 1000000000 ∧ 0 ≤ x.f5) := by
      rcases hk with ⟨h1, h2⟩ | ⟨h1, h2⟩ | ⟨h1, h2⟩
      · exact .inl ⟨h1, h2, by omega⟩
      · exact .inr (.inl ⟨h1, h2, by omega⟩)
      · exact .inr (.inr ⟨h1, h2, h1⟩)
    clear hk
    rcases hk' with ⟨hk1, hk2, hk3⟩ | ⟨hk1, hk2, hk3⟩ | ⟨hk1, hk2, hk3⟩
    all_goals
      go_wp2_with (first
        | (go_at_call 34; with_reducible refine (word_fr _ (by first | exact HI.out.s1 | exact HI.out.s2 | exact HI.out.s3) _).mono ?_; rintro e w3 ⟨rfl, f3⟩; have FA := hid (FA.out.then f3); obtain ⟨d1, d2, d3, d4, d5, d6, e0, e1, e2, e3, e4, e5⟩ := ALL.out.fr FA.out; clear f3)
        | (go_at_call 136; refine (cols_any A4 c4 x.f4 _ (Kd.C_below R4.out (F1.out.then FA.out).below0) HI.out.l4 HI.out.n4).mono ?_; rintro e w3 ⟨rfl, f3⟩; have FA := hid (FA.out.then f3); obtain ⟨d1, d2, d3, d4, d5, d6, e0, e1, e2, e3, e4, e5⟩ := ALL.out.fr FA.out; clear f3)
        | (go_at_call 137; refine (files_any A6 c6 x.f6 _ (Kd.C_below R6.out (F1.out.then FA.out).below0) HI.out.l6).mono ?_; rintro e w3 ⟨rfl, f3⟩; have FA := hid (FA.out.then f3); obtain ⟨d1, d2, d3, d4, d5, d6, e0, e1, e2, e3, e4, e5⟩ := ALL.out.fr FA.out; clear f3))
    all_goals first
      | (have hno : False := by omega
         exact hno.elim)
      | (have E3 := E2.out
         go_ret
         refine ⟨?_, F1.out.then FA.out⟩
         rw [E3]
         refine congrArg (fun b => Ending.returned (Value.bool b)) ?_
         rw [Bool.eq_iff_iff]
         first
           | (simp_all; done)
           | (simp_all; intros; omega))
set_option maxRecDepth 100000 in
set_option maxHeartbeats 8000000 in
theorem valid_drop (x : DE) (A4 : Option Addr) (c4 : Nat) (A6 : Option Addr) (c6 : Nat) (w : World) (r4 : kC.C w A4 x.f4.length x.f4) (r6 : kI.C w A6 x.f6.length x.f6) (hi : DeedIn x) (fn : Nat) (hf : flagsOf x.f0 = some ⟨false, false, false, false, true, true⟩) (hr : rowOf x.f0 = some (dRow false false false false true true fn)) :
    Calls Tryz.prog 91 #[deedV x A4 c4 A6 c6] w fun e w' => e = .returned (.bool (validB x)) ∧ Fr [] w w' := by
  unfold deedV
  have E0 := hid (show validB x = (preB ⟨false, false, false, false, true, true⟩ x && restB ⟨false, false, false, false, true, true⟩ x) by unfold validB; rw [hf])
  obtain ⟨hl1, hl2, hl3⟩ := look3 (W := (w.alloc (.cells #[.string x.f0, .string x.f1, .string x.f2, .string x.f3, .slice A4 x.f4.length c4, .int .i64 x.f5, .slice A6 x.f6.length c6] 135)).drew) (fun W r hb => look_yes_in (r := r) hr hb)
  simp only [World.alloc_drew, World.size_drew, World.size_alloc, box0, dRow] at hl1 hl2 hl3
  have G1 := hid (ends1 w (.cells #[.string x.f0, .string x.f1, .string x.f2, .string x.f3, .slice A4 x.f4.length c4, .int .i64 x.f5, .slice A6 x.f6.length c6] 135) (.map deedRows 7) (.cells #[.bool false, .bool false, .bool false, .bool false, .bool true, .bool true, .func (.func fn) #[] #[]] 198))
  have G2 := hid (ends2 w (.cells #[.string x.f0, .string x.f1, .string x.f2, .string x.f3, .slice A4 x.f4.length c4, .int .i64 x.f5, .slice A6 x.f6.length c6] 135) (.map deedRows 7) (.cells #[.bool false, .bool false, .bool false, .bool false, .bool true, .bool true, .func (.func fn) #[] #[]] 198))
  have R4 := hid r4
  have R6 := hid r6
  have HI := hid hi
  clear hf hr r4 r6 hi
  go_enter Tryz.func91, Tryz.ntmps91
  dsimp only [List.append]
  go_wp2_with fail
  refine (fun (KEY : Hid (∀ w2 mb rb, Fr [] w w2 → ValAt w2 w.heap.size rb x A4 c4 A6 c6 false false false false true true → (?KEYP : World → Nat → Nat → Prop) w2 mb rb)) => ?main) ?key
  case main =>
    go_region_with (first
      | (go_at_call 135; refine (deeds_any _).mono ?_; rintro e w' ⟨rfl, rfl⟩))
    all_goals first
      | (obtain ⟨g1, g2, g3⟩ := G1.out
         have g4 := ValAt.mk' g2 g3
         generalize (((w.alloc _).alloc (.map deedRows 7)).alloc _).drew = w2 at g1 g4 ⊢
         generalize w.heap.size + 1 + 1 = rb at g4 ⊢
         generalize w.heap.size + 1 = mb
         exact KEY.out w2 mb rb g1 g4)
      | (obtain ⟨g1, g2, g3⟩ := G2.out
         have g4 := ValAt.mk' g2 g3
         generalize (((w.alloc _).alloc _).alloc (.map deedRows 7)).drew = w2 at g1 g4 ⊢
         generalize w.heap.size + 1 + 1 = mb
         generalize w.heap.size + 1 = rb at g4 ⊢
         exact KEY.out w2 mb rb g1 g4)
  refine hid (fun w2 mb rb g1 g4 => ?_)
  clear hl1 hl2 hl3 G1 G2
  have ALL := hid g4
  have F1 := hid g1
  have FA := hid (Fr.refl [] w2)
  obtain ⟨d1, d2, d3, d4, d5, d6, e0, e1, e2, e3, e4, e5⟩ := g4
  clear g1
  by_cases ht : x.f2.toList = []
  · have hof : ofB x = false := by simp [ofB, ht]
    have E1 := hid E0.out
    unfold preB restB at E1
    rw [hof] at E1
    have E2 := hid E1.out
    have ht2 : x.f2.toList.isEmpty = true := by simpa using ht
    clear E0 E1 hof
    go_wp2_with (first
      | (go_at_call 34; with_reducible refine (word_fr _ (by first | exact HI.out.s1 | exact HI.out.s2 | exact HI.out.s3) _).mono ?_; rintro e w3 ⟨rfl, f3⟩; have FA := hid (FA.out.then f3); obtain ⟨d1, d2, d3, d4, d5, d6, e0, e1, e2, e3, e4, e5⟩ := ALL.out.fr FA.out; clear f3)
      | (go_at_call 136; refine (cols_any A4 c4 x.f4 _ (Kd.C_below R4.out (F1.out.then FA.out).below0) HI.out.l4 HI.out.n4).mono ?_; rintro e w3 ⟨rfl, f3⟩; have FA := hid (FA.out.then f3); obtain ⟨d1, d2, d3, d4, d5, d6, e0, e1, e2, e3, e4, e5⟩ := ALL.out.fr FA.out; clear f3)
      | (go_at_call 137; refine (files_any A6 c6 x.f6 _ (Kd.C_below R6.out (F1.out.then FA.out).below0) HI.out.l6).mono ?_; rintro e w3 ⟨rfl, f3⟩; have FA := hid (FA.out.then f3); obtain ⟨d1, d2, d3, d4, d5, d6, e0, e1, e2, e3, e4, e5⟩ := ALL.out.fr FA.out; clear f3))
    all_goals first
      | (have hno : False := by omega
         exact hno.elim)
      | (have E3 := E2.out
         go_ret
         refine ⟨?_, F1.out.then FA.out⟩
         rw [E3]
         refine congrArg (fun b => Ending.returned (Value.bool b)) ?_
         rw [Bool.eq_iff_iff]
         first
           | (simp_all; done)
           | (simp_all; intros; omega))
  · have hof : ofB x = true := by simp [ofB, ht]
    have E1 := hid E0.out
    unfold preB restB at E1
    rw [hof] at E1
    have E2 := hid E1.out
    have ht2 : x.f2.toList.isEmpty = false := by simpa using ht
    clear E0 E1 hof
    go_wp2_with (first
      | (go_at_call 34; with_reducible refine (word_fr _ (by first | exact HI.out.s1 | exact HI.out.s2 | exact HI.out.s3) _).mono ?_; rintro e w3 ⟨rfl, f3⟩; have FA := hid (FA.out.then f3); obtain ⟨d1, d2, d3, d4, d5, d6, e0, e1, e2, e3, e4, e5⟩ := ALL.out.fr FA.out; clear f3)
      | (go_at_call 136; refine (cols_any A4 c4 x.f4 _ (Kd.C_below R4.out (F1.out.then FA.out).below0) HI.out.l4 HI.out.n4).mono ?_; rintro e w3 ⟨rfl, f3⟩; have FA := hid (FA.out.then f3); obtain ⟨d1, d2, d3, d4, d5, d6, e0, e1, e2, e3, e4, e5⟩ := ALL.out.fr FA.out; clear f3)
      | (go_at_call 137; refine (files_any A6 c6 x.f6 _ (Kd.C_below R6.out (F1.out.then FA.out).below0) HI.out.l6).mono ?_; rintro e w3 ⟨rfl, f3⟩; have FA := hid (FA.out.then f3); obtain ⟨d1, d2, d3, d4, d5, d6, e0, e1, e2, e3, e4, e5⟩ := ALL.out.fr FA.out; clear f3))
    all_goals first
      | (have hno : False := by omega
         exact hno.elim)
      | (have E3 := E2.out
         go_ret
         refine ⟨?_, F1.out.then FA.out⟩
         rw [E3]
         refine congrArg (fun b => Ending.returned (Value.bool b)) ?_
         rw [Bool.eq_iff_iff]
         first
           | (simp_all; done)
           | (simp_all; intros; omega))
set_option maxRecDepth 100000 in
set_option maxHeartbeats 8000000 in
theorem valid_rename (x : DE) (A4 : Option Addr) (c4 : Nat) (A6 : Option Addr) (c6 : Nat) (w : World) (r4 : kC.C w A4 x.f4.length x.f4) (r6 : kI.C w A6 x.f6.length x.f6) (hi : DeedIn x) (fn : Nat) (hf : flagsOf x.f0 = some ⟨false, false, false, true, true, true⟩) (hr : rowOf x.f0 = some (dRow false false false true true true fn)) :
    Calls Tryz.prog 91 #[deedV x A4 c4 A6 c6] w fun e w' => e = .returned (.bool (validB x)) ∧ Fr [] w w' := by
  unfold deedV
  have E0 := hid (show validB x = (preB ⟨false, false, false, true, true, true⟩ x && restB ⟨false, false, false, true, true, true⟩ x) by unfold validB; rw [hf])
  obtain ⟨hl1, hl2, hl3⟩ := look3 (W := (w.alloc (.cells #[.string x.f0, .string x.f1, .string x.f2, .string x.f3, .slice A4 x.f4.length c4, .int .i64 x.f5, .slice A6 x.f6.length c6] 135)).drew) (fun W r hb => look_yes_in (r := r) hr hb)
  simp only [World.alloc_drew, World.size_drew, World.size_alloc, box0, dRow] at hl1 hl2 hl3
  have G1 := hid (ends1 w (.cells #[.string x.f0, .string x.f1, .string x.f2, .string x.f3, .slice A4 x.f4.length c4, .int .i64 x.f5, .slice A6 x.f6.length c6] 135) (.map deedRows 7) (.cells #[.bool false, .bool false, .bool false, .bool true, .bool true, .bool true, .func (.func fn) #[] #[]] 198))
  have G2 := hid (ends2 w (.cells #[.string x.f0, .string x.f1, .string x.f2, .string x.f3, .slice A4 x.f4.length c4, .int .i64 x.f5, .slice A6 x.f6.length c6] 135) (.map deedRows 7) (.cells #[.bool false, .bool false, .bool false, .bool true, .bool true, .bool true, .func (.func fn) #[] #[]] 198))
  have R4 := hid r4
  have R6 := hid r6
  have HI := hid hi
  clear hf hr r4 r6 hi
  go_enter Tryz.func91, Tryz.ntmps91
  dsimp only [List.append]
  go_wp2_with fail
  refine (fun (KEY : Hid (∀ w2 mb rb, Fr [] w w2 → ValAt w2 w.heap.size rb x A4 c4 A6 c6 false false false true true true → (?KEYP : World → Nat → Nat → Prop) w2 mb rb)) => ?main) ?key
  case main =>
    go_region_with (first
      | (go_at_call 135; refine (deeds_any _).mono ?_; rintro e w' ⟨rfl, rfl⟩))
    all_goals first
      | (obtain ⟨g1, g2, g3⟩ := G1.out
         have g4 := ValAt.mk' g2 g3
         generalize (((w.alloc _).alloc (.map deedRows 7)).alloc _).drew = w2 at g1 g4 ⊢
         generalize w.heap.size + 1 + 1 = rb at g4 ⊢
         generalize w.heap.size + 1 = mb
         exact KEY.out w2 mb rb g1 g4)
      | (obtain ⟨g1, g2, g3⟩ := G2.out
         have g4 := ValAt.mk' g2 g3
         generalize (((w.alloc _).alloc _).alloc (.map deedRows 7)).drew = w2 at g1 g4 ⊢
         generalize w.heap.size + 1 + 1 = mb
         generalize w.heap.size + 1 = rb at g4 ⊢
         exact KEY.out w2 mb rb g1 g4)
  refine hid (fun w2 mb rb g1 g4 => ?_)
  clear hl1 hl2 hl3 G1 G2
  have ALL := hid g4
  have F1 := hid g1
  have FA := hid (Fr.refl [] w2)
  obtain ⟨d1, d2, d3, d4, d5, d6, e0, e1, e2, e3, e4, e5⟩ := g4
  clear g1
  by_cases ht : x.f2.toList = []
  · have hof : ofB x = false := by simp [ofB, ht]
    have E1 := hid E0.out
    unfold preB restB at E1
    rw [hof] at E1
    have E2 := hid E1.out
    have ht2 : x.f2.toList.isEmpty = true := by simpa using ht
    clear E0 E1 hof
    go_wp2_with (first
      | (go_at_call 34; with_reducible refine (word_fr _ (by first | exact HI.out.s1 | exact HI.out.s2 | exact HI.out.s3) _).mono ?_; rintro e w3 ⟨rfl, f3⟩; have FA := hid (FA.out.then f3); obtain ⟨d1, d2, d3, d4, d5, d6, e0, e1, e2, e3, e4, e5⟩ := ALL.out.fr FA.out; clear f3)
      | (go_at_call 136; refine (cols_any A4 c4 x.f4 _ (Kd.C_below R4.out (F1.out.then FA.out).below0) HI.out.l4 HI.out.n4).mono ?_; rintro e w3 ⟨rfl, f3⟩; have FA := hid (FA.out.then f3); obtain ⟨d1, d2, d3, d4, d5, d6, e0, e1, e2, e3, e4, e5⟩ := ALL.out.fr FA.out; clear f3)
      | (go_at_call 137; refine (files_any A6 c6 x.f6 _ (Kd.C_below R6.out (F1.out.then FA.out).below0) HI.out.l6).mono ?_; rintro e w3 ⟨rfl, f3⟩; have FA := hid (FA.out.then f3); obtain ⟨d1, d2, d3, d4, d5, d6, e0, e1, e2, e3, e4, e5⟩ := ALL.out.fr FA.out; clear f3))
    all_goals first
      | (have hno : False := by omega
         exact hno.elim)
      | (have E3 := E2.out
         go_ret
         refine ⟨?_, F1.out.then FA.out⟩
         rw [E3]
         refine congrArg (fun b => Ending.returned (Value.bool b)) ?_
         rw [Bool.eq_iff_iff]
         first
           | (simp_all; done)
           | (simp_all; intros; omega))
  · have hof : ofB x = true := by simp [ofB, ht]
    have E1 := hid E0.out
    unfold preB restB at E1
    rw [hof] at E1
    have E2 := hid E1.out
    have ht2 : x.f2.toList.isEmpty = false := by simpa using ht
    clear E0 E1 hof
    go_wp2_with (first
      | (go_at_call 34; with_reducible refine (word_fr _ (by first | exact HI.out.s1 | exact HI.out.s2 | exact HI.out.s3) _).mono ?_; rintro e w3 ⟨rfl, f3⟩; have FA := hid (FA.out.then f3); obtain ⟨d1, d2, d3, d4, d5, d6, e0, e1, e2, e3, e4, e5⟩ := ALL.out.fr FA.out; clear f3)
      | (go_at_call 136; refine (cols_any A4 c4 x.f4 _ (Kd.C_below R4.out (F1.out.then FA.out).below0) HI.out.l4 HI.out.n4).mono ?_; rintro e w3 ⟨rfl, f3⟩; have FA := hid (FA.out.then f3); obtain ⟨d1, d2, d3, d4, d5, d6, e0, e1, e2, e3, e4, e5⟩ := ALL.out.fr FA.out; clear f3)
      | (go_at_call 137; refine (files_any A6 c6 x.f6 _ (Kd.C_below R6.out (F1.out.then FA.out).below0) HI.out.l6).mono ?_; rintro e w3 ⟨rfl, f3⟩; have FA := hid (FA.out.then f3); obtain ⟨d1, d2, d3, d4, d5, d6, e0, e1, e2, e3, e4, e5⟩ := ALL.out.fr FA.out; clear f3))
    all_goals first
      | (have hno : False := by omega
         exact hno.elim)
      | (have E3 := E2.out
         go_ret
         refine ⟨?_, F1.out.then FA.out⟩
         rw [E3]
         refine congrArg (fun b => Ending.returned (Value.bool b)) ?_
         rw [Bool.eq_iff_iff]
         first
           | (simp_all; done)
           | (simp_all; intros; omega))
set_option maxRecDepth 100000 in
set_option maxHeartbeats 8000000 in
theorem valid_swap (x : DE) (A4 : Option Addr) (c4 : Nat) (A6 : Option Addr) (c6 : Nat) (w : World) (r4 : kC.C w A4 x.f4.length x.f4) (r6 : kI.C w A6 x.f6.length x.f6) (hi : DeedIn x) (fn : Nat) (hf : flagsOf x.f0 = some ⟨false, false, false, true, false, true⟩) (hr : rowOf x.f0 = some (dRow false false false true false true fn)) :
    Calls Tryz.prog 91 #[deedV x A4 c4 A6 c6] w fun e w' => e = .returned (.bool (validB x)) ∧ Fr [] w w' := by
  unfold deedV
  have E0 := hid (show validB x = (preB ⟨false, false, false, true, false, true⟩ x && restB ⟨false, false, false, true, false, true⟩ x) by unfold validB; rw [hf])
  obtain ⟨hl1, hl2, hl3⟩ := look3 (W := (w.alloc (.cells #[.string x.f0, .string x.f1, .string x.f2, .string x.f3, .slice A4 x.f4.length c4, .int .i64 x.f5, .slice A6 x.f6.length c6] 135)).drew) (fun W r hb => look_yes_in (r := r) hr hb)
  simp only [World.alloc_drew, World.size_drew, World.size_alloc, box0, dRow] at hl1 hl2 hl3
  have G1 := hid (ends1 w (.cells #[.string x.f0, .string x.f1, .string x.f2, .string x.f3, .slice A4 x.f4.length c4, .int .i64 x.f5, .slice A6 x.f6.length c6] 135) (.map deedRows 7) (.cells #[.bool false, .bool false, .bool false, .bool true, .bool false, .bool true, .func (.func fn) #[] #[]] 198))
  have G2 := hid (ends2 w (.cells #[.string x.f0, .string x.f1, .string x.f2, .string x.f3, .slice A4 x.f4.length c4, .int .i64 x.f5, .slice A6 x.f6.length c6] 135) (.map deedRows 7) (.cells #[.bool false, .bool false, .bool false, .bool true, .bool false, .bool true, .func (.func fn) #[] #[]] 198))
  have R4 := hid r4
  have R6 := hid r6
  have HI := hid hi
  clear hf hr r4 r6 hi
  go_enter Tryz.func91, Tryz.ntmps91
  dsimp only [List.append]
  go_wp2_with fail
  refine (fun (KEY : Hid (∀ w2 mb rb, Fr [] w w2 → ValAt w2 w.heap.size rb x A4 c4 A6 c6 false false false true false true → (?KEYP : World → Nat → Nat → Prop) w2 mb rb)) => ?main) ?key
  case main =>
    go_region_with (first
      | (go_at_call 135; refine (deeds_any _).mono ?_; rintro e w' ⟨rfl, rfl⟩))
    all_goals first
      | (obtain ⟨g1, g2, g3⟩ := G1.out
         have g4 := ValAt.mk' g2 g3
         generalize (((w.alloc _).alloc (.map deedRows 7)).alloc _).drew = w2 at g1 g4 ⊢
         generalize w.heap.size + 1 + 1 = rb at g4 ⊢
         generalize w.heap.size + 1 = mb
         exact KEY.out w2 mb rb g1 g4)
      | (obtain ⟨g1, g2, g3⟩ := G2.out
         have g4 := ValAt.mk' g2 g3
         generalize (((w.alloc _).alloc _).alloc (.map deedRows 7)).drew = w2 at g1 g4 ⊢
         generalize w.heap.size + 1 + 1 = mb
         generalize w.heap.size + 1 = rb at g4 ⊢
         exact KEY.out w2 mb rb g1 g4)
  refine hid (fun w2 mb rb g1 g4 => ?_)
  clear hl1 hl2 hl3 G1 G2
  have ALL := hid g4
  have F1 := hid g1
  have FA := hid (Fr.refl [] w2)
  obtain ⟨d1, d2, d3, d4, d5, d6, e0, e1, e2, e3, e4, e5⟩ := g4
  clear g1
  by_cases ht : x.f2.toList = []
  · have hof : ofB x = false := by simp [ofB, ht]
    have E1 := hid E0.out
    unfold preB restB at E1
    rw [hof] at E1
    have E2 := hid E1.out
    have ht2 : x.f2.toList.isEmpty = true := by simpa using ht
    clear E0 E1 hof
    go_wp2_with (first
      | (go_at_call 34; with_reducible refine (word_fr _ (by first | exact HI.out.s1 | exact HI.out.s2 | exact HI.out.s3) _).mono ?_; rintro e w3 ⟨rfl, f3⟩; have FA := hid (FA.out.then f3); obtain ⟨d1, d2, d3, d4, d5, d6, e0, e1, e2, e3, e4, e5⟩ := ALL.out.fr FA.out; clear f3)
      | (go_at_call 136; refine (cols_any A4 c4 x.f4 _ (Kd.C_below R4.out (F1.out.then FA.out).below0) HI.out.l4 HI.out.n4).mono ?_; rintro e w3 ⟨rfl, f3⟩; have FA := hid (FA.out.then f3); obtain ⟨d1, d2, d3, d4, d5, d6, e0, e1, e2, e3, e4, e5⟩ := ALL.out.fr FA.out; clear f3)
      | (go_at_call 137; refine (files_any A6 c6 x.f6 _ (Kd.C_below R6.out (F1.out.then FA.out).below0) HI.out.l6).mono ?_; rintro e w3 ⟨rfl, f3⟩; have FA := hid (FA.out.then f3); obtain ⟨d1, d2, d3, d4, d5, d6, e0, e1, e2, e3, e4, e5⟩ := ALL.out.fr FA.out; clear f3))
    all_goals first
      | (have hno : False := by omega
         exact hno.elim)
      | (have E3 := E2.out
         go_ret
         refine ⟨?_, F1.out.then FA.out⟩
         rw [E3]
         refine congrArg (fun b => Ending.returned (Value.bool b)) ?_
         rw [Bool.eq_iff_iff]
         first
           | (simp_all; done)
           | (simp_all; intros; omega))
  · have hof : ofB x = true := by simp [ofB, ht]
    have E1 := hid E0.out
    unfold preB restB at E1
    rw [hof] at E1
    have E2 := hid E1.out
    have ht2 : x.f2.toList.isEmpty = false := by simpa using ht
    clear E0 E1 hof
    go_wp2_with (first
      | (go_at_call 34; with_reducible refine (word_fr _ (by first | exact HI.out.s1 | exact HI.out.s2 | exact HI.out.s3) _).mono ?_; rintro e w3 ⟨rfl, f3⟩; have FA := hid (FA.out.then f3); obtain ⟨d1, d2, d3, d4, d5, d6, e0, e1, e2, e3, e4, e5⟩ := ALL.out.fr FA.out; clear f3)
      | (go_at_call 136; refine (cols_any A4 c4 x.f4 _ (Kd.C_below R4.out (F1.out.then FA.out).below0) HI.out.l4 HI.out.n4).mono ?_; rintro e w3 ⟨rfl, f3⟩; have FA := hid (FA.out.then f3); obtain ⟨d1, d2, d3, d4, d5, d6, e0, e1, e2, e3, e4, e5⟩ := ALL.out.fr FA.out; clear f3)
      | (go_at_call 137; refine (files_any A6 c6 x.f6 _ (Kd.C_below R6.out (F1.out.then FA.out).below0) HI.out.l6).mono ?_; rintro e w3 ⟨rfl, f3⟩; have FA := hid (FA.out.then f3); obtain ⟨d1, d2, d3, d4, d5, d6, e0, e1, e2, e3, e4, e5⟩ := ALL.out.fr FA.out; clear f3))
    all_goals first
      | (have hno : False := by omega
         exact hno.elim)
      | (have E3 := E2.out
         go_ret
         refine ⟨?_, F1.out.then FA.out⟩
         rw [E3]
         refine congrArg (fun b => Ending.returned (Value.bool b)) ?_
         rw [Bool.eq_iff_iff]
         first
           | (simp_all; done)
           | (simp_all; intros; omega))
set_option maxRecDepth 100000 in
set_option maxHeartbeats 8000000 in
theorem valid_lay (x : DE) (A4 : Option Addr) (c4 : Nat) (A6 : Option Addr) (c6 : Nat) (w : World) (r4 : kC.C w A4 x.f4.length x.f4) (r6 : kI.C w A6 x.f6.length x.f6) (hi : DeedIn x) (fn : Nat) (hf : flagsOf x.f0 = some ⟨true, false, true, false, false, true⟩) (hr : rowOf x.f0 = some (dRow true false true false false true fn)) :
    Calls Tryz.prog 91 #[deedV x A4 c4 A6 c6] w fun e w' => e = .returned (.bool (validB x)) ∧ Fr [] w w' := by
  unfold deedV
  have E0 := hid (show validB x = (preB ⟨true, false, true, false, false, true⟩ x && restB ⟨true, false, true, false, false, true⟩ x) by unfold validB; rw [hf])
  obtain ⟨hl1, hl2, hl3⟩ := look3 (W := (w.alloc (.cells #[.string x.f0, .string x.f1, .string x.f2, .string x.f3, .slice A4 x.f4.length c4, .int .i64 x.f5, .slice A6 x.f6.length c6] 135)).drew) (fun W r hb => look_yes_in (r := r) hr hb)
  simp only [World.alloc_drew, World.size_drew, World.size_alloc, box0, dRow] at hl1 hl2 hl3
  have G1 := hid (ends1 w (.cells #[.string x.f0, .string x.f1, .string x.f2, .string x.f3, .slice A4 x.f4.length c4, .int .i64 x.f5, .slice A6 x.f6.length c6] 135) (.map deedRows 7) (.cells #[.bool true, .bool false, .bool true, .bool false, .bool false, .bool true, .func (.func fn) #[] #[]] 198))
  have G2 := hid (ends2 w (.cells #[.string x.f0, .string x.f1, .string x.f2, .string x.f3, .slice A4 x.f4.length c4, .int .i64 x.f5, .slice A6 x.f6.length c6] 135) (.map deedRows 7) (.cells #[.bool true, .bool false, .bool true, .bool false, .bool false, .bool true, .func (.func fn) #[] #[]] 198))
  have R4 := hid r4
  have R6 := hid r6
  have HI := hid hi
  clear hf hr r4 r6 hi
  go_enter Tryz.func91, Tryz.ntmps91
  dsimp only [List.append]
  go_wp2_with fail
  refine (fun (KEY : Hid (∀ w2 mb rb, Fr [] w w2 → ValAt w2 w.heap.size rb x A4 c4 A6 c6 true false true false false true → (?KEYP : World → Nat → Nat → Prop) w2 mb rb)) => ?main) ?key
  case main =>
    go_region_with (first
      | (go_at_call 135; refine (deeds_any _).mono ?_; rintro e w' ⟨rfl, rfl⟩))
    all_goals first
      | (obtain ⟨g1, g2, g3⟩ := G1.out
         have g4 := ValAt.mk' g2 g3
         generalize (((w.alloc _).alloc (.map deedRows 7)).alloc _).drew = w2 at g1 g4 ⊢
         generalize w.heap.size + 1 + 1 = rb at g4 ⊢
         generalize w.heap.size + 1 = mb
         exact KEY.out w2 mb rb g1 g4)
      | (obtain ⟨g1, g2, g3⟩ := G2.out
         have g4 := ValAt.mk' g2 g3
         generalize (((w.alloc _).alloc _).alloc (.map deedRows 7)).drew = w2 at g1 g4 ⊢
         generalize w.heap.size + 1 + 1 = mb
         generalize w.heap.size + 1 = rb at g4 ⊢
         exact KEY.out w2 mb rb g1 g4)
  refine hid (fun w2 mb rb g1 g4 => ?_)
  clear hl1 hl2 hl3 G1 G2
  have ALL := hid g4
  have F1 := hid g1
  have FA := hid (Fr.refl [] w2)
  obtain ⟨d1, d2, d3, d4, d5, d6, e0, e1, e2, e3, e4, e5⟩ := g4
  clear g1
  by_cases ht : x.f2.toList = []
  · have hof : ofB x = false := by simp [ofB, ht]
    have E1 := hid E0.out
    unfold preB restB at E1
    rw [hof] at E1
    have E2 := hid E1.out
    have ht2 : x.f2.toList.isEmpty = true := by simpa using ht
    clear E0 E1 hof
    go_wp2_with (first
      | (go_at_call 34; with_reducible refine (word_fr _ (by first | exact HI.out.s1 | exact HI.out.s2 | exact HI.out.s3) _).mono ?_; rintro e w3 ⟨rfl, f3⟩; have FA := hid (FA.out.then f3); obtain ⟨d1, d2, d3, d4, d5, d6, e0, e1, e2, e3, e4, e5⟩ := ALL.out.fr FA.out; clear f3)
      | (go_at_call 136; refine (cols_any A4 c4 x.f4 _ (Kd.C_below R4.out (F1.out.then FA.out).below0) HI.out.l4 HI.out.n4).mono ?_; rintro e w3 ⟨rfl, f3⟩; have FA := hid (FA.out.then f3); obtain ⟨d1, d2, d3, d4, d5, d6, e0, e1, e2, e3, e4, e5⟩ := ALL.out.fr FA.out; clear f3)
      | (go_at_call 137; refine (files_any A6 c6 x.f6 _ (Kd.C_below R6.out (F1.out.then FA.out).below0) HI.out.l6).mono ?_; rintro e w3 ⟨rfl, f3⟩; have FA := hid (FA.out.then f3); obtain ⟨d1, d2, d3, d4, d5, d6, e0, e1, e2, e3, e4, e5⟩ := ALL.out.fr FA.out; clear f3))
    all_goals first
      | (have hno : False := by omega
         exact hno.elim)
      | (have E3 := E2.out
         go_ret
         refine ⟨?_, F1.out.then FA.out⟩
         rw [E3]
         refine congrArg (fun b => Ending.returned (Value.bool b)) ?_
         rw [Bool.eq_iff_iff]
         first
           | (simp_all; done)
           | (simp_all; intros; omega))
  · have hof : ofB x = true := by simp [ofB, ht]
    have E1 := hid E0.out
    unfold preB restB at E1
    rw [hof] at E1
    have E2 := hid E1.out
    have ht2 : x.f2.toList.isEmpty = false := by simpa using ht
    clear E0 E1 hof
    go_wp2_with (first
      | (go_at_call 34; with_reducible refine (word_fr _ (by first | exact HI.out.s1 | exact HI.out.s2 | exact HI.out.s3) _).mono ?_; rintro e w3 ⟨rfl, f3⟩; have FA := hid (FA.out.then f3); obtain ⟨d1, d2, d3, d4, d5, d6, e0, e1, e2, e3, e4, e5⟩ := ALL.out.fr FA.out; clear f3)
      | (go_at_call 136; refine (cols_any A4 c4 x.f4 _ (Kd.C_below R4.out (F1.out.then FA.out).below0) HI.out.l4 HI.out.n4).mono ?_; rintro e w3 ⟨rfl, f3⟩; have FA := hid (FA.out.then f3); obtain ⟨d1, d2, d3, d4, d5, d6, e0, e1, e2, e3, e4, e5⟩ := ALL.out.fr FA.out; clear f3)
      | (go_at_call 137; refine (files_any A6 c6 x.f6 _ (Kd.C_below R6.out (F1.out.then FA.out).below0) HI.out.l6).mono ?_; rintro e w3 ⟨rfl, f3⟩; have FA := hid (FA.out.then f3); obtain ⟨d1, d2, d3, d4, d5, d6, e0, e1, e2, e3, e4, e5⟩ := ALL.out.fr FA.out; clear f3))
    all_goals first
      | (have hno : False := by omega
         exact hno.elim)
      | (have E3 := E2.out
         go_ret
         refine ⟨?_, F1.out.then FA.out⟩
         rw [E3]
         refine congrArg (fun b => Ending.returned (Value.bool b)) ?_
         rw [Bool.eq_iff_iff]
         first
           | (simp_all; done)
           | (simp_all; intros; omega))
set_option maxRecDepth 100000 in
set_option maxHeartbeats 8000000 in
theorem valid_keep (x : DE) (A4 : Option Addr) (c4 : Nat) (A6 : Option Addr) (c6 : Nat) (w : World) (r4 : kC.C w A4 x.f4.length x.f4) (r6 : kI.C w A6 x.f6.length x.f6) (hi : DeedIn x) (fn : Nat) (hf : flagsOf x.f0 = some ⟨false, true, false, false, true, true⟩) (hr : rowOf x.f0 = some (dRow false true false false true true fn)) :
    Calls Tryz.prog 91 #[deedV x A4 c4 A6 c6] w fun e w' => e = .returned (.bool (validB x)) ∧ Fr [] w w' := by
  unfold deedV
  have E0 := hid (show validB x = (preB ⟨false, true, false, false, true, true⟩ x && restB ⟨false, true, false, false, true, true⟩ x) by unfold validB; rw [hf])
  obtain ⟨hl1, hl2, hl3⟩ := look3 (W := (w.alloc (.cells #[.string x.f0, .string x.f1, .string x.f2, .string x.f3, .slice A4 x.f4.length c4, .int .i64 x.f5, .slice A6 x.f6.length c6] 135)).drew) (fun W r hb => look_yes_in (r := r) hr hb)
  simp only [World.alloc_drew, World.size_drew, World.size_alloc, box0, dRow] at hl1 hl2 hl3
  have G1 := hid (ends1 w (.cells #[.string x.f0, .string x.f1, .string x.f2, .string x.f3, .slice A4 x.f4.length c4, .int .i64 x.f5, .slice A6 x.f6.length c6] 135) (.map deedRows 7) (.cells #[.bool false, .bool true, .bool false, .bool false, .bool true, .bool true, .func (.func fn) #[] #[]] 198))
  have G2 := hid (ends2 w (.cells #[.string x.f0, .string x.f1, .string x.f2, .string x.f3, .slice A4 x.f4.length c4, .int .i64 x.f5, .slice A6 x.f6.length c6] 135) (.map deedRows 7) (.cells #[.bool false, .bool true, .bool false, .bool false, .bool true, .bool true, .func (.func fn) #[] #[]] 198))
  have R4 := hid r4
  have R6 := hid r6
  have HI := hid hi
  clear hf hr r4 r6 hi
  go_enter Tryz.func91, Tryz.ntmps91
  dsimp only [List.append]
  go_wp2_with fail
  refine (fun (KEY : Hid (∀ w2 mb rb, Fr [] w w2 → ValAt w2 w.heap.size rb x A4 c4 A6 c6 false true false false true true → (?KEYP : World → Nat → Nat → Prop) w2 mb rb)) => ?main) ?key
  case main =>
    go_region_with (first
      | (go_at_call 135; refine (deeds_any _).mono ?_; rintro e w' ⟨rfl, rfl⟩))
    all_goals first
      | (obtain ⟨g1, g2, g3⟩ := G1.out
         have g4 := ValAt.mk' g2 g3
         generalize (((w.alloc _).alloc (.map deedRows 7)).alloc _).drew = w2 at g1 g4 ⊢
         generalize w.heap.size + 1 + 1 = rb at g4 ⊢
         generalize w.heap.size + 1 = mb
         exact KEY.out w2 mb rb g1 g4)
      | (obtain ⟨g1, g2, g3⟩ := G2.out
         have g4 := ValAt.mk' g2 g3
         generalize (((w.alloc _).alloc _).alloc (.map deedRows 7)).drew = w2 at g1 g4 ⊢
         generalize w.heap.size + 1 + 1 = mb
         generalize w.heap.size + 1 = rb at g4 ⊢
         exact KEY.out w2 mb rb g1 g4)
  refine hid (fun w2 mb rb g1 g4 => ?_)
  clear hl1 hl2 hl3 G1 G2
  have ALL := hid g4
  have F1 := hid g1
  have FA := hid (Fr.refl [] w2)
  obtain ⟨d1, d2, d3, d4, d5, d6, e0, e1, e2, e3, e4, e5⟩ := g4
  clear g1
  by_cases ht : x.f2.toList = []
  · have hof : ofB x = false := by simp [ofB, ht]
    have E1 := hid E0.out
    unfold preB restB at E1
    rw [hof] at E1
    have E2 := hid E1.out
    have ht2 : x.f2.toList.isEmpty = true := by simpa using ht
    clear E0 E1 hof
    have hk : (x.f5 < 0 ∧ (x.f5 == 0) = false) ∨ (1000000000 < x.f5 ∧ (x.f5 == 0) = false) ∨ (0 ≤ x.f5 ∧ x.f5 ≤ 1000000000) := by
      by_cases q1 : x.f5 < 0
      · exact .inl ⟨q1, by simp; omega⟩
      · by_cases q2 : 1000000000 < x.f5
        · exact .inr (.inl ⟨q2, by simp; omega⟩)
        · exact .inr (.inr ⟨by omega, by omega⟩)
    have hk' : (x.f5 < 0 ∧ (x.f5 == 0) = false ∧ ¬ 0 ≤ x.f5) ∨ (1000000000 < x.f5 ∧ (x.f5 == 0) = false ∧ 0 ≤ x.f5) ∨ (0 ≤ x.f5 ∧ x.f5 ≤ 1000000000 ∧ 0 ≤ x.f5) := by
      rcases hk with ⟨h1, h2⟩ | ⟨h1, h2⟩ | ⟨h1, h2⟩
      · exact .inl ⟨h1, h2, by omega⟩
      · exact .inr (.inl ⟨h1, h2, by omega⟩)
      · exact .inr (.inr ⟨h1, h2, h1⟩)
    clear hk
    rcases hk' with ⟨hk1, hk2, hk3⟩ | ⟨hk1, hk2, hk3⟩ | ⟨hk1, hk2, hk3⟩
    all_goals
      go_wp2_with (first
        | (go_at_call 34; with_reducible refine (word_fr _ (by first | exact HI.out.s1 | exact HI.out.s2 | exact HI.out.s3) _).mono ?_; rintro e w3 ⟨rfl, f3⟩; have FA := hid (FA.out.then f3); obtain ⟨d1, d2, d3, d4, d5, d6, e0, e1, e2, e3, e4, e5⟩ := ALL.out.fr FA.out; clear f3)
        | (go_at_call 136; refine (cols_any A4 c4 x.f4 _ (Kd.C_below R4.out (F1.out.then FA.out).below0) HI.out.l4 HI.out.n4).mono ?_; rintro e w3 ⟨rfl, f3⟩; have FA := hid (FA.out.then f3); obtain ⟨d1, d2, d3, d4, d5, d6, e0, e1, e2, e3, e4, e5⟩ := ALL.out.fr FA.out; clear f3)
        | (go_at_call 137; refine (files_any A6 c6 x.f6 _ (Kd.C_below R6.out (F1.out.then FA.out).below0) HI.out.l6).mono ?_; rintro e w3 ⟨rfl, f3⟩; have FA := hid (FA.out.then f3); obtain ⟨d1, d2, d3, d4, d5, d6, e0, e1, e2, e3, e4, e5⟩ := ALL.out.fr FA.out; clear f3))
    all_goals first
      | (have hno : False := by omega
         exact hno.elim)
      | (have E3 := E2.out
         go_ret
         refine ⟨?_, F1.out.then FA.out⟩
         rw [E3]
         refine congrArg (fun b => Ending.returned (Value.bool b)) ?_
         rw [Bool.eq_iff_iff]
         first
           | (simp_all; done)
           | (simp_all; intros; omega))
  · have hof : ofB x = true := by simp [ofB, ht]
    have E1 := hid E0.out
    unfold preB restB at E1
    rw [hof] at E1
    have E2 := hid E1.out
    have ht2 : x.f2.toList.isEmpty = false := by simpa using ht
    clear E0 E1 hof
    have hk : (x.f5 < 0 ∧ (x.f5 == 0) = false) ∨ (1000000000 < x.f5 ∧ (x.f5 == 0) = false) ∨ (0 ≤ x.f5 ∧ x.f5 ≤ 1000000000) := by
      by_cases q1 : x.f5 < 0
      · exact .inl ⟨q1, by simp; omega⟩
      · by_cases q2 : 1000000000 < x.f5
        · exact .inr (.inl ⟨q2, by simp; omega⟩)
        · exact .inr (.inr ⟨by omega, by omega⟩)
    have hk' : (x.f5 < 0 ∧ (x.f5 == 0) = false ∧ ¬ 0 ≤ x.f5) ∨ (1000000000 < x.f5 ∧ (x.f5 == 0) = false ∧ 0 ≤ x.f5) ∨ (0 ≤ x.f5 ∧ x.f5 ≤ 1000000000 ∧ 0 ≤ x.f5) := by
      rcases hk with ⟨h1, h2⟩ | ⟨h1, h2⟩ | ⟨h1, h2⟩
      · exact .inl ⟨h1, h2, by omega⟩
      · exact .inr (.inl ⟨h1, h2, by omega⟩)
      · exact .inr (.inr ⟨h1, h2, h1⟩)
    clear hk
    rcases hk' with ⟨hk1, hk2, hk3⟩ | ⟨hk1, hk2, hk3⟩ | ⟨hk1, hk2, hk3⟩
    all_goals
      go_wp2_with (first
        | (go_at_call 34; with_reducible refine (word_fr _ (by first | exact HI.out.s1 | exact HI.out.s2 | exact HI.out.s3) _).mono ?_; rintro e w3 ⟨rfl, f3⟩; have FA := hid (FA.out.then f3); obtain ⟨d1, d2, d3, d4, d5, d6, e0, e1, e2, e3, e4, e5⟩ := ALL.out.fr FA.out; clear f3)
        | (go_at_call 136; refine (cols_any A4 c4 x.f4 _ (Kd.C_below R4.out (F1.out.then FA.out).below0) HI.out.l4 HI.out.n4).mono ?_; rintro e w3 ⟨rfl, f3⟩; have FA := hid (FA.out.then f3); obtain ⟨d1, d2, d3, d4, d5, d6, e0, e1, e2, e3, e4, e5⟩ := ALL.out.fr FA.out; clear f3)
        | (go_at_call 137; refine (files_any A6 c6 x.f6 _ (Kd.C_below R6.out (F1.out.then FA.out).below0) HI.out.l6).mono ?_; rintro e w3 ⟨rfl, f3⟩; have FA := hid (FA.out.then f3); obtain ⟨d1, d2, d3, d4, d5, d6, e0, e1, e2, e3, e4, e5⟩ := ALL.out.fr FA.out; clear f3))
    all_goals first
      | (have hno : False := by omega
         exact hno.elim)
      | (have E3 := E2.out
         go_ret
         refine ⟨?_, F1.out.then FA.out⟩
         rw [E3]
         refine congrArg (fun b => Ending.returned (Value.bool b)) ?_
         rw [Bool.eq_iff_iff]
         first
           | (simp_all; done)
           | (simp_all; intros; omega))
theorem validSays : ValidSays := by
  intro x A4 c4 A6 c6 w r4 r6 hi
  by_cases h1 : x.f0 = kCreate
  · exact valid_create x A4 c4 A6 c6 w r4 r6 hi _ (by unfold flagsOf; simp [h1]) (by unfold rowOf; rw [if_pos h1])
  by_cases h2 : x.f0 = kDrop
  · exact valid_drop x A4 c4 A6 c6 w r4 r6 hi _ (by unfold flagsOf; rw [if_neg h1, if_pos h2]) (by unfold rowOf; rw [if_neg h1, if_pos h2])
  by_cases h3 : x.f0 = kUndrop
  · exact valid_drop x A4 c4 A6 c6 w r4 r6 hi _ (by unfold flagsOf; rw [if_neg h1, if_neg h2, if_pos h3]) (by unfold rowOf; rw [if_neg h1, if_neg h2, if_pos h3])
  by_cases h4 : x.f0 = kRename
  · exact valid_rename x A4 c4 A6 c6 w r4 r6 hi _ (by unfold flagsOf; rw [if_neg h1, if_neg h2, if_neg h3, if_pos h4]) (by unfold rowOf; rw [if_neg h1, if_neg h2, if_neg h3, if_pos h4])
  by_cases h5 : x.f0 = kSwap
  · exact valid_swap x A4 c4 A6 c6 w r4 r6 hi _ (by unfold flagsOf; rw [if_neg h1, if_neg h2, if_neg h3, if_neg h4, if_pos h5]) (by unfold rowOf; rw [if_neg h1, if_neg h2, if_neg h3, if_neg h4, if_pos h5])
  by_cases h6 : x.f0 = kLay
  · exact valid_lay x A4 c4 A6 c6 w r4 r6 hi _ (by unfold flagsOf; rw [if_neg h1, if_neg h2, if_neg h3, if_neg h4, if_neg h5, if_pos h6]) (by unfold rowOf; rw [if_neg h1, if_neg h2, if_neg h3, if_neg h4, if_neg h5, if_pos h6])
  by_cases h7 : x.f0 = kKeep
  · exact valid_keep x A4 c4 A6 c6 w r4 r6 hi _ (by unfold flagsOf; rw [if_neg h1, if_neg h2, if_neg h3, if_neg h4, if_neg h5, if_neg h6, if_pos h7]) (by unfold rowOf; rw [if_neg h1, if_neg h2, if_neg h3, if_neg h4, if_neg h5, if_neg h6, if_pos h7])
  · exact valid_no x A4 c4 A6 c6 w (by unfold flagsOf; rw [if_neg h1, if_neg h2, if_neg h3, if_neg h4, if_neg h5, if_neg h6, if_neg h7]) (by unfold rowOf; rw [if_neg h1, if_neg h2, if_neg h3, if_neg h4, if_neg h5, if_neg h6, if_neg h7])
structure ListIn (w : World) (A : Option Addr) (c : Nat) (xs : List DE) : Prop where
  row : Kd.C k135 w A xs.length xs
  len : xs.length ≤ 100000
  ok : ∀ y ∈ xs, DeedIn y
theorem ListIn.below {w w' : World} {A : Option Addr} {c : Nat} {xs : List DE} (h : ListIn w A c xs) (f : Fr [] w w') : ListIn w' A c xs := ⟨Kd.C_below h.row f.below0, h.len, h.ok⟩
theorem committed (cb : Nat) (v : Value) (ss : List ST) (A : Option Addr) (c : Nat) (xs : List DE) (time : Int) (w : World) (h : CatAt w cb v ss) (hi : ListIn w A c xs) :
    Calls Tryz.prog 200 #[.pointer (some ⟨cb, 0, none⟩), .slice A xs.length c, .int .i64 time] w (Forced cb v (commitBy ss xs time) w) :=
  commit_any validSays cb v ss A c xs time w h hi.row hi.len hi.ok
end Go.Proofs.YtkolnoadeihmoaaGreat
