-- PRINTED BY print.sh 35421559b90ae4d0a3588c463048766b98c2df88dd9212a6774a882060cdf62d: not written by this session
import Derived.Test.YtcfgcmjnailndaaPCatalogKeptx0
namespace Go.Proofs.Ytcfgcmjnailndaa.PCatalogKept
open Go.RowKit Go.Proofs.YtcfgcmjnailndaaW.PrintWords Go.Proofs.YtcfgcmjnailndaaW.PrintLast Go.Proofs.YtcfgcmjnailndaaW.PrintMore
attribute [local go_sem] max2_int min2_int max_two min_two max_three min_three max_four min_four   -- for this text's walks alone
set_option linter.unusedVariables false
set_option linter.unusedSimpArgs false

/-! ### cirruslaw10_great: function 8 -/
mutual
def cirruslaw10_great.l0 : Nat → List (S25) → Int → Int → Option (Bool)
  | 0, _, _, _ => none
  | k + 1, x0, x3, x4 => if x4 < (x0.length : Int) then (cirruslaw10_great.j1 k x0 x3 x4 (decide (x4 ≤ 20))) else (cirruslaw10_great.j1 k x0 x3 x4 false)
def cirruslaw10_great.j1 : Nat → List (S25) → Int → Int → Bool → Option (Bool)
  | 0, _, _, _, _ => none
  | k + 1, x0, x3, x4, x13 => if x13 = true then (if 0 ≤ x4 then (if x4 < (x0.length : Int) then (cirruslaw10_great.l1 k x0 (wrap64 (x3 + (mn (((rd_T25 x0 x4).f0).length : Int) 1000))) x4 0) else (none)) else (none)) else (if (x0.length : Int) > 20 then (some true) else (some (decide (x3 > 150))))
def cirruslaw10_great.l1 : Nat → List (S25) → Int → Int → Int → Option (Bool)
  | 0, _, _, _, _ => none
  | k + 1, x0, x3, x4, x5 => if 0 ≤ x4 then (if x4 < (x0.length : Int) then (if x5 < (((rd_T25 x0 x4).f0).length : Int) then (cirruslaw10_great.j3 k x0 x3 x4 x5 (decide (x5 < 1000))) else (cirruslaw10_great.j3 k x0 x3 x4 x5 false)) else (none)) else (none)
def cirruslaw10_great.j3 : Nat → List (S25) → Int → Int → Int → Bool → Option (Bool)
  | 0, _, _, _, _, _ => none
  | k + 1, x0, x3, x4, x5, x36 => if x36 = true then (if 0 ≤ x4 then (if x4 < (x0.length : Int) then (if 0 ≤ x5 then (if x5 < (((rd_T25 x0 x4).f0).length : Int) then (if (((rd_T31 ((rd_T25 x0 x4).f0) x5).f6).length : Int) > 200 then (if (((rd_T31 ((rd_T25 x0 x4).f0) x5).f6).length : Int) ≤ 4000 then (some true) else (if (((rd_T31 ((rd_T25 x0 x4).f0) x5).f6).length : Int) > 5000 then (some true) else (cirruslaw10_great.l1 k x0 x3 x4 (wrap64 (x5 + 1))))) else (if (((rd_T31 ((rd_T25 x0 x4).f0) x5).f6).length : Int) > 5000 then (some true) else (cirruslaw10_great.l1 k x0 x3 x4 (wrap64 (x5 + 1))))) else (none)) else (none)) else (none)) else (none)) else (cirruslaw10_great.l0 k x0 x3 (wrap64 (x4 + 1)))
end
def cirruslaw10_great.f (k : Nat) (l0 : List (S25)) : Option (Bool) := cirruslaw10_great.l0 k l0 0 0
theorem cirruslaw10_great.mono_l : ∀ k, (∀ y0 y1 y2, LeO (cirruslaw10_great.l0 k y0 y1 y2) (cirruslaw10_great.l0 (k + 1) y0 y1 y2)) ∧ (∀ y0 y1 y2 y3, LeO (cirruslaw10_great.j1 k y0 y1 y2 y3) (cirruslaw10_great.j1 (k + 1) y0 y1 y2 y3)) ∧ (∀ y0 y1 y2 y3, LeO (cirruslaw10_great.l1 k y0 y1 y2 y3) (cirruslaw10_great.l1 (k + 1) y0 y1 y2 y3)) ∧ (∀ y0 y1 y2 y3 y4, LeO (cirruslaw10_great.j3 k y0 y1 y2 y3 y4) (cirruslaw10_great.j3 (k + 1) y0 y1 y2 y3 y4))
  | 0 => ⟨fun _ _ _ r h => by simp [cirruslaw10_great.l0] at h, fun _ _ _ _ r h => by simp [cirruslaw10_great.j1] at h, fun _ _ _ _ r h => by simp [cirruslaw10_great.l1] at h, fun _ _ _ _ _ r h => by simp [cirruslaw10_great.j3] at h⟩
  | k + 1 => by
    obtain ⟨ih0, ih1, ih2, ih3⟩ := cirruslaw10_great.mono_l k
    refine ⟨?_, ?_, ?_, ?_⟩
    · intro y0 y1 y2
      unfold cirruslaw10_great.l0
      repeat' first
      | (with_reducible exact ih0 _ _ _)
      | (with_reducible exact ih1 _ _ _ _)
      | (with_reducible exact ih2 _ _ _ _)
      | (with_reducible exact ih3 _ _ _ _ _)
      | (with_reducible exact LeO.refl _)
      | (with_reducible exact LeO.none _)
      | (with_reducible refine LeO.ite ?_ ?_)
      | (with_reducible refine LeO.bind ?_ (fun _ => ?_))
      | exact ih0 _ _ _
      | exact ih1 _ _ _ _
      | exact ih2 _ _ _ _
      | exact ih3 _ _ _ _ _
      | exact LeO.none _
      | refine LeO.ite ?_ ?_
      | refine LeO.bind ?_ (fun _ => ?_)
    · intro y0 y1 y2 y3
      unfold cirruslaw10_great.j1
      repeat' first
      | (with_reducible exact ih0 _ _ _)
      | (with_reducible exact ih1 _ _ _ _)
      | (with_reducible exact ih2 _ _ _ _)
      | (with_reducible exact ih3 _ _ _ _ _)
      | (with_reducible exact LeO.refl _)
      | (with_reducible exact LeO.none _)
      | (with_reducible refine LeO.ite ?_ ?_)
      | (with_reducible refine LeO.bind ?_ (fun _ => ?_))
      | exact ih0 _ _ _
      | exact ih1 _ _ _ _
      | exact ih2 _ _ _ _
      | exact ih3 _ _ _ _ _
      | exact LeO.none _
      | refine LeO.ite ?_ ?_
      | refine LeO.bind ?_ (fun _ => ?_)
    · intro y0 y1 y2 y3
      unfold cirruslaw10_great.l1
      repeat' first
      | (with_reducible exact ih0 _ _ _)
      | (with_reducible exact ih1 _ _ _ _)
      | (with_reducible exact ih2 _ _ _ _)
      | (with_reducible exact ih3 _ _ _ _ _)
      | (with_reducible exact LeO.refl _)
      | (with_reducible exact LeO.none _)
      | (with_reducible refine LeO.ite ?_ ?_)
      | (with_reducible refine LeO.bind ?_ (fun _ => ?_))
      | exact ih0 _ _ _
      | exact ih1 _ _ _ _
      | exact ih2 _ _ _ _
      | exact ih3 _ _ _ _ _
      | exact LeO.none _
      | refine LeO.ite ?_ ?_
      | refine LeO.bind ?_ (fun _ => ?_)
    · intro y0 y1 y2 y3 y4
      unfold cirruslaw10_great.j3
      repeat' first
      | (with_reducible exact ih0 _ _ _)
      | (with_reducible exact ih1 _ _ _ _)
      | (with_reducible exact ih2 _ _ _ _)
      | (with_reducible exact ih3 _ _ _ _ _)
      | (with_reducible exact LeO.refl _)
      | (with_reducible exact LeO.none _)
      | (with_reducible refine LeO.ite ?_ ?_)
      | (with_reducible refine LeO.bind ?_ (fun _ => ?_))
      | exact ih0 _ _ _
      | exact ih1 _ _ _ _
      | exact ih2 _ _ _ _
      | exact ih3 _ _ _ _ _
      | exact LeO.none _
      | refine LeO.ite ?_ ?_
      | refine LeO.bind ?_ (fun _ => ?_)
theorem cirruslaw10_great.mono : ∀ a0 k, LeO (cirruslaw10_great.f k a0) (cirruslaw10_great.f (k + 1) a0) := by
  intro a0 k
  obtain ⟨ih0, ih1, ih2, ih3⟩ := cirruslaw10_great.mono_l k
  unfold cirruslaw10_great.f
  repeat' first
      | (with_reducible exact ih0 _ _ _)
      | (with_reducible exact ih1 _ _ _ _)
      | (with_reducible exact ih2 _ _ _ _)
      | (with_reducible exact ih3 _ _ _ _ _)
      | (with_reducible exact LeO.refl _)
      | (with_reducible exact LeO.none _)
      | (with_reducible refine LeO.ite ?_ ?_)
      | (with_reducible refine LeO.bind ?_ (fun _ => ?_))
      | exact ih0 _ _ _
      | exact ih1 _ _ _ _
      | exact ih2 _ _ _ _
      | exact ih3 _ _ _ _ _
      | exact LeO.none _
      | refine LeO.ite ?_ ?_
      | refine LeO.bind ?_ (fun _ => ?_)
set_option maxHeartbeats 8000000 in
set_option maxRecDepth 100000 in
theorem cirruslaw10_great.calls (k : Nat) (A0 : Option Addr) (c0 : Nat) (l0 : List (S25)) (r : Bool) (w : World) (hr0 : Kd.C k25 w A0 l0.length l0) (hc0 : l0.length ≤ c0) (h : cirruslaw10_great.f k l0 = some r) :
    Calls Try.prog 8 #[.slice A0 l0.length c0] w fun e w' => e = .returned (.bool r) ∧ Below w.heap.size w w' := by
  have HR0 := Aside0.mk hr0
  have HC0 := Aside0.mk hc0
  clear hr0 hc0
  have HB := Aside0.mk (Below.refl w.heap.size w)
  have H : (cirruslaw10_great.l0 k l0 0 0) = some r := h
  clear h
  have H' := Aside0.mk H
  clear H
  go_enter Try.func8, Try.ntmps8
  go_wp2
  go_loopg [3, 4] k (fun kq v3 v4 w' => ∃ (x3_1 : Int) (x4_1 : Int), v3 = .int .i64 x3_1 ∧ v4 = .int .i64 x4_1 ∧ Aside0 (cirruslaw10_great.l0 kq l0 x3_1 x4_1 = some r) ∧ Aside0 (kq ≤ k) ∧ Aside0 (Below w.heap.size w w'))
  case atStart => exact ⟨(0), (0), (by first | rfl | (simp; done) | (simp [*]; done)), (by first | rfl | (simp; done) | (simp [*]; done)), H', ⟨Nat.le_refl _⟩, ⟨by repeat (first | (with_reducible first | exact HB.out | apply below_alloc | apply pw_below_drewN | apply below_drew1) | exact HB.out)⟩⟩
  case round =>
    clear H'
    obtain ⟨x3_1, x4_1, rfl, rfl, HA, HK1, HB⟩ := hrel
    cases gk with
    | zero => exact absurd HA.out (by simp [cirruslaw10_great.l0])
    | succ k1 =>
      have H := HA.out
      clear HA
      simp only [cirruslaw10_great.l0] at H
      have HC2 := Aside0.mk H
      clear H
      go_upto_region 3 with (fail)
      go_cut [13] (fun v13 wc => ∃ (kq : Nat) (x13_1 : Bool), v13 = .bool x13_1 ∧ Aside0 (cirruslaw10_great.j1 kq l0 x3_1 x4_1 x13_1 = some r) ∧ Aside0 (kq ≤ k1) ∧ Aside0 (Below w.heap.size w wc))
      case first =>
        have H := HC2.out
        clear HC2
        by_cases c3 : x4_1 < (l0.length : Int)
        · rw [if_pos c3] at H
          have c3b0 : decide (x4_1 < (l0.length : Int)) = true := decide_eq_true c3
          clear c3
          (first | rw [c3b0] | (simp only [i64_w, i32_w]; rw [c3b0]) | skip)
          have H' := Aside0.mk H
          clear H
          go_wp2
          go_meet
          case rel => exact ⟨_, (decide (x4_1 ≤ 20)), (by first | rfl | (simp; done) | (simp [*]; done)), H', ⟨by have := HK1.out; first | omega | exact Nat.le_refl _⟩, ⟨by repeat (first | (with_reducible first | exact HB.out | apply below_alloc | apply pw_below_drewN | apply below_drew1) | exact HB.out)⟩⟩
        · rw [if_neg c3] at H
          have c3b0 : decide (x4_1 < (l0.length : Int)) = false := decide_eq_false c3
          clear c3
          (first | rw [c3b0] | (simp only [i64_w, i32_w]; rw [c3b0]) | skip)
          have H' := Aside0.mk H
          clear H
          go_wp2
          go_meet
          case rel => exact ⟨_, (false), (by first | rfl | (simp; done) | (simp [*]; done)), H', ⟨by have := HK1.out; first | omega | exact Nat.le_refl _⟩, ⟨by repeat (first | (with_reducible first | exact HB.out | apply below_alloc | apply pw_below_drewN | apply below_drew1) | exact HB.out)⟩⟩
      case rest =>
        clear HC2
        try clear p2
        try clear c3
        try clear c3b0
        obtain ⟨kq, x13_1, rfl, HA, HJ1, HB⟩ := hcut
        cases kq with
        | zero => exact absurd HA.out (by simp [cirruslaw10_great.j1])
        | succ kj1 =>
          have H := HA.out
          clear HA
          simp only [cirruslaw10_great.j1] at H
          by_cases c4 : x13_1 = true
          · subst c4
            have H1 : (if 0 ≤ x4_1 then (if x4_1 < (l0.length : Int) then (cirruslaw10_great.l1 kj1 l0 (wrap64 (x3_1 + (mn (((rd_T25 l0 x4_1).f0).length : Int) 1000))) x4_1 0) else (none)) else (none)) = some r := by rw [if_pos rfl] at H; exact H
            clear H
            have H := H1
            clear H1
            by_cases c5 : 0 ≤ x4_1
            · rw [if_pos c5] at H
              have c5b0 : decide (0 ≤ x4_1) = true := decide_eq_true c5
              clear c5
              by_cases c6 : x4_1 < (l0.length : Int)
              · rw [if_pos c6] at H
                have c6b0 : decide (x4_1 < (l0.length : Int)) = true := decide_eq_true c6
                clear c6
                obtain ⟨ji7, hji7⟩ : ∃ j_ : Int, (mn (((rd_T25 l0 x4_1).f0).length : Int) 1000) = j_ := ⟨_, rfl⟩
                replace H : (cirruslaw10_great.l1 kj1 l0 (wrap64 (x3_1 + (ji7))) x4_1 0) = some r := by first | (rw [hji7] at H; exact H) | (simp only [hji7] at H ⊢; exact H)
                have hji7_ : (if 1000 < (((rd_T25 l0 x4_1).f0).length : Int) then 1000 else (((rd_T25 l0 x4_1).f0).length : Int)) = ji7 := hji7
                have H' := Aside0.mk H
                clear H
                have p101 : 0 ≤ (x4_1 : Int) := of_decide_eq_true (by first | (with_reducible assumption) | assumption)
                have q101 : x4_1 < (l0.length : Int) := of_decide_eq_true (by first | (with_reducible assumption) | assumption)
                obtain ⟨ad101, A101_0, c101_0, e101, hx101_0, hx101_1, hl101_0, hi101_0⟩ := at_T25 HR0.out x4_1 p101 q101
                cases e101
                replace hx101_0 := (HB.out.cell (World.block_lt_of_cell? w _ hx101_0)).trans hx101_0
                replace hx101_1 := (HB.out.cell (World.block_lt_of_cell? w _ hx101_1)).trans hx101_1
                have HR101_0 := Aside0.mk hi101_0
                have HC101_0 := Aside0.mk hl101_0
                clear hi101_0 hl101_0
                replace p101 := eq_true p101
                replace q101 := eq_true q101
                go_wp2
                go_loopg [5] kj1 (fun kq v5 w' => ∃ (x5_3 : Int), v5 = .int .i64 x5_3 ∧ Aside0 (cirruslaw10_great.l1 kq l0 (wrap64 (x3_1 + (ji7))) x4_1 x5_3 = some r) ∧ Aside0 (kq ≤ kj1) ∧ Aside0 (Below w.heap.size w w'))
                case atStart => exact ⟨(0), (by first | rfl | (simp; done) | (simp [*]; done)), H', ⟨Nat.le_refl _⟩, ⟨by repeat (first | (with_reducible first | exact HB.out | apply below_alloc | apply pw_below_drewN | apply below_drew1) | exact HB.out)⟩⟩
                case round =>
                  clear H'
                  try clear c1
                  try clear p1
                  try clear q1
                  try clear hx1
                  try clear p2
                  try clear c3
                  try clear c3b0
                  try clear c4
                  try clear c5
                  try clear c5b0
                  try clear c6
                  try clear c6b0
                  try clear p6
                  try clear hx101_0
                  try clear hx101_1
                  try clear p101
                  try clear p2
                  try clear q101
                  obtain ⟨x5_3, rfl, HA, HK3, HB⟩ := hrel
                  cases gk with
                  | zero => exact absurd HA.out (by simp [cirruslaw10_great.l1])
                  | succ k3 =>
                    have H := HA.out
                    clear HA
                    simp only [cirruslaw10_great.l1] at H
                    have HC8 := Aside0.mk H
                    clear H
                    go_upto_region 7 with (fail)
                    go_cut [36] (fun v36 wc => ∃ (kq : Nat) (x36_7 : Bool), v36 = .bool x36_7 ∧ Aside0 (cirruslaw10_great.j3 kq l0 (wrap64 (x3_1 + (ji7))) x4_1 x5_3 x36_7 = some r) ∧ Aside0 (kq ≤ k3) ∧ Aside0 (Below w.heap.size w wc))
                    case first =>
                      have H := HC8.out
                      clear HC8
                      by_cases c9 : 0 ≤ x4_1
                      · rw [if_pos c9] at H
                        have c9b0 : decide (0 ≤ x4_1) = true := decide_eq_true c9
                        clear c9
                        (first | rw [c9b0] | (simp only [i64_w, i32_w]; rw [c9b0]) | skip)
                        by_cases c10 : x4_1 < (l0.length : Int)
                        · rw [if_pos c10] at H
                          have c10b0 : decide (x4_1 < (l0.length : Int)) = true := decide_eq_true c10
                          clear c10
                          by_cases c11 : x5_3 < (((rd_T25 l0 x4_1).f0).length : Int)
                          · rw [if_pos c11] at H
                            have c11b0 : decide (x5_3 < (((rd_T25 l0 x4_1).f0).length : Int)) = true := decide_eq_true c11
                            clear c11
                            have H' := Aside0.mk H
                            clear H
                            have p102 : 0 ≤ (x4_1 : Int) := of_decide_eq_true (by first | (with_reducible assumption) | assumption)
                            have q102 : x4_1 < (l0.length : Int) := of_decide_eq_true (by first | (with_reducible assumption) | assumption)
                            obtain ⟨ad102, A102_0, c102_0, e102, hx102_0, hx102_1, hl102_0, hi102_0⟩ := at_T25 HR0.out x4_1 p102 q102
                            obtain rfl : ad101 = ad102 := (by injection e102)
                            replace hx102_0 := (HB.out.cell (World.block_lt_of_cell? w _ hx102_0)).trans hx102_0
                            replace hx102_1 := (HB.out.cell (World.block_lt_of_cell? w _ hx102_1)).trans hx102_1
                            have HR102_0 := Aside0.mk hi102_0
                            have HC102_0 := Aside0.mk hl102_0
                            clear hi102_0 hl102_0
                            replace p102 := eq_true p102
                            replace q102 := eq_true q102
                            go_wp2
                            go_meet
                            case rel => exact ⟨_, (decide (x5_3 < 1000)), (by first | rfl | (simp; done) | (simp [*]; done)), H', ⟨by have := HK1.out; have := HJ1.out; have := HK3.out; first | omega | exact Nat.le_refl _⟩, ⟨by repeat (first | (with_reducible first | exact HB.out | apply below_alloc | apply pw_below_drewN | apply below_drew1) | exact HB.out)⟩⟩
                          · rw [if_neg c11] at H
                            have c11b0 : decide (x5_3 < (((rd_T25 l0 x4_1).f0).length : Int)) = false := decide_eq_false c11
                            clear c11
                            have H' := Aside0.mk H
                            clear H
                            have p102 : 0 ≤ (x4_1 : Int) := of_decide_eq_true (by first | (with_reducible assumption) | assumption)
                            have q102 : x4_1 < (l0.length : Int) := of_decide_eq_true (by first | (with_reducible assumption) | assumption)
                            obtain ⟨ad102, A102_0, c102_0, e102, hx102_0, hx102_1, hl102_0, hi102_0⟩ := at_T25 HR0.out x4_1 p102 q102
                            obtain rfl : ad101 = ad102 := (by injection e102)
                            replace hx102_0 := (HB.out.cell (World.block_lt_of_cell? w _ hx102_0)).trans hx102_0
                            replace hx102_1 := (HB.out.cell (World.block_lt_of_cell? w _ hx102_1)).trans hx102_1
                            have HR102_0 := Aside0.mk hi102_0
                            have HC102_0 := Aside0.mk hl102_0
                            clear hi102_0 hl102_0
                            replace p102 := eq_true p102
                            replace q102 := eq_true q102
                            go_wp2
                            go_meet
                            case rel => exact ⟨_, (false), (by first | rfl | (simp; done) | (simp [*]; done)), H', ⟨by have := HK1.out; have := HJ1.out; have := HK3.out; first | omega | exact Nat.le_refl _⟩, ⟨by repeat (first | (with_reducible first | exact HB.out | apply below_alloc | apply pw_below_drewN | apply below_drew1) | exact HB.out)⟩⟩
                        · rw [if_neg c10] at H
                          exact absurd H (by simp)
                      · rw [if_neg c9] at H
                        exact absurd H (by simp)
                    case rest =>
                      clear HC8
                      try clear c1
                      try clear p1
                      try clear q1
                      try clear hx1
                      try clear p2
                      try clear c3
                      try clear c3b0
                      try clear c4
                      try clear c5
                      try clear c5b0
                      try clear c6
                      try clear c6b0
                      try clear p6
                      try clear c8
                      try clear c9
                      try clear c9b0
                      try clear c10
                      try clear c10b0
                      try clear p10
                      try clear q10
                      try clear hx10
                      try clear c11
                      try clear c11b0
                      try clear hx101_0
                      try clear hx101_1
                      try clear hx102_0
                      try clear hx102_1
                      try clear p1
                      try clear p101
                      try clear p102
                      try clear p2
                      try clear p6
                      try clear q1
                      try clear q101
                      try clear q102
                      obtain ⟨kq, x36_7, rfl, HA, HJ7, HB⟩ := hcut
                      cases kq with
                      | zero => exact absurd HA.out (by simp [cirruslaw10_great.j3])
                      | succ kj7 =>
                        have H := HA.out
                        clear HA
                        simp only [cirruslaw10_great.j3] at H
                        by_cases c12 : x36_7 = true
                        · subst c12
                          have H1 : (if 0 ≤ x4_1 then (if x4_1 < (l0.length : Int) then (if 0 ≤ x5_3 then (if x5_3 < (((rd_T25 l0 x4_1).f0).length : Int) then (if (((rd_T31 ((rd_T25 l0 x4_1).f0) x5_3).f6).length : Int) > 200 then (if (((rd_T31 ((rd_T25 l0 x4_1).f0) x5_3).f6).length : Int) ≤ 4000 then (some true) else (if (((rd_T31 ((rd_T25 l0 x4_1).f0) x5_3).f6).length : Int) > 5000 then (some true) else (cirruslaw10_great.l1 kj7 l0 (wrap64 (x3_1 + (ji7))) x4_1 (wrap64 (x5_3 + 1))))) else (if (((rd_T31 ((rd_T25 l0 x4_1).f0) x5_3).f6).length : Int) > 5000 then (some true) else (cirruslaw10_great.l1 kj7 l0 (wrap64 (x3_1 + (ji7))) x4_1 (wrap64 (x5_3 + 1))))) else (none)) else (none)) else (none)) else (none)) = some r := by rw [if_pos rfl] at H; exact H
                          clear H
                          have H := H1
                          clear H1
                          by_cases c13 : 0 ≤ x4_1
                          · rw [if_pos c13] at H
                            have c13b0 : decide (0 ≤ x4_1) = true := decide_eq_true c13
                            clear c13
                            by_cases c14 : x4_1 < (l0.length : Int)
                            · rw [if_pos c14] at H
                              have c14b0 : decide (x4_1 < (l0.length : Int)) = true := decide_eq_true c14
                              clear c14
                              by_cases c15 : 0 ≤ x5_3
                              · rw [if_pos c15] at H
                                have c15b0 : decide (0 ≤ x5_3) = true := decide_eq_true c15
                                clear c15
                                by_cases c16 : x5_3 < (((rd_T25 l0 x4_1).f0).length : Int)
                                · rw [if_pos c16] at H
                                  have c16b0 : decide (x5_3 < (((rd_T25 l0 x4_1).f0).length : Int)) = true := decide_eq_true c16
                                  clear c16
                                  by_cases c17 : (((rd_T31 ((rd_T25 l0 x4_1).f0) x5_3).f6).length : Int) > 200
                                  · rw [if_pos c17] at H
                                    have c17b0 : decide (200 < (((rd_T31 ((rd_T25 l0 x4_1).f0) x5_3).f6).length : Int)) = true := decide_eq_true c17
                                    have c17b1 : decide (200 < ((rd_T31 ((rd_T25 l0 x4_1).f0) x5_3).f6).length) = true := decide_eq_true (by omega)
                                    clear c17
                                    by_cases c18 : (((rd_T31 ((rd_T25 l0 x4_1).f0) x5_3).f6).length : Int) ≤ 4000
                                    · rw [if_pos c18] at H
                                      have c18b0 : decide ((((rd_T31 ((rd_T25 l0 x4_1).f0) x5_3).f6).length : Int) ≤ 4000) = true := decide_eq_true c18
                                      have c18b1 : decide (((rd_T31 ((rd_T25 l0 x4_1).f0) x5_3).f6).length ≤ 4000) = true := decide_eq_true (by omega)
                                      clear c18
                                      obtain rfl := Option.some.inj H
                                      have p103 : 0 ≤ (x4_1 : Int) := of_decide_eq_true (by first | (with_reducible assumption) | assumption)
                                      have q103 : x4_1 < (l0.length : Int) := of_decide_eq_true (by first | (with_reducible assumption) | assumption)
                                      obtain ⟨ad103, A103_0, c103_0, e103, hx103_0, hx103_1, hl103_0, hi103_0⟩ := at_T25 HR0.out x4_1 p103 q103
                                      obtain rfl : ad101 = ad103 := (by injection e103)
                                      replace hx103_0 := (HB.out.cell (World.block_lt_of_cell? w _ hx103_0)).trans hx103_0
                                      replace hx103_1 := (HB.out.cell (World.block_lt_of_cell? w _ hx103_1)).trans hx103_1
                                      have HR103_0 := Aside0.mk hi103_0
                                      have HC103_0 := Aside0.mk hl103_0
                                      clear hi103_0 hl103_0
                                      replace p103 := eq_true p103
                                      replace q103 := eq_true q103
                                      have p104 : 0 ≤ (x5_3 : Int) := of_decide_eq_true (by first | (with_reducible assumption) | assumption)
                                      have q104 : x5_3 < (((rd_T25 l0 x4_1).f0).length : Int) := of_decide_eq_true (by first | (with_reducible assumption) | assumption)
                                      obtain ⟨ad104, A104_4, c104_4, A104_6, c104_6, e104, hx104_0, hx104_1, hx104_2, hx104_3, hx104_4, hx104_5, hx104_6, hl104_4, hi104_4, hl104_6, hi104_6⟩ := at_T31 HR103_0.out x5_3 p104 q104
                                      cases e104
                                      replace hx104_0 := (HB.out.cell (World.block_lt_of_cell? w _ hx104_0)).trans hx104_0
                                      replace hx104_1 := (HB.out.cell (World.block_lt_of_cell? w _ hx104_1)).trans hx104_1
                                      replace hx104_2 := (HB.out.cell (World.block_lt_of_cell? w _ hx104_2)).trans hx104_2
                                      replace hx104_3 := (HB.out.cell (World.block_lt_of_cell? w _ hx104_3)).trans hx104_3
                                      replace hx104_4 := (HB.out.cell (World.block_lt_of_cell? w _ hx104_4)).trans hx104_4
                                      replace hx104_5 := (HB.out.cell (World.block_lt_of_cell? w _ hx104_5)).trans hx104_5
                                      replace hx104_6 := (HB.out.cell (World.block_lt_of_cell? w _ hx104_6)).trans hx104_6
                                      have HR104_4 := Aside0.mk hi104_4
                                      have HC104_4 := Aside0.mk hl104_4
                                      clear hi104_4 hl104_4
                                      have HR104_6 := Aside0.mk hi104_6
                                      have HC104_6 := Aside0.mk hl104_6
                                      clear hi104_6 hl104_6
                                      replace p104 := eq_true p104
                                      replace q104 := eq_true q104
                                      have p105 : 0 ≤ (x4_1 : Int) := of_decide_eq_true (by first | (with_reducible assumption) | assumption)
                                      have q105 : x4_1 < (l0.length : Int) := of_decide_eq_true (by first | (with_reducible assumption) | assumption)
                                      obtain ⟨ad105, A105_0, c105_0, e105, hx105_0, hx105_1, hl105_0, hi105_0⟩ := at_T25 HR0.out x4_1 p105 q105
                                      obtain rfl : ad101 = ad105 := (by injection e105)
                                      replace hx105_0 := (HB.out.cell (World.block_lt_of_cell? w _ hx105_0)).trans hx105_0
                                      replace hx105_1 := (HB.out.cell (World.block_lt_of_cell? w _ hx105_1)).trans hx105_1
                                      have HR105_0 := Aside0.mk hi105_0
                                      have HC105_0 := Aside0.mk hl105_0
                                      clear hi105_0 hl105_0
                                      replace p105 := eq_true p105
                                      replace q105 := eq_true q105
                                      have ea_ := Option.some.inj (hx103_0.symm.trans hx105_0)
                                      injection ea_ with ea_ en_ ec_
                                      subst ea_
                                      subst ec_
                                      clear en_
                                      have p106 : 0 ≤ (x5_3 : Int) := of_decide_eq_true (by first | (with_reducible assumption) | assumption)
                                      have q106 : x5_3 < (((rd_T25 l0 x4_1).f0).length : Int) := of_decide_eq_true (by first | (with_reducible assumption) | assumption)
                                      obtain ⟨ad106, A106_4, c106_4, A106_6, c106_6, e106, hx106_0, hx106_1, hx106_2, hx106_3, hx106_4, hx106_5, hx106_6, hl106_4, hi106_4, hl106_6, hi106_6⟩ := at_T31 HR105_0.out x5_3 p106 q106
                                      cases e106
                                      replace hx106_0 := (HB.out.cell (World.block_lt_of_cell? w _ hx106_0)).trans hx106_0
                                      replace hx106_1 := (HB.out.cell (World.block_lt_of_cell? w _ hx106_1)).trans hx106_1
                                      replace hx106_2 := (HB.out.cell (World.block_lt_of_cell? w _ hx106_2)).trans hx106_2
                                      replace hx106_3 := (HB.out.cell (World.block_lt_of_cell? w _ hx106_3)).trans hx106_3
                                      replace hx106_4 := (HB.out.cell (World.block_lt_of_cell? w _ hx106_4)).trans hx106_4
                                      replace hx106_5 := (HB.out.cell (World.block_lt_of_cell? w _ hx106_5)).trans hx106_5
                                      replace hx106_6 := (HB.out.cell (World.block_lt_of_cell? w _ hx106_6)).trans hx106_6
                                      have HR106_4 := Aside0.mk hi106_4
                                      have HC106_4 := Aside0.mk hl106_4
                                      clear hi106_4 hl106_4
                                      have HR106_6 := Aside0.mk hi106_6
                                      have HC106_6 := Aside0.mk hl106_6
                                      clear hi106_6 hl106_6
                                      replace p106 := eq_true p106
                                      replace q106 := eq_true q106
                                      go_wp2
                                      go_ret
                                      exact ⟨by first | rfl | (simp [errW_none, errW_some] <;> rfl) | (simp only [← hji7]; first | rfl | (simp [errW_none, errW_some] <;> rfl)) | (simp [*, errW_none, errW_some] <;> rfl), by repeat (first | (with_reducible first | exact HB.out | apply below_alloc | apply pw_below_drewN | apply below_drew1) | exact HB.out)⟩
                                    · rw [if_neg c18] at H
                                      have c18b0 : decide ((((rd_T31 ((rd_T25 l0 x4_1).f0) x5_3).f6).length : Int) ≤ 4000) = false := decide_eq_false c18
                                      have c18b1 : decide (((rd_T31 ((rd_T25 l0 x4_1).f0) x5_3).f6).length ≤ 4000) = false := decide_eq_false (by omega)
                                      clear c18
                                      by_cases c19 : (((rd_T31 ((rd_T25 l0 x4_1).f0) x5_3).f6).length : Int) > 5000
                                      · rw [if_pos c19] at H
                                        have c19b0 : decide (5000 < (((rd_T31 ((rd_T25 l0 x4_1).f0) x5_3).f6).length : Int)) = true := decide_eq_true c19
                                        have c19b1 : decide (5000 < ((rd_T31 ((rd_T25 l0 x4_1).f0) x5_3).f6).length) = true := decide_eq_true (by omega)
                                        clear c19
                                        obtain rfl := Option.some.inj H
                                        have p103 : 0 ≤ (x4_1 : Int) := of_decide_eq_true (by first | (with_reducible assumption) | assumption)
                                        have q103 : x4_1 < (l0.length : Int) := of_decide_eq_true (by first | (with_reducible assumption) | assumption)
                                        obtain ⟨ad103, A103_0, c103_0, e103, hx103_0, hx103_1, hl103_0, hi103_0⟩ := at_T25 HR0.out x4_1 p103 q103
                                        obtain rfl : ad101 = ad103 := (by injection e103)
                                        replace hx103_0 := (HB.out.cell (World.block_lt_of_cell? w _ hx103_0)).trans hx103_0
                                        replace hx103_1 := (HB.out.cell (World.block_lt_of_cell? w _ hx103_1)).trans hx103_1
                                        have HR103_0 := Aside0.mk hi103_0
                                        have HC103_0 := Aside0.mk hl103_0
                                        clear hi103_0 hl103_0
                                        replace p103 := eq_true p103
                                        replace q103 := eq_true q103
                                        have p104 : 0 ≤ (x5_3 : Int) := of_decide_eq_true (by first | (with_reducible assumption) | assumption)
                                        have q104 : x5_3 < (((rd_T25 l0 x4_1).f0).length : Int) := of_decide_eq_true (by first | (with_reducible assumption) | assumption)
                                        obtain ⟨ad104, A104_4, c104_4, A104_6, c104_6, e104, hx104_0, hx104_1, hx104_2, hx104_3, hx104_4, hx104_5, hx104_6, hl104_4, hi104_4, hl104_6, hi104_6⟩ := at_T31 HR103_0.out x5_3 p104 q104
                                        cases e104
                                        replace hx104_0 := (HB.out.cell (World.block_lt_of_cell? w _ hx104_0)).trans hx104_0
                                        replace hx104_1 := (HB.out.cell (World.block_lt_of_cell? w _ hx104_1)).trans hx104_1
                                        replace hx104_2 := (HB.out.cell (World.block_lt_of_cell? w _ hx104_2)).trans hx104_2
                                        replace hx104_3 := (HB.out.cell (World.block_lt_of_cell? w _ hx104_3)).trans hx104_3
                                        replace hx104_4 := (HB.out.cell (World.block_lt_of_cell? w _ hx104_4)).trans hx104_4
                                        replace hx104_5 := (HB.out.cell (World.block_lt_of_cell? w _ hx104_5)).trans hx104_5
                                        replace hx104_6 := (HB.out.cell (World.block_lt_of_cell? w _ hx104_6)).trans hx104_6
                                        have HR104_4 := Aside0.mk hi104_4
                                        have HC104_4 := Aside0.mk hl104_4
                                        clear hi104_4 hl104_4
                                        have HR104_6 := Aside0.mk hi104_6
                                        have HC104_6 := Aside0.mk hl104_6
                                        clear hi104_6 hl104_6
                                        replace p104 := eq_true p104
                                        replace q104 := eq_true q104
                                        have p105 : 0 ≤ (x4_1 : Int) := of_decide_eq_true (by first | (with_reducible assumption) | assumption)
                                        have q105 : x4_1 < (l0.length : Int) := of_decide_eq_true (by first | (with_reducible assumption) | assumption)
                                        obtain ⟨ad105, A105_0, c105_0, e105, hx105_0, hx105_1, hl105_0, hi105_0⟩ := at_T25 HR0.out x4_1 p105 q105
                                        obtain rfl : ad101 = ad105 := (by injection e105)
                                        replace hx105_0 := (HB.out.cell (World.block_lt_of_cell? w _ hx105_0)).trans hx105_0
                                        replace hx105_1 := (HB.out.cell (World.block_lt_of_cell? w _ hx105_1)).trans hx105_1
                                        have HR105_0 := Aside0.mk hi105_0
                                        have HC105_0 := Aside0.mk hl105_0
                                        clear hi105_0 hl105_0
                                        replace p105 := eq_true p105
                                        replace q105 := eq_true q105
                                        have ea_ := Option.some.inj (hx103_0.symm.trans hx105_0)
                                        injection ea_ with ea_ en_ ec_
                                        subst ea_
                                        subst ec_
                                        clear en_
                                        have p106 : 0 ≤ (x5_3 : Int) := of_decide_eq_true (by first | (with_reducible assumption) | assumption)
                                        have q106 : x5_3 < (((rd_T25 l0 x4_1).f0).length : Int) := of_decide_eq_true (by first | (with_reducible assumption) | assumption)
                                        obtain ⟨ad106, A106_4, c106_4, A106_6, c106_6, e106, hx106_0, hx106_1, hx106_2, hx106_3, hx106_4, hx106_5, hx106_6, hl106_4, hi106_4, hl106_6, hi106_6⟩ := at_T31 HR105_0.out x5_3 p106 q106
                                        cases e106
                                        replace hx106_0 := (HB.out.cell (World.block_lt_of_cell? w _ hx106_0)).trans hx106_0
                                        replace hx106_1 := (HB.out.cell (World.block_lt_of_cell? w _ hx106_1)).trans hx106_1
                                        replace hx106_2 := (HB.out.cell (World.block_lt_of_cell? w _ hx106_2)).trans hx106_2
                                        replace hx106_3 := (HB.out.cell (World.block_lt_of_cell? w _ hx106_3)).trans hx106_3
                                        replace hx106_4 := (HB.out.cell (World.block_lt_of_cell? w _ hx106_4)).trans hx106_4
                                        replace hx106_5 := (HB.out.cell (World.block_lt_of_cell? w _ hx106_5)).trans hx106_5
                                        replace hx106_6 := (HB.out.cell (World.block_lt_of_cell? w _ hx106_6)).trans hx106_6
                                        have HR106_4 := Aside0.mk hi106_4
                                        have HC106_4 := Aside0.mk hl106_4
                                        clear hi106_4 hl106_4
                                        have HR106_6 := Aside0.mk hi106_6
                                        have HC106_6 := Aside0.mk hl106_6
                                        clear hi106_6 hl106_6
                                        replace p106 := eq_true p106
                                        replace q106 := eq_true q106
                                        have p107 : 0 ≤ (x4_1 : Int) := of_decide_eq_true (by first | (with_reducible assumption) | assumption)
                                        have q107 : x4_1 < (l0.length : Int) := of_decide_eq_true (by first | (with_reducible assumption) | assumption)
                                        obtain ⟨ad107, A107_0, c107_0, e107, hx107_0, hx107_1, hl107_0, hi107_0⟩ := at_T25 HR0.out x4_1 p107 q107
                                        obtain rfl : ad101 = ad107 := (by injection e107)
                                        replace hx107_0 := (HB.out.cell (World.block_lt_of_cell? w _ hx107_0)).trans hx107_0
                                        replace hx107_1 := (HB.out.cell (World.block_lt_of_cell? w _ hx107_1)).trans hx107_1
                                        have HR107_0 := Aside0.mk hi107_0
                                        have HC107_0 := Aside0.mk hl107_0
                                        clear hi107_0 hl107_0
                                        replace p107 := eq_true p107
                                        replace q107 := eq_true q107
                                        have ea_ := Option.some.inj (hx103_0.symm.trans hx107_0)
                                        injection ea_ with ea_ en_ ec_
                                        subst ea_
                                        subst ec_
                                        clear en_
                                        have p108 : 0 ≤ (x5_3 : Int) := of_decide_eq_true (by first | (with_reducible assumption) | assumption)
                                        have q108 : x5_3 < (((rd_T25 l0 x4_1).f0).length : Int) := of_decide_eq_true (by first | (with_reducible assumption) | assumption)
                                        obtain ⟨ad108, A108_4, c108_4, A108_6, c108_6, e108, hx108_0, hx108_1, hx108_2, hx108_3, hx108_4, hx108_5, hx108_6, hl108_4, hi108_4, hl108_6, hi108_6⟩ := at_T31 HR107_0.out x5_3 p108 q108
                                        cases e108
                                        replace hx108_0 := (HB.out.cell (World.block_lt_of_cell? w _ hx108_0)).trans hx108_0
                                        replace hx108_1 := (HB.out.cell (World.block_lt_of_cell? w _ hx108_1)).trans hx108_1
                                        replace hx108_2 := (HB.out.cell (World.block_lt_of_cell? w _ hx108_2)).trans hx108_2
                                        replace hx108_3 := (HB.out.cell (World.block_lt_of_cell? w _ hx108_3)).trans hx108_3
                                        replace hx108_4 := (HB.out.cell (World.block_lt_of_cell? w _ hx108_4)).trans hx108_4
                                        replace hx108_5 := (HB.out.cell (World.block_lt_of_cell? w _ hx108_5)).trans hx108_5
                                        replace hx108_6 := (HB.out.cell (World.block_lt_of_cell? w _ hx108_6)).trans hx108_6
                                        have HR108_4 := Aside0.mk hi108_4
                                        have HC108_4 := Aside0.mk hl108_4
                                        clear hi108_4 hl108_4
                                        have HR108_6 := Aside0.mk hi108_6
                                        have HC108_6 := Aside0.mk hl108_6
                                        clear hi108_6 hl108_6
                                        replace p108 := eq_true p108
                                        replace q108 := eq_true q108
                                        go_wp2
                                        go_ret
                                        exact ⟨by first | rfl | (simp [errW_none, errW_some] <;> rfl) | (simp only [← hji7]; first | rfl | (simp [errW_none, errW_some] <;> rfl)) | (simp [*, errW_none, errW_some] <;> rfl), by repeat (first | (with_reducible first | exact HB.out | apply below_alloc | apply pw_below_drewN | apply below_drew1) | exact HB.out)⟩
                                      · rw [if_neg c19] at H
                                        have c19b0 : decide (5000 < (((rd_T31 ((rd_T25 l0 x4_1).f0) x5_3).f6).length : Int)) = false := decide_eq_false c19
                                        have c19b1 : decide (5000 < ((rd_T31 ((rd_T25 l0 x4_1).f0) x5_3).f6).length) = false := decide_eq_false (by omega)
                                        clear c19
                                        have H' := Aside0.mk H
                                        clear H
                                        have p103 : 0 ≤ (x4_1 : Int) := of_decide_eq_true (by first | (with_reducible assumption) | assumption)
                                        have q103 : x4_1 < (l0.length : Int) := of_decide_eq_true (by first | (with_reducible assumption) | assumption)
                                        obtain ⟨ad103, A103_0, c103_0, e103, hx103_0, hx103_1, hl103_0, hi103_0⟩ := at_T25 HR0.out x4_1 p103 q103
                                        obtain rfl : ad101 = ad103 := (by injection e103)
                                        replace hx103_0 := (HB.out.cell (World.block_lt_of_cell? w _ hx103_0)).trans hx103_0
                                        replace hx103_1 := (HB.out.cell (World.block_lt_of_cell? w _ hx103_1)).trans hx103_1
                                        have HR103_0 := Aside0.mk hi103_0
                                        have HC103_0 := Aside0.mk hl103_0
                                        clear hi103_0 hl103_0
                                        replace p103 := eq_true p103
                                        replace q103 := eq_true q103
                                        have p104 : 0 ≤ (x5_3 : Int) := of_decide_eq_true (by first | (with_reducible assumption) | assumption)
                                        have q104 : x5_3 < (((rd_T25 l0 x4_1).f0).length : Int) := of_decide_eq_true (by first | (with_reducible assumption) | assumption)
                                        obtain ⟨ad104, A104_4, c104_4, A104_6, c104_6, e104, hx104_0, hx104_1, hx104_2, hx104_3, hx104_4, hx104_5, hx104_6, hl104_4, hi104_4, hl104_6, hi104_6⟩ := at_T31 HR103_0.out x5_3 p104 q104
                                        cases e104
                                        replace hx104_0 := (HB.out.cell (World.block_lt_of_cell? w _ hx104_0)).trans hx104_0
                                        replace hx104_1 := (HB.out.cell (World.block_lt_of_cell? w _ hx104_1)).trans hx104_1
                                        replace hx104_2 := (HB.out.cell (World.block_lt_of_cell? w _ hx104_2)).trans hx104_2
                                        replace hx104_3 := (HB.out.cell (World.block_lt_of_cell? w _ hx104_3)).trans hx104_3
                                        replace hx104_4 := (HB.out.cell (World.block_lt_of_cell? w _ hx104_4)).trans hx104_4
                                        replace hx104_5 := (HB.out.cell (World.block_lt_of_cell? w _ hx104_5)).trans hx104_5
                                        replace hx104_6 := (HB.out.cell (World.block_lt_of_cell? w _ hx104_6)).trans hx104_6
                                        have HR104_4 := Aside0.mk hi104_4
                                        have HC104_4 := Aside0.mk hl104_4
                                        clear hi104_4 hl104_4
                                        have HR104_6 := Aside0.mk hi104_6
                                        have HC104_6 := Aside0.mk hl104_6
                                        clear hi104_6 hl104_6
                                        replace p104 := eq_true p104
                                        replace q104 := eq_true q104
                                        have p105 : 0 ≤ (x4_1 : Int) := of_decide_eq_true (by first | (with_reducible assumption) | assumption)
                                        have q105 : x4_1 < (l0.length : Int) := of_decide_eq_true (by first | (with_reducible assumption) | assumption)
                                        obtain ⟨ad105, A105_0, c105_0, e105, hx105_0, hx105_1, hl105_0, hi105_0⟩ := at_T25 HR0.out x4_1 p105 q105
                                        obtain rfl : ad101 = ad105 := (by injection e105)
                                        replace hx105_0 := (HB.out.cell (World.block_lt_of_cell? w _ hx105_0)).trans hx105_0
                                        replace hx105_1 := (HB.out.cell (World.block_lt_of_cell? w _ hx105_1)).trans hx105_1
                                        have HR105_0 := Aside0.mk hi105_0
                                        have HC105_0 := Aside0.mk hl105_0
                                        clear hi105_0 hl105_0
                                        replace p105 := eq_true p105
                                        replace q105 := eq_true q105
                                        have ea_ := Option.some.inj (hx103_0.symm.trans hx105_0)
                                        injection ea_ with ea_ en_ ec_
                                        subst ea_
                                        subst ec_
                                        clear en_
                                        have p106 : 0 ≤ (x5_3 : Int) := of_decide_eq_true (by first | (with_reducible assumption) | assumption)
                                        have q106 : x5_3 < (((rd_T25 l0 x4_1).f0).length : Int) := of_decide_eq_true (by first | (with_reducible assumption) | assumption)
                                        obtain ⟨ad106, A106_4, c106_4, A106_6, c106_6, e106, hx106_0, hx106_1, hx106_2, hx106_3, hx106_4, hx106_5, hx106_6, hl106_4, hi106_4, hl106_6, hi106_6⟩ := at_T31 HR105_0.out x5_3 p106 q106
                                        cases e106
                                        replace hx106_0 := (HB.out.cell (World.block_lt_of_cell? w _ hx106_0)).trans hx106_0
                                        replace hx106_1 := (HB.out.cell (World.block_lt_of_cell? w _ hx106_1)).trans hx106_1
                                        replace hx106_2 := (HB.out.cell (World.block_lt_of_cell? w _ hx106_2)).trans hx106_2
                                        replace hx106_3 := (HB.out.cell (World.block_lt_of_cell? w _ hx106_3)).trans hx106_3
                                        replace hx106_4 := (HB.out.cell (World.block_lt_of_cell? w _ hx106_4)).trans hx106_4
                                        replace hx106_5 := (HB.out.cell (World.block_lt_of_cell? w _ hx106_5)).trans hx106_5
                                        replace hx106_6 := (HB.out.cell (World.block_lt_of_cell? w _ hx106_6)).trans hx106_6
                                        have HR106_4 := Aside0.mk hi106_4
                                        have HC106_4 := Aside0.mk hl106_4
                                        clear hi106_4 hl106_4
                                        have HR106_6 := Aside0.mk hi106_6
                                        have HC106_6 := Aside0.mk hl106_6
                                        clear hi106_6 hl106_6
                                        replace p106 := eq_true p106
                                        replace q106 := eq_true q106
                                        have p107 : 0 ≤ (x4_1 : Int) := of_decide_eq_true (by first | (with_reducible assumption) | assumption)
                                        have q107 : x4_1 < (l0.length : Int) := of_decide_eq_true (by first | (with_reducible assumption) | assumption)
                                        obtain ⟨ad107, A107_0, c107_0, e107, hx107_0, hx107_1, hl107_0, hi107_0⟩ := at_T25 HR0.out x4_1 p107 q107
                                        obtain rfl : ad101 = ad107 := (by injection e107)
                                        replace hx107_0 := (HB.out.cell (World.block_lt_of_cell? w _ hx107_0)).trans hx107_0
                                        replace hx107_1 := (HB.out.cell (World.block_lt_of_cell? w _ hx107_1)).trans hx107_1
                                        have HR107_0 := Aside0.mk hi107_0
                                        have HC107_0 := Aside0.mk hl107_0
                                        clear hi107_0 hl107_0
                                        replace p107 := eq_true p107
                                        replace q107 := eq_true q107
                                        have ea_ := Option.some.inj (hx103_0.symm.trans hx107_0)
                                        injection ea_ with ea_ en_ ec_
                                        subst ea_
                                        subst ec_
                                        clear en_
                                        have p108 : 0 ≤ (x5_3 : Int) := of_decide_eq_true (by first | (with_reducible assumption) | assumption)
                                        have q108 : x5_3 < (((rd_T25 l0 x4_1).f0).length : Int) := of_decide_eq_true (by first | (with_reducible assumption) | assumption)
                                        obtain ⟨ad108, A108_4, c108_4, A108_6, c108_6, e108, hx108_0, hx108_1, hx108_2, hx108_3, hx108_4, hx108_5, hx108_6, hl108_4, hi108_4, hl108_6, hi108_6⟩ := at_T31 HR107_0.out x5_3 p108 q108
                                        cases e108
                                        replace hx108_0 := (HB.out.cell (World.block_lt_of_cell? w _ hx108_0)).trans hx108_0
                                        replace hx108_1 := (HB.out.cell (World.block_lt_of_cell? w _ hx108_1)).trans hx108_1
                                        replace hx108_2 := (HB.out.cell (World.block_lt_of_cell? w _ hx108_2)).trans hx108_2
                                        replace hx108_3 := (HB.out.cell (World.block_lt_of_cell? w _ hx108_3)).trans hx108_3
                                        replace hx108_4 := (HB.out.cell (World.block_lt_of_cell? w _ hx108_4)).trans hx108_4
                                        replace hx108_5 := (HB.out.cell (World.block_lt_of_cell? w _ hx108_5)).trans hx108_5
                                        replace hx108_6 := (HB.out.cell (World.block_lt_of_cell? w _ hx108_6)).trans hx108_6
                                        have HR108_4 := Aside0.mk hi108_4
                                        have HC108_4 := Aside0.mk hl108_4
                                        clear hi108_4 hl108_4
                                        have HR108_6 := Aside0.mk hi108_6
                                        have HC108_6 := Aside0.mk hl108_6
                                        clear hi108_6 hl108_6
                                        replace p108 := eq_true p108
                                        replace q108 := eq_true q108
                                        go_wp2
                                        go_roundg kj7
                                        case measure => have := HK1.out; have := HJ1.out; have := HK3.out; have := HJ7.out; omega
                                        case rel => exact ⟨(wrap64 (x5_3 + 1)), (by first | rfl | (simp; done) | (simp [*]; done)), H', ⟨by have := HK1.out; have := HJ1.out; have := HK3.out; have := HJ7.out; omega⟩, ⟨by repeat (first | (with_reducible first | exact HB.out | apply below_alloc | apply pw_below_drewN | apply below_drew1) | exact HB.out)⟩⟩
                                  · rw [if_neg c17] at H
                                    have c17b0 : decide (200 < (((rd_T31 ((rd_T25 l0 x4_1).f0) x5_3).f6).length : Int)) = false := decide_eq_false c17
                                    have c17b1 : decide (200 < ((rd_T31 ((rd_T25 l0 x4_1).f0) x5_3).f6).length) = false := decide_eq_false (by omega)
                                    clear c17
                                    by_cases c20 : (((rd_T31 ((rd_T25 l0 x4_1).f0) x5_3).f6).length : Int) > 5000
                                    · rw [if_pos c20] at H
                                      have c20b0 : decide (5000 < (((rd_T31 ((rd_T25 l0 x4_1).f0) x5_3).f6).length : Int)) = true := decide_eq_true c20
                                      have c20b1 : decide (5000 < ((rd_T31 ((rd_T25 l0 x4_1).f0) x5_3).f6).length) = true := decide_eq_true (by omega)
                                      clear c20
                                      obtain rfl := Option.some.inj H
                                      have p103 : 0 ≤ (x4_1 : Int) := of_decide_eq_true (by first | (with_reducible assumption) | assumption)
                                      have q103 : x4_1 < (l0.length : Int) := of_decide_eq_true (by first | (with_reducible assumption) | assumption)
                                      obtain ⟨ad103, A103_0, c103_0, e103, hx103_0, hx103_1, hl103_0, hi103_0⟩ := at_T25 HR0.out x4_1 p103 q103
                                      obtain rfl : ad101 = ad103 := (by injection e103)
                                      replace hx103_0 := (HB.out.cell (World.block_lt_of_cell? w _ hx103_0)).trans hx103_0
                                      replace hx103_1 := (HB.out.cell (World.block_lt_of_cell? w _ hx103_1)).trans hx103_1
                                      have HR103_0 := Aside0.mk hi103_0
                                      have HC103_0 := Aside0.mk hl103_0
                                      clear hi103_0 hl103_0
                                      replace p103 := eq_true p103
                                      replace q103 := eq_true q103
                                      have p104 : 0 ≤ (x5_3 : Int) := of_decide_eq_true (by first | (with_reducible assumption) | assumption)
                                      have q104 : x5_3 < (((rd_T25 l0 x4_1).f0).length : Int) := of_decide_eq_true (by first | (with_reducible assumption) | assumption)
                                      obtain ⟨ad104, A104_4, c104_4, A104_6, c104_6, e104, hx104_0, hx104_1, hx104_2, hx104_3, hx104_4, hx104_5, hx104_6, hl104_4, hi104_4, hl104_6, hi104_6⟩ := at_T31 HR103_0.out x5_3 p104 q104
                                      cases e104
                                      replace hx104_0 := (HB.out.cell (World.block_lt_of_cell? w _ hx104_0)).trans hx104_0
                                      replace hx104_1 := (HB.out.cell (World.block_lt_of_cell? w _ hx104_1)).trans hx104_1
                                      replace hx104_2 := (HB.out.cell (World.block_lt_of_cell? w _ hx104_2)).trans hx104_2
                                      replace hx104_3 := (HB.out.cell (World.block_lt_of_cell? w _ hx104_3)).trans hx104_3
                                      replace hx104_4 := (HB.out.cell (World.block_lt_of_cell? w _ hx104_4)).trans hx104_4
                                      replace hx104_5 := (HB.out.cell (World.block_lt_of_cell? w _ hx104_5)).trans hx104_5
                                      replace hx104_6 := (HB.out.cell (World.block_lt_of_cell? w _ hx104_6)).trans hx104_6
                                      have HR104_4 := Aside0.mk hi104_4
                                      have HC104_4 := Aside0.mk hl104_4
                                      clear hi104_4 hl104_4
                                      have HR104_6 := Aside0.mk hi104_6
                                      have HC104_6 := Aside0.mk hl104_6
                                      clear hi104_6 hl104_6
                                      replace p104 := eq_true p104
                                      replace q104 := eq_true q104
                                      have p109 : 0 ≤ (x4_1 : Int) := of_decide_eq_true (by first | (with_reducible assumption) | assumption)
                                      have q109 : x4_1 < (l0.length : Int) := of_decide_eq_true (by first | (with_reducible assumption) | assumption)
                                      obtain ⟨ad109, A109_0, c109_0, e109, hx109_0, hx109_1, hl109_0, hi109_0⟩ := at_T25 HR0.out x4_1 p109 q109
                                      obtain rfl : ad101 = ad109 := (by injection e109)
                                      replace hx109_0 := (HB.out.cell (World.block_lt_of_cell? w _ hx109_0)).trans hx109_0
                                      replace hx109_1 := (HB.out.cell (World.block_lt_of_cell? w _ hx109_1)).trans hx109_1
                                      have HR109_0 := Aside0.mk hi109_0
                                      have HC109_0 := Aside0.mk hl109_0
                                      clear hi109_0 hl109_0
                                      replace p109 := eq_true p109
                                      replace q109 := eq_true q109
                                      have ea_ := Option.some.inj (hx103_0.symm.trans hx109_0)
                                      injection ea_ with ea_ en_ ec_
                                      subst ea_
                                      subst ec_
                                      clear en_
                                      have p110 : 0 ≤ (x5_3 : Int) := of_decide_eq_true (by first | (with_reducible assumption) | assumption)
                                      have q110 : x5_3 < (((rd_T25 l0 x4_1).f0).length : Int) := of_decide_eq_true (by first | (with_reducible assumption) | assumption)
                                      obtain ⟨ad110, A110_4, c110_4, A110_6, c110_6, e110, hx110_0, hx110_1, hx110_2, hx110_3, hx110_4, hx110_5, hx110_6, hl110_4, hi110_4, hl110_6, hi110_6⟩ := at_T31 HR109_0.out x5_3 p110 q110
                                      cases e110
                                      replace hx110_0 := (HB.out.cell (World.block_lt_of_cell? w _ hx110_0)).trans hx110_0
                                      replace hx110_1 := (HB.out.cell (World.block_lt_of_cell? w _ hx110_1)).trans hx110_1
                                      replace hx110_2 := (HB.out.cell (World.block_lt_of_cell? w _ hx110_2)).trans hx110_2
                                      replace hx110_3 := (HB.out.cell (World.block_lt_of_cell? w _ hx110_3)).trans hx110_3
                                      replace hx110_4 := (HB.out.cell (World.block_lt_of_cell? w _ hx110_4)).trans hx110_4
                                      replace hx110_5 := (HB.out.cell (World.block_lt_of_cell? w _ hx110_5)).trans hx110_5
                                      replace hx110_6 := (HB.out.cell (World.block_lt_of_cell? w _ hx110_6)).trans hx110_6
                                      have HR110_4 := Aside0.mk hi110_4
                                      have HC110_4 := Aside0.mk hl110_4
                                      clear hi110_4 hl110_4
                                      have HR110_6 := Aside0.mk hi110_6
                                      have HC110_6 := Aside0.mk hl110_6
                                      clear hi110_6 hl110_6
                                      replace p110 := eq_true p110
                                      replace q110 := eq_true q110
                                      go_wp2
                                      go_ret
                                      exact ⟨by first | rfl | (simp [errW_none, errW_some] <;> rfl) | (simp only [← hji7]; first | rfl | (simp [errW_none, errW_some] <;> rfl)) | (simp [*, errW_none, errW_some] <;> rfl), by repeat (first | (with_reducible first | exact HB.out | apply below_alloc | apply pw_below_drewN | apply below_drew1) | exact HB.out)⟩
                                    · rw [if_neg c20] at H
                                      have c20b0 : decide (5000 < (((rd_T31 ((rd_T25 l0 x4_1).f0) x5_3).f6).length : Int)) = false := decide_eq_false c20
                                      have c20b1 : decide (5000 < ((rd_T31 ((rd_T25 l0 x4_1).f0) x5_3).f6).length) = false := decide_eq_false (by omega)
                                      clear c20
                                      have H' := Aside0.mk H
                                      clear H
                                      have p103 : 0 ≤ (x4_1 : Int) := of_decide_eq_true (by first | (with_reducible assumption) | assumption)
                                      have q103 : x4_1 < (l0.length : Int) := of_decide_eq_true (by first | (with_reducible assumption) | assumption)
                                      obtain ⟨ad103, A103_0, c103_0, e103, hx103_0, hx103_1, hl103_0, hi103_0⟩ := at_T25 HR0.out x4_1 p103 q103
                                      obtain rfl : ad101 = ad103 := (by injection e103)
                                      replace hx103_0 := (HB.out.cell (World.block_lt_of_cell? w _ hx103_0)).trans hx103_0
                                      replace hx103_1 := (HB.out.cell (World.block_lt_of_cell? w _ hx103_1)).trans hx103_1
                                      have HR103_0 := Aside0.mk hi103_0
                                      have HC103_0 := Aside0.mk hl103_0
                                      clear hi103_0 hl103_0
                                      replace p103 := eq_true p103
                                      replace q103 := eq_true q103
                                      have p104 : 0 ≤ (x5_3 : Int) := of_decide_eq_true (by first | (with_reducible assumption) | assumption)
                                      have q104 : x5_3 < (((rd_T25 l0 x4_1).f0).length : Int) := of_decide_eq_true (by first | (with_reducible assumption) | assumption)
                                      obtain ⟨ad104, A104_4, c104_4, A104_6, c104_6, e104, hx104_0, hx104_1, hx104_2, hx104_3, hx104_4, hx104_5, hx104_6, hl104_4, hi104_4, hl104_6, hi104_6⟩ := at_T31 HR103_0.out x5_3 p104 q104
                                      cases e104
                                      replace hx104_0 := (HB.out.cell (World.block_lt_of_cell? w _ hx104_0)).trans hx104_0
                                      replace hx104_1 := (HB.out.cell (World.block_lt_of_cell? w _ hx104_1)).trans hx104_1
                                      replace hx104_2 := (HB.out.cell (World.block_lt_of_cell? w _ hx104_2)).trans hx104_2
                                      replace hx104_3 := (HB.out.cell (World.block_lt_of_cell? w _ hx104_3)).trans hx104_3
                                      replace hx104_4 := (HB.out.cell (World.block_lt_of_cell? w _ hx104_4)).trans hx104_4
                                      replace hx104_5 := (HB.out.cell (World.block_lt_of_cell? w _ hx104_5)).trans hx104_5
                                      replace hx104_6 := (HB.out.cell (World.block_lt_of_cell? w _ hx104_6)).trans hx104_6
                                      have HR104_4 := Aside0.mk hi104_4
                                      have HC104_4 := Aside0.mk hl104_4
                                      clear hi104_4 hl104_4
                                      have HR104_6 := Aside0.mk hi104_6
                                      have HC104_6 := Aside0.mk hl104_6
                                      clear hi104_6 hl104_6
                                      replace p104 := eq_true p104
                                      replace q104 := eq_true q104
                                      have p109 : 0 ≤ (x4_1 : Int) := of_decide_eq_true (by first | (with_reducible assumption) | assumption)
                                      have q109 : x4_1 < (l0.length : Int) := of_decide_eq_true (by first | (with_reducible assumption) | assumption)
                                      obtain ⟨ad109, A109_0, c109_0, e109, hx109_0, hx109_1, hl109_0, hi109_0⟩ := at_T25 HR0.out x4_1 p109 q109
                                      obtain rfl : ad101 = ad109 := (by injection e109)
                                      replace hx109_0 := (HB.out.cell (World.block_lt_of_cell? w _ hx109_0)).trans hx109_0
                                      replace hx109_1 := (HB.out.cell (World.block_lt_of_cell? w _ hx109_1)).trans hx109_1
                                      have HR109_0 := Aside0.mk hi109_0
                                      have HC109_0 := Aside0.mk hl109_0
                                      clear hi109_0 hl109_0
                                      replace p109 := eq_true p109
                                      replace q109 := eq_true q109
                                      have ea_ := Option.some.inj (hx103_0.symm.trans hx109_0)
                                      injection ea_ with ea_ en_ ec_
                                      subst ea_
                                      subst ec_
                                      clear en_
                                      have p110 : 0 ≤ (x5_3 : Int) := of_decide_eq_true (by first | (with_reducible assumption) | assumption)
                                      have q110 : x5_3 < (((rd_T25 l0 x4_1).f0).length : Int) := of_decide_eq_true (by first | (with_reducible assumption) | assumption)
                                      obtain ⟨ad110, A110_4, c110_4, A110_6, c110_6, e110, hx110_0, hx110_1, hx110_2, hx110_3, hx110_4, hx110_5, hx110_6, hl110_4, hi110_4, hl110_6, hi110_6⟩ := at_T31 HR109_0.out x5_3 p110 q110
                                      cases e110
                                      replace hx110_0 := (HB.out.cell (World.block_lt_of_cell? w _ hx110_0)).trans hx110_0
                                      replace hx110_1 := (HB.out.cell (World.block_lt_of_cell? w _ hx110_1)).trans hx110_1
                                      replace hx110_2 := (HB.out.cell (World.block_lt_of_cell? w _ hx110_2)).trans hx110_2
                                      replace hx110_3 := (HB.out.cell (World.block_lt_of_cell? w _ hx110_3)).trans hx110_3
                                      replace hx110_4 := (HB.out.cell (World.block_lt_of_cell? w _ hx110_4)).trans hx110_4
                                      replace hx110_5 := (HB.out.cell (World.block_lt_of_cell? w _ hx110_5)).trans hx110_5
                                      replace hx110_6 := (HB.out.cell (World.block_lt_of_cell? w _ hx110_6)).trans hx110_6
                                      have HR110_4 := Aside0.mk hi110_4
                                      have HC110_4 := Aside0.mk hl110_4
                                      clear hi110_4 hl110_4
                                      have HR110_6 := Aside0.mk hi110_6
                                      have HC110_6 := Aside0.mk hl110_6
                                      clear hi110_6 hl110_6
                                      replace p110 := eq_true p110
                                      replace q110 := eq_true q110
                                      go_wp2
                                      go_roundg kj7
                                      case measure => have := HK1.out; have := HJ1.out; have := HK3.out; have := HJ7.out; omega
                                      case rel => exact ⟨(wrap64 (x5_3 + 1)), (by first | rfl | (simp; done) | (simp [*]; done)), H', ⟨by have := HK1.out; have := HJ1.out; have := HK3.out; have := HJ7.out; omega⟩, ⟨by repeat (first | (with_reducible first | exact HB.out | apply below_alloc | apply pw_below_drewN | apply below_drew1) | exact HB.out)⟩⟩
                                · rw [if_neg c16] at H
                                  exact absurd H (by simp)
                              · rw [if_neg c15] at H
                                exact absurd H (by simp)
                            · rw [if_neg c14] at H
                              exact absurd H (by simp)
                          · rw [if_neg c13] at H
                            exact absurd H (by simp)
                        · replace c12 := Bool.eq_false_iff.mpr c12
                          subst c12
                          have H1 : (cirruslaw10_great.l0 kj7 l0 (wrap64 (x3_1 + (ji7))) (wrap64 (x4_1 + 1))) = some r := by rw [if_neg (show ¬ (false = true) by decide)] at H; exact H
                          clear H
                          have H := H1
                          clear H1
                          have H' := Aside0.mk H
                          clear H
                          go_wp2
                          go_roundg kj7
                          case measure => have := HK1.out; have := HJ1.out; have := HK3.out; have := HJ7.out; omega
                          case rel => exact ⟨((wrap64 (x3_1 + (ji7)))), (wrap64 (x4_1 + 1)), (by first | rfl | (simp; done) | (simp only [← hji7] <;> (first | rfl | simp)) | (simp [*]; done)), (by first | rfl | (simp; done) | (simp [*]; done)), H', ⟨by have := HK1.out; have := HJ1.out; have := HK3.out; have := HJ7.out; omega⟩, ⟨by repeat (first | (with_reducible first | exact HB.out | apply below_alloc | apply pw_below_drewN | apply below_drew1) | exact HB.out)⟩⟩
              · rw [if_neg c6] at H
                exact absurd H (by simp)
            · rw [if_neg c5] at H
              exact absurd H (by simp)
          · replace c4 := Bool.eq_false_iff.mpr c4
            subst c4
            have H1 : (if (l0.length : Int) > 20 then (some true) else (some (decide (x3_1 > 150)))) = some r := by rw [if_neg (show ¬ (false = true) by decide)] at H; exact H
            clear H
            have H := H1
            clear H1
            by_cases c21 : (l0.length : Int) > 20
            · rw [if_pos c21] at H
              have c21b0 : decide (20 < (l0.length : Int)) = true := decide_eq_true c21
              have c21b1 : decide (20 < l0.length) = true := decide_eq_true (by omega)
              clear c21
              obtain rfl := Option.some.inj H
              go_wp2
              go_ret
              exact ⟨by first | rfl | (simp [errW_none, errW_some] <;> rfl) | (simp [*, errW_none, errW_some] <;> rfl), by repeat (first | (with_reducible first | exact HB.out | apply below_alloc | apply pw_below_drewN | apply below_drew1) | exact HB.out)⟩
            · rw [if_neg c21] at H
              have c21b0 : decide (20 < (l0.length : Int)) = false := decide_eq_false c21
              have c21b1 : decide (20 < l0.length) = false := decide_eq_false (by omega)
              clear c21
              obtain rfl := Option.some.inj H
              go_wp2
              go_ret
              exact ⟨by first | rfl | (simp [errW_none, errW_some] <;> rfl) | (simp [*, errW_none, errW_some] <;> rfl), by repeat (first | (with_reducible first | exact HB.out | apply below_alloc | apply pw_below_drewN | apply below_drew1) | exact HB.out)⟩

-- NOT PRINTED: function 25 (catalog_Catalog_Made)

-- NOT PRINTED: function 42 (api_Deed_42)

-- NOT PRINTED: function 26 (api_Deed_26)

end Go.Proofs.Ytcfgcmjnailndaa.PCatalogKept
