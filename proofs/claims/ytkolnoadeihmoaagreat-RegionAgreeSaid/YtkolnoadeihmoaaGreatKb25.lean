/-
  RegionAcked: the walk.
-/
import Derived.Test.YtkolnoadeihmoaaGreatKb24
namespace Go.Proofs.YtkolnoadeihmoaaGreat
open Go.RowKit Go.Proofs.YtkolnoadeihmoaaGreatW.PrintWords
theorem reg_field3 (p : ByteArray) (en an : Int) (A : Option Addr) (n c : Nat) (W : World) : (Instr.field 48 (.agg #[.string p, .int .i64 en, .int .i64 an, .slice A n c]) 2).run Tryz.prog W = .ok (.int .i64 an) W := by kernel_rfl
theorem C_take {α : Type} {d : Kd α} {w : World} {A : Option Addr} {n : Nat} {xs : List α} (h : Kd.C d w A n xs) {k : Nat} (hk : k ≤ n) : Kd.C d w A k (xs.take k) := row_take h k hk
theorem new_acked {names : List ByteArray} {need : Int} {R : RG} (h : Reg.newBy wordB names need = (some R, 0)) : R.acked = 0 := by
  unfold Reg.newBy at h
  split at h
  · cases h
  · split at h
    · cases h
    · split at h
      · cases h
      · cases h
        rfl
structure FrontAt (w : World) (v : Value) (S : List LO) : Prop where
  out : ∃ A c L, v = .slice A S.length c ∧ S.length ≤ c ∧ S.length ≤ L.length ∧ L.take S.length = S ∧ kLo.R 40 w 0 (fun _ => True) (.slice A L.length c) L
theorem FrontAt.nil (w : World) : FrontAt w (.slice none 0 0) [] := ⟨none, 0, [], rfl, Nat.le_refl _, Nat.le_refl _, rfl, Kd.R_nil _ _ _ _ _⟩
set_option maxRecDepth 100000 in
set_option maxHeartbeats 16000000 in
theorem acked_any (An : Option Addr) (cn : Nat) (names : List ByteArray) (need : Int) (Al : Option Addr) (cl : Nat) (l : List SP) (w : World)
    (hN : Kd.C Kd.string w An names.length names) (hNs : ∀ s ∈ names, s.size ≤ maxLen) (hL : Kd.C kP w Al l.length l) (hLs : ∀ y ∈ l, StepIn y) :
    Calls Tryz.prog 4 #[.slice An names.length cn, .int .i64 need, .slice Al l.length cl] w fun e w' => e = .returned (.bool true) ∧ Fr [] w w' := by
  have HN := hid hN
  have HL := hid hL
  have HNS := hid hNs
  have HLS := hid hLs
  have hmN := Kd.C_max hN
  have hmL := Kd.C_max hL
  have AWK := hid (fun (W : World) (f : Fr [] w W) => (awake_any W).mono (R' := fun e w' => e = .returned (.bool true) ∧ Fr [] w w') (fun e w' ⟨h1, h2⟩ => ⟨h1, f.then h2⟩))
  have hfld := reg_field3
  clear hN hL hNs hLs
  go_enter Tryz.func4, Tryz.ntmps4
  go_wp2_with fail
  refine (great_any Al cl l w HL.out).mono ?_
  rintro e wb ⟨bg, rfl, hbg, fb⟩
  have FB := hid fb
  have HBG := hid hbg
  clear fb hbg
  cases bg with
  | true =>
    go_wp2_with fail
    refine (AWK.out _ FB.out).mono ?_
    rintro e w' ⟨rfl, f⟩
    go_wp2
    go_ret
    exact ⟨rfl, f⟩
  | false =>
    have hl60 := HBG.out rfl
    by_cases h50 : 50 < names.length
    · have q1 : decide ((50 : Int) < (names.length : Int)) = true := decide_eq_true (by omega)
      go_wp2_with fail
      refine (AWK.out _ FB.out).mono ?_
      rintro e w' ⟨rfl, f⟩
      go_wp2
      go_ret
      exact ⟨rfl, f⟩
    · have q1 : decide ((50 : Int) < (names.length : Int)) = false := decide_eq_false (by omega)
      go_wp2_with fail
      have hnew := new_any An cn names need wb (Kd.C_below HN.out FB.out.below0) HNS.out (by omega)
      cases hnb : Reg.newBy (α := LO) wordB names need with
      | mk o er =>
        rw [hnb] at hnew
        cases o with
        | none =>
          have her := new_none hnb
          have her' : (er == 0) = false := by simpa using her
          clear hnb
          refine hnew.mono ?_
          rintro e wd ⟨rfl, fd⟩
          have FD := hid (FB.out.then fd)
          clear fd hnew
          go_wp2_with fail
          refine (AWK.out _ FD.out).mono ?_
          rintro e w' ⟨rfl, f⟩
          go_wp2
          go_ret
          exact ⟨rfl, f⟩
        | some R =>
          obtain rfl := new_errs hnb
          have HNB := hid hnb
          clear hnb
          refine hnew.mono ?_
          rintro e wd ⟨rb, mb, us, rfl, hd, fd, od⟩
          have AW := hid (show AwAt w wd rb mb us R 0 from ⟨new_live HNB.out HNS.out hd, fun b hb => Nat.le_trans FB.out.size (od b hb), FB.out.then fd⟩)
          have S0 := hid (show said R = [] by
            have h := said_len AW.out.live.inv
            have h1 := new_acked HNB.out
            exact List.eq_nil_of_length_eq_zero (by omega))
          clear hd fd od hnew
          go_wp2_with fail
          go_loopw [9, 10] (fun av i wr => ∃ (k : Nat) (us' : List (Nat × Value)), i = .int .i64 k ∧ k ≤ l.length ∧ AwAt w wr rb mb us' (runK R l k) k ∧ FrontAt wr av (said (runK R l k))) (fun _ i _ => l.length - (intOf i).toNat)
          case atStart => exact ⟨0, us, rfl, Nat.zero_le _, by rw [runK_0]; exact AW.out, by rw [runK_0, S0.out]; exact FrontAt.nil _⟩
          case round =>
            obtain ⟨k, us', rfl, hk, hA, hV⟩ := hrel
            have HA := hid hA
            have HV := hid hV
            clear hA hV
            by_cases hlt : k < l.length
            · obtain ⟨y, hy⟩ : ∃ y, l[k]? = some y := ⟨_, List.getElem?_eq_getElem hlt⟩
              obtain ⟨sb, so, B0', b0', B2', b2', eA, ⟨d0, d1, d2, d3, d4, d5, d6, d7⟩, r0, r2⟩ := steps_at HL.out hy
              subst eA
              obtain ⟨FA, fc, L, ev, hfc, hfl, hft, hfr⟩ := HV.out.out
              obtain ⟨S, hS⟩ : ∃ S, S = said (runK R l k) := ⟨_, rfl⟩
              rw [← hS] at ev hfc hfl hft
              subst ev
              have HS := hid hS
              have HFT := hid hft
              have HFR := hid hfr
              obtain ⟨R1, hR1⟩ : ∃ R1, R1 = runK R l k := ⟨_, rfl⟩
              have hm0 : (0 : Int) ≤ (k : Int) := by omega
              have hm1 : (k : Int) < (l.length : Int) := by omega
              have HY := hid hy
              have HX := hid (HLS.out y (List.mem_iff_getElem?.2 ⟨k, hy⟩))
              have KR0 := hid r0
              have KR2 := hid r2
              have hstep := runK_step (R := R) hy
              rw [← hR1] at hstep HA HS
              have HST := hid hstep
              have D := hid (⟨d0, d1, d2, d3, d4, d5, d6, d7⟩ : _ ∧ _ ∧ _ ∧ _ ∧ _ ∧ _ ∧ _ ∧ _)
              clear r0 r2 hy hft hfr hS hR1 hstep d0 d1 d2 d3 d4 d5 d6 d7
              go_wp2_with fail
              refine (primary_any rb mb k us' R1 _ HA.out.live).mono ?_
              rintro e w3 ⟨v3, rfl, r3, f3, -⟩
              obtain ⟨PA, pc, rfl⟩ := Kd.R_slice r3
              have A3 := hid (HA.out.fr0 f3)
              have FR3 := hid (R_fr0 HFR.out f3)
              clear f3 r3
              obtain ⟨d0, d1, d2, d3, d4, d5, d6, d7⟩ := D.out
              have d0 := A3.out.fr.cell0 d0
              have d1 := A3.out.fr.cell0 d1
              have d2 := A3.out.fr.cell0 d2
              have d3 := A3.out.fr.cell0 d3
              have d4 := A3.out.fr.cell0 d4
              have d5 := A3.out.fr.cell0 d5
              have d6 := A3.out.fr.cell0 d6
              have d7 := A3.out.fr.cell0 d7
              have HDO := hid (A3.out.do (by omega) HX.out b0' b2' (A3.out.keepC KR0.out) (A3.out.keepC KR2.out))
              go_wp2_with fail
              refine HDO.out.mono ?_
              rintro e w5 ⟨us5, rfl, h5, f5⟩
              have A5 := hid h5
              have FR5 := hid (rows_stay eLo A3.out.live.at_ FR3.out f5)
              have HK := hid (Reg.do_keeps (word := wordB) (valid := logB) HA.out.live.inv (callOf y))
              have HSAY := hid (fun h1 h2 h3 m => fail_step (R := R1) (x := callOf y) HA.out.live.inv h1 h2 h3 (m := m))
              unfold pairV
              clear h5 f5 d0 d1 d2 d3 d4 d5 d6 d7 HDO
              rw [HST.out] at A5 HK
              generalize (Reg.doBy wordB logB R1 (callOf y)).1 = P at HSAY ⊢
              obtain ⟨m, er⟩ := P
              generalize hR2 : runK R l (k + 1) = R2 at A5 HK
              have HR2 := hid hR2
              clear hR2
              obtain ⟨s1, s2, s3, s4⟩ := said_step HA.out.live.inv HK.out
              rw [← HS.out] at s1 s2 s3
              have hsl := said_len HA.out.live.inv
              rw [← HS.out] at hsl
              obtain ⟨K, hK⟩ : ∃ K : Nat, R2.acked = (K : Int) := ⟨R2.acked.toNat, by omega⟩
              have s1' := hid s1
              have HKK := hid hK
              go_wp2_with fail
              refine (primary_any rb mb (k + 1) us5 R2 _ A5.out.live).mono ?_
              rintro e w6 ⟨v6, rfl, r6, f6, -⟩
              obtain ⟨LB, lc, rfl⟩ := Kd.R_slice r6
              have hcap := (kLo_C r6).2.1
              have A6 := hid (A5.out.fr0 f6)
              have LR := hid r6
              have FR6 := hid (R_fr0 FR5.out f6)
              clear f6 r6 s1
              go_wp2_with fail
              refine (A6.out.state R2.primary R2.epoch (K : Int) rfl rfl HKK.out).mono ?_
              rintro e w7 ⟨SA, sn, sc, rfl, f7⟩
              have A7 := hid (A6.out.fr0 f7)
              have LR7 := hid (R_fr0 LR.out f7)
              have FR7 := hid (R_fr0 FR6.out f7)
              clear f7
              have hn1 : (S.length : Int) ≤ ((logsOf R2).length : Int) := by omega
              have hn2 : (S.length : Int) ≤ (lc : Int) := by omega
              have hn0 : (0 : Int) ≤ (S.length : Int) := by omega
              have q2 : decide (((logsOf R2).length : Int) < (S.length : Int)) = false := decide_eq_false (by omega)
              have q2n : ¬ (logsOf R2).length < S.length := by omega
              have hK0 : (0 : Int) ≤ (K : Int) := by omega
              have hK1 : (K : Int) ≤ ((logsOf R2).length : Int) := by omega
              have hK2 : (K : Int) ≤ (lc : Int) := by omega
              have q3 : decide ((K : Int) < (S.length : Int)) = false := decide_eq_false (by omega)
              have q3n : ¬ K < S.length := by omega
              have q4 : decide (((logsOf R2).length : Int) < (K : Int)) = false := decide_eq_false (by omega)
              have q4n : ¬ (logsOf R2).length < K := by omega
              clear s2 s3 s4 hK hsl
              have c0 : Kd.C k40 w7 LB S.length S := by
                have := C_take (kLo_C LR7.out).2.2 (k := S.length) (by omega)
                rwa [s1'.out] at this
              have c1 : Kd.C k40 w7 FA S.length S := by
                have := C_take (kLo_C FR7.out).2.2 (k := S.length) hfl
                rwa [HFT.out] at this
              have CC0 := hid c0
              have CC1 := hid c1
              have hsm := Kd.C_max c0
              clear c0 c1
              go_wp2_with fail
              refine (slogs_any LB lc FA fc S w7 CC0.out CC1.out hsm).mono ?_
              rintro e w8 ⟨rfl, f8⟩
              have A8 := hid (A7.out.fr0 f8)
              have LR8 := hid (R_fr0 LR7.out f8)
              clear f8
              have d0 := A8.out.fr.cell0 D.out.1
              have e1 : ([114, 101, 99, 111, 114, 100] : List UInt8) = Reg.kRecord.toList := by decide +kernel
              have e2 : ([115, 104, 105, 112] : List UInt8) = Reg.kShip.toList := by decide +kernel
              have e3 : ([115, 101, 116] : List UInt8) = Reg.kSet.toList := by decide +kernel
              have HEND := hid (show FrontAt w8 (.slice LB K lc) (said R2) by
                have h1 := said_len A8.out.live.inv
                rw [HKK.out] at h1
                have h2 : (said R2).length = K := by omega
                have h3 := said_take (R := R2) HKK.out
                refine ⟨LB, lc, logsOf R2, by rw [h2], by omega, by omega, by rw [h2]; exact h3, LR8.out⟩)
              by_cases a1 : y.f0 = Reg.kRecord
              · have b1 : (y.f0.toList == [114, 101, 99, 111, 114, 100]) = true := by rw [e1, a1]; simp
                clear a1 e1 e2 e3 HSAY
                go_wp2
                go_roundw
                case rel => exact ⟨k + 1, us5, by go_num, by omega, by rw [HR2.out]; exact A8.out, by rw [HR2.out]; exact HEND.out⟩
                case measure => simp [intOf]; omega
              · have b1 : (y.f0.toList == [114, 101, 99, 111, 114, 100]) = false := by rw [e1]; exact list_beq a1
                by_cases a2 : y.f0 = Reg.kShip
                · have b2 : (y.f0.toList == [115, 104, 105, 112]) = true := by rw [e2, a2]; simp
                  clear a1 a2 e1 e2 e3 HSAY
                  go_wp2
                  go_roundw
                  case rel => exact ⟨k + 1, us5, by go_num, by omega, by rw [HR2.out]; exact A8.out, by rw [HR2.out]; exact HEND.out⟩
                  case measure => simp [intOf]; omega
                · have b2 : (y.f0.toList == [115, 104, 105, 112]) = false := by rw [e2]; exact list_beq a2
                  by_cases a3 : y.f0 = Reg.kSet
                  · have b3 : (y.f0.toList == [115, 101, 116]) = true := by rw [e3, a3]; simp
                    clear a1 a2 a3 e1 e2 e3 HSAY
                    go_wp2
                    go_roundw
                    case rel => exact ⟨k + 1, us5, by go_num, by omega, by rw [HR2.out]; exact A8.out, by rw [HR2.out]; exact HEND.out⟩
                    case measure => simp [intOf]; omega
                  · have b3 : (y.f0.toList == [115, 101, 116]) = false := by rw [e3]; exact list_beq a3
                    by_cases her : er = 0
                    · subst her
                      obtain ⟨g1, g2⟩ := HSAY.out a1 a2 a3 m rfl
                      rw [← HS.out] at g2
                      have hl1 := logs_le HA.out.live.inv
                      have q5 : decide (m < 0) = false := decide_eq_false (by omega)
                      have q5p : ¬ m < 0 := by omega
                      have hw : IntKind.i64.wrap (((logsOf R1).length : Int) - m) = ((logsOf R1).length : Int) - m := IntWalk.i64_in _ (by omega)
                      have q6 : decide (((logsOf R1).length : Int) - m < (S.length : Int)) = false := decide_eq_false (by omega)
                      clear a1 a2 a3 e1 e2 e3 HSAY
                      go_wp2
                      go_roundw
                      case rel => exact ⟨k + 1, us5, by go_num, by omega, by rw [HR2.out]; exact A8.out, by rw [HR2.out]; exact HEND.out⟩
                      case measure => simp [intOf]; omega
                    · have her' : (er == 0) = false := by simpa using her
                      clear a1 a2 a3 e1 e2 e3 HSAY her
                      go_wp2
                      go_roundw
                      case rel => exact ⟨k + 1, us5, by go_num, by omega, by rw [HR2.out]; exact A8.out, by rw [HR2.out]; exact HEND.out⟩
                      case measure => simp [intOf]; omega
            · obtain rfl : k = l.length := by omega
              go_wp2_with fail
              refine (AWK.out _ HA.out.fr).mono ?_
              rintro e w' ⟨rfl, f⟩
              go_wp2
              go_ret
              exact ⟨rfl, f⟩
end Go.Proofs.YtkolnoadeihmoaaGreat
