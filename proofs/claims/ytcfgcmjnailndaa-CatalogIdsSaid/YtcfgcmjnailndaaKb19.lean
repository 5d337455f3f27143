/-
  The walk of CatalogIds.
-/
import Derived.Deep.DeepCutAuto
import Derived.Test.YtcfgcmjnailndaaKb18
namespace Go.Proofs.Ytcfgcmjnailndaa
open Go.RowKit Go.Proofs.Ytcfgcmjnailndaa.PCatalogKept Go.Proofs.YtcfgcmjnailndaaW.PrintWords Go.Proofs.YtcfgcmjnailndaaW.PrintLast Go.Proofs.YtcfgcmjnailndaaW.PrintMore
set_option maxRecDepth 100000 in
set_option maxHeartbeats 8000000 in
theorem ids_any (A0 : Option Addr) (c0 : Nat) (l : List SP) (w : World) (h0 : StepsRaw w A0 c0 l) :
    Calls Try.prog 7 #[.slice A0 l.length c0] w fun e w' => e = .returned (.bool true) ∧ Fr [] w w' := by
  have H0 := hid h0
  clear h0
  go_enter Try.func7, Try.ntmps7
  go_wp2_with fail
  refine (great_of H0.out).mono ?_
  rintro e w1 ⟨r, rfl, hp, f1⟩
  have F1 := hid f1
  have HP := hid hp
  clear f1 hp
  cases r with
  | true =>
    go_wp2_with (go_at_call 9; refine (awake_any _).mono ?_; rintro e w2 ⟨rfl, f2⟩)
    go_ret
    exact ⟨rfl, F1.out.then f2⟩
  | false =>
    have P0 := hid (HP.out rfl)
    clear HP
    obtain ⟨ss, hss⟩ : ∃ ss, ss = runBy Cat.new l := ⟨_, rfl⟩
    have hl20 := P0.out.len
    have hsl : ss.length ≤ 21 := by rw [hss]; have := new_len l; omega
    have hspos : 0 < ss.length := by rw [hss]; exact made_pos l
    have SOK : Hid (CatOk ss) := hid (by rw [hss]; exact made_ok P0.out)
    have SI : Hid (SInv ss) := hid (by rw [hss]; exact made_inv l)
    have HSS := hid hss
    clear hss
    go_wp2_with fail
    refine (made_any A0 c0 l _ ((H0.out.ok P0.out).fr F1.out)).mono ?_
    rintro e w3 ⟨cb, v, rfl, hlv, f3⟩
    rw [← HSS.out] at hlv
    have L3 := hid (hlv.after F1.out)
    have F3 := hid (F1.out.then f3)
    clear hlv f3 F1
    obtain ⟨T, hT⟩ : ∃ T, T = ss.map allOf := ⟨_, rfl⟩
    have HTL : Hid (T.length = ss.length) := hid (by rw [hT]; simp)
    have HT := hid hT
    clear hT
    go_wp2_with fail
    refine (states_any cb v ss _ L3.out.cat SOK.out (by omega)).mono ?_
    rintro e w5 ⟨uo, rfl, ho, f5, -⟩
    rw [← HT.out] at ho
    obtain ⟨A7, c7, e7⟩ := Kd.R_slice ho
    rw [HTL.out] at e7
    subst e7
    obtain ⟨ga, c7', e7, -⟩ := Kd.R_form ho (by have := HTL.out; omega)
    injection e7 with e7 e7b e7c
    subst e7
    clear e7b e7c
    rw [HT.out] at ho
    have O5 := hid ho
    have L5 := hid (L3.out.fr0 f5)
    have F5 := hid (F3.out.then f5)
    clear ho f5 L3 F3
    go_wp2
    go_loopw [4, 6] (fun hv i wr => ∃ (n : Nat) (hs : List Int), i = .int .i64 n ∧ n ≤ ss.length ∧ HomesAt w5 wr hv hs ∧ HomesOk ss hs) (fun _ i _ => ss.length - (intOf i).toNat)
    case atStart => exact ⟨0, [], rfl, Nat.zero_le _, ⟨Kd.R_nil _ _ _ _ _, fun k hk => by simp [Value.ownBlock] at hk, Fr.refl _ _⟩, fun q g hq => by simp at hq⟩
    case round => as_aux_lemma =>
      obtain ⟨n, hs, rfl, hn, hH, hO⟩ := hrel
      have HH := hid hH
      have HO := hid hO
      clear hH hO
      by_cases hlt : n < ss.length
      · obtain ⟨s, hsn⟩ : ∃ s, ss[n]? = some s := ⟨_, List.getElem?_eq_getElem hlt⟩
        have HSN := hid hsn
        have hs4 : s.f2.length ≤ 4000 := L5.out.cat.ents s (mem_of_state hsn)
        have EI := hid (SI.out.inv n s hsn)
        obtain ⟨An, cn, hRA⟩ := row_at O5.out hsn
        have RA := hid hRA
        have hn0 : (0 : Int) ≤ (n : Int) := by omega
        have hn1 : (n : Int) < (ss.length : Int) := by omega
        clear hsn hRA
        go_wp2
        go_loopw [4, 7] (fun hv i wq => ∃ (j : Nat) (hs : List Int), i = .int .i64 j ∧ j ≤ s.f2.length ∧ HomesAt w5 wq hv hs ∧ HomesOk ss hs ∧ j ≤ hs.length) (fun _ i _ => s.f2.length - (intOf i).toNat)
        case atStart => exact ⟨0, hs, rfl, Nat.zero_le _, HH.out, HO.out, Nat.zero_le _⟩
        case round => as_aux_lemma =>
          obtain ⟨j, hs, rfl, hj, hH, hO, hjh⟩ := hrel
          have HH := hid hH
          have HO := hid hO
          have ma := (RA.out.fr0 hH.fr).list
          clear hH hO
          by_cases hjl : j < s.f2.length
          · obtain ⟨y, hy⟩ : ∃ y, s.f2[j]? = some y := ⟨_, List.getElem?_eq_getElem hjl⟩
            obtain ⟨b1, o1, eA⟩ := RA.out.addr (by omega)
            subst eA
            obtain ⟨X3, x3, X4, x4, hY⟩ := RA.out.ent hy
            have HY := hid hY
            obtain ⟨m0, m1, m2, m3, m4, m5, m6, m7, m8⟩ := hY.fr0 HH.out.fr
            have hj0 : (0 : Int) ≤ (j : Int) := by omega
            have hj1 : (j : Int) < (s.f2.length : Int) := by omega
            have YM := hid hy
            obtain ⟨hb1, hb2⟩ := EI.out.born y (mem_of hy)
            obtain ⟨n0, hnn⟩ : ∃ n0, n = n0 + 1 := ⟨n - 1, by omega⟩
            have HNN := hid hnn
            obtain ⟨p, hp⟩ : ∃ p, ss[n0]? = some p := ⟨_, List.getElem?_eq_getElem (by omega)⟩
            obtain ⟨Ap, cp, hRP⟩ := row_at O5.out hp
            have RP := hid hRP
            have PM := hid hp
            have hidb : (y.f0.f0 == (j : Int) + 1) = true := by simp [EI.out.id j y hy]
            have hidn : (y.f0.f0 != (j : Int) + 1) = false := by simp [EI.out.id j y hy]
            have hB1 : decide (y.f0.f6 < 1) = false := by simp; omega
            have hB2 : decide ((n : Int) < y.f0.f6) = false := by simp; omega
            have hN : (0 : Int) < (n : Int) := by omega
            have hNb : decide ((0 : Int) < (n : Int)) = true := by simp; omega
            have hNc : 0 < n := by omega
            have hNd : decide (0 < n) = true := by simp; omega
            have hn00 : (0 : Int) ≤ (n0 : Int) := by omega
            have hn01 : (n0 : Int) < (ss.length : Int) := by omega
            have hw1 : IntKind.i64.wrap ((n : Int) - 1) = (n0 : Int) := by rw [IntWalk.i64_in _ (by omega)]; omega
            have hwj : IntKind.i64.wrap ((j : Int) + 1) = (j : Int) + 1 := IntWalk.i64_in _ (by omega)
            have B6 := hid (heap_alloc_new wr (.cells #[.int .i64 y.f0.f0, .string y.f0.f1, .string y.f0.f2, .slice X3 y.f0.f3.length x3, .slice X4 y.f0.f4.length x4, .int .i64 y.f0.f5, .int .i64 y.f0.f6, .int .i64 y.f0.f7, .int .i64 y.f0.f8] 49))
            have F6 := hid ((Fr.refl [] wr).alloc (.cells #[.int .i64 y.f0.f0, .string y.f0.f1, .string y.f0.f2, .slice X3 y.f0.f3.length x3, .slice X4 y.f0.f4.length x4, .int .i64 y.f0.f5, .int .i64 y.f0.f6, .int .i64 y.f0.f7, .int .i64 y.f0.f8] 49))
            clear hy hY hp hRP hb1 hb2 hnn
            obtain ⟨Ah, ch, eH⟩ := Kd.R_slice HH.out.row
            subst eH
            go_wp2_with fail
            obtain ⟨w6, hw6⟩ : ∃ w6, w6 = wr.alloc (.cells #[.int .i64 y.f0.f0, .string y.f0.f1, .string y.f0.f2, .slice X3 y.f0.f3.length x3, .slice X4 y.f0.f4.length x4, .int .i64 y.f0.f5, .int .i64 y.f0.f6, .int .i64 y.f0.f7, .int .i64 y.f0.f8] 49) := ⟨_, rfl⟩
            rw [← hw6] at B6 F6 ⊢
            clear hw6
            have H6 := hid (HH.out.fr0 F6.out)
            obtain ⟨eb, heb⟩ : ∃ eb, eb = wr.heap.size := ⟨_, rfl⟩
            rw [← heb] at B6 ⊢
            clear heb ma m0 m1 m2 m3 m4 m5 m6 m7 m8 HH F6
            go_cut [98] from 23 to 168 (fun r wx => r = .bool false ∧ ∃ q, wx = w6.drewN q)
            case first => as_aux_lemma =>
              have k0 := cell_of_row w6 eb 0 _ _ _ B6.out
              have k1 := cell_of_row w6 eb 1 _ _ _ B6.out
              have k2 := cell_of_row w6 eb 2 _ _ _ B6.out
              have k6 := cell_of_row w6 eb 6 _ _ _ B6.out
              have k8 := cell_of_row w6 eb 8 _ _ _ B6.out
              simp at k0 k1 k2 k6 k8
              have mp := (RP.out.fr0 H6.out.fr).list
              by_cases hpl : j < p.f2.length
              · obtain ⟨q, hq⟩ : ∃ q, p.f2[j]? = some q := ⟨_, List.getElem?_eq_getElem hpl⟩
                obtain ⟨y', hy', e6, -, ed⟩ := SI.out.kin n0 p s PM.out (by rw [← HNN.out]; exact HSN.out) j q hq
                rw [YM.out] at hy'; cases hy'
                obtain ⟨b0, o0, eA⟩ := RP.out.addr (Nat.lt_of_le_of_lt (Nat.zero_le _) hpl)
                subst eA
                obtain ⟨Z3, z3, Z4, z4, hQ⟩ := RP.out.ent hq
                obtain ⟨-, -, q2, -, -, -, q6, -, -⟩ := hQ.fr0 H6.out.fr
                have hpl1 : (j : Int) < (p.f2.length : Int) := Int.ofNat_lt.2 hpl
                have hq6 : (q.f0.f6 == y.f0.f6) = true := by simp [e6]
                have hq6n : (q.f0.f6 != y.f0.f6) = false := by simp [e6]
                have hq2 : q.f0.f2.toList.isEmpty = y.f0.f2.toList.isEmpty := by
                  unfold isDb at ed
                  rw [Bool.eq_iff_iff]; simpa using ed.symm
                clear hq e6 ed hQ
                go_quiet (fail)
                go_step
                go_step
                go_meet
                exact ⟨rfl, _, rfl⟩
              · have hpl1 : ¬ (j : Int) < (p.f2.length : Int) := fun h => hpl (Int.ofNat_lt.1 h)
                have hpl2 : decide ((j : Int) < (p.f2.length : Int)) = false := decide_eq_false hpl1
                go_quiet (fail)
                go_step
                go_step
                go_meet
                exact ⟨rfl, _, rfl⟩
            case rest => as_aux_lemma =>
              obtain ⟨rfl, nq, rfl⟩ := hcut
              generalize hw7 : w6.drewN nq = w7
              have f7 : Fr [] w6 w7 := by rw [← hw7]; exact (Fr.refl [] w6).drewN nq
              have H7 := hid (H6.out.fr0 f7)
              have B7 := hid (f7.blk B6.out (by simp))
              clear hw7 f7 H6 B6 PM RP
              go_upto_if 102 with (fail)
              go_cut [4] from 23 to 168 (fun hv' wx => ∃ hs', HomesAt w5 wx hv' hs' ∧ HomesOk ss hs' ∧ j < hs'.length ∧ wx.heap[eb]? = some (.cells #[.int .i64 y.f0.f0, .string y.f0.f1, .string y.f0.f2, .slice X3 y.f0.f3.length x3, .slice X4 y.f0.f4.length x4, .int .i64 y.f0.f5, .int .i64 y.f0.f6, .int .i64 y.f0.f7, .int .i64 y.f0.f8] 49 (0, 0)))
              case first => as_aux_lemma =>
                by_cases hjl2 : j < hs.length
                · have hj2 : (j : Int) < (hs.length : Int) := by omega
                  go_wp2
                  go_meet
                  exact ⟨hs, H7.out, HO.out, hjl2, B7.out⟩
                · obtain ⟨A1, c1, w8, hrun, h8, g8⟩ := H7.out.push (by omega)
                  have HRUN := hid hrun
                  have H8 := hid h8
                  have B8 := hid ((g8.block eb (blk_lt B7.out) (Kd.R_ne H7.out.row B7.out (by decide))).trans B7.out)
                  have hj2 : (hs.length : Int) ≤ (j : Int) := by omega
                  clear hrun h8 g8
                  go_wp2_with ((with_reducible refine gate_dst (N := 105) rfl ?_); refine step_append (v := .slice Ah hs.length ch) (y := .slice (some ⟨w7.heap.size, 0, none⟩) 1 1) (v1 := .slice A1 (hs.length + 1) c1) (w1 := w8) rfl (.tmp 103) (.tmp 104) 29 rfl rfl rfl HRUN.out ?_)
                  go_meet
                  exact ⟨hs ++ [0], H8.out, HO.out.push, by simp; omega, B8.out⟩
              case rest => as_aux_lemma =>
                obtain ⟨hs', h8, o8, hj8, b8⟩ := hcut
                obtain ⟨Ag, cg, eg⟩ := Kd.R_slice h8.row
                subst eg
                obtain ⟨g, eg, hg⟩ := h8.form (by omega)
                subst eg
                have H8 := hid h8
                have O8 := hid o8
                have B8 := hid b8
                clear h8 o8 b8 H7 B7 HO 
                generalize wc = w8 at *
                have k0 := cell_of_row w8 eb 0 _ _ _ B8.out
                have k1 := cell_of_row w8 eb 1 _ _ _ B8.out
                have k2 := cell_of_row w8 eb 2 _ _ _ B8.out
                have k3 := cell_of_row w8 eb 3 _ _ _ B8.out
                have k4 := cell_of_row w8 eb 4 _ _ _ B8.out
                have k5 := cell_of_row w8 eb 5 _ _ _ B8.out
                have k6 := cell_of_row w8 eb 6 _ _ _ B8.out
                have k7 := cell_of_row w8 eb 7 _ _ _ B8.out
                have k8 := cell_of_row w8 eb 8 _ _ _ B8.out
                simp at k0 k1 k2 k3 k4 k5 k6 k7 k8
                by_cases hT : y.f0.f2.toList = []
                · have hT1 : y.f0.f2.toList.isEmpty = true := by simp [hT]
                  clear hT
                  go_wp2
                  go_roundw
                  case rel => first | exact ⟨j + 1, hs', by go_num, by omega, H8.out, O8.out, by omega⟩ | ((repeat apply Exists.intro); exact ⟨⟨j + 1, hs', by go_num, by omega, H8.out, O8.out, by omega⟩, rfl⟩)
                  case measure => simp [intOf]; omega
                · have hT1 : y.f0.f2.toList.isEmpty = false := by simp [hT]
                  have HT := hid hT
                  clear hT
                  by_cases hG : y.f0.f8 = 0
                  · have hG1 : (y.f0.f8 != 0) = false := by simp [hG]
                    obtain ⟨b, hb, hH⟩ := EI.out.home y (mem_of YM.out) HT.out
                    obtain ⟨hi, hhi⟩ : ∃ hi : Nat, s.f2[hi]? = some b := List.mem_iff_getElem?.1 hb
                    have hf1 : y.f1 = (hi : Int) + 1 := by rw [← hH.id]; exact EI.out.id hi b hhi
                    obtain ⟨-, hbg, hbb⟩ := hH.live hG
                    have hhl := (List.getElem?_eq_some_iff.1 hhi).1
                    obtain ⟨D3, d3, D4, d4, hB⟩ := RA.out.ent hhi
                    have DB := hid hB
                    have hM := (home_any cb v ss n s y X3 x3 X4 x4 (some ⟨b1, o1, none⟩) cn w8.drew (L5.out.fr0 (H8.out.fr.drew)).cat SOK.out HSN.out EI.out (mem_of YM.out) HT.out hG ((RA.out.fr0 H8.out.fr.drew).read))
                    rw [all_len] at hM
                    unfold apiV at hM
                    rw [hG] at hM
                    have HM := hid hM
                    clear hM
                    have HF1 := hid hf1
                    have HBG := hid hbg
                    have HBB := hid hbb
                    have hG := hid hG
                    clear hb hH hhi hf1 hbg hbb hB
                    have ma := (RA.out.fr0 H8.out.fr).list
                    have hi0 : (0 : Int) ≤ (hi : Int) := by omega
                    have hi1 : (hi : Int) < (s.f2.length : Int) := by omega
                    have hwh : IntKind.i64.wrap ((hi : Int) + 1 - 1) = (hi : Int) := by rw [IntWalk.i64_in _ (by omega)]; omega
                    have hwh' : IntKind.i64.wrap (hi : Int) = (hi : Int) := IntWalk.i64_in _ (by omega)
                    have hh0 : ((hi : Int) + 1 == 0) = false := by simp; omega
                    have hh1 : ((hi : Int) + 1 != 0) = true := by simp; omega
                    have hj8' : (j : Int) < (hs'.length : Int) := by omega
                    go_wp2_with fail
                    go_still_tail 7, (by kernel_rfl)
                    change wpList _ _ _ _ _ w8.drew
                    go_wp2_with (go_at_call 22; refine HM.out.mono ?_; rintro e w9 ⟨rfl, f9⟩; rw [HF1.out]; have H9 := hid ((H8.out.fr0 (Fr.refl [] w8).drew).fr0 f9); have B9 := hid (f9.blk ((Fr.refl [] w8).drew.blk B8.out (by simp)) (by simp)); clear f9 ma k0 k1 k2 k3 k4 k5 k6 k7 k8 HM)
                    have k1 := cell_of_row w9 eb 1 _ _ _ B9.out
                    simp at k1
                    have ma := (RA.out.fr0 H9.out.fr).list
                    obtain ⟨-, kb, -, -, -, -, -, -, kg⟩ := DB.out.fr0 H9.out.fr
                    rw [← HBB.out] at kb
                    rw [HBG.out] at kg
                    obtain ⟨x, hx⟩ : ∃ x, hs'[j]? = some x := ⟨_, List.getElem?_eq_getElem hj8⟩
                    obtain ⟨kx, fx⟩ := H9.out.cell hx
                    have hxx : x = 0 ∨ x = (hi : Int) + 1 := by rw [← HF1.out, ← home_fixed SI.out HSN.out YM.out]; exact O8.out j x hx
                    clear hx
                    go_cut [164] from 23 to 168 (fun r wx => r = .bool false ∧ ∃ q, wx = w9.drewN q)
                    case first => as_aux_lemma =>
                      rcases hxx with rfl | rfl
                      · go_quiet (fail)
                        go_step
                        go_step
                        go_meet
                        exact ⟨rfl, _, rfl⟩
                      · go_quiet (fail)
                        go_step
                        go_step
                        go_meet
                        exact ⟨rfl, _, rfl⟩
                    case rest => as_aux_lemma =>
                      obtain ⟨rfl, nq9, rfl⟩ := hcut
                      generalize hw10 : w9.drewN nq9 = w10
                      have f10 : Fr [] w9 w10 := by rw [← hw10]; exact (Fr.refl [] w9).drewN nq9
                      have H10 := hid (H9.out.fr0 f10)
                      have ky := f10.cell0 kx
                      have fy : w10.frozen? ⟨g, j, none⟩ = false := by rw [← hw10]; exact fx
                      have P10 := hid (H10.out.put j ((hi : Int) + 1))
                      have O10 := hid (O8.out.put (j := j) (x := (hi : Int) + 1) (by rw [home_fixed SI.out HSN.out YM.out]; exact HF1.out.symm))
                      clear hw10 f10 kx fx kb kg k1 ma hxx
                      go_wp2
                      go_roundw
                      case rel => first | exact ⟨j + 1, hs'.set j ((hi : Int) + 1), by go_num, by omega, P10.out, O10.out, by simp; omega⟩ | ((repeat apply Exists.intro); exact ⟨⟨j + 1, hs'.set j ((hi : Int) + 1), by go_num, by omega, P10.out, O10.out, by simp; omega⟩, rfl⟩)
                      case measure => simp [intOf]; omega
                  · have hG1 : (y.f0.f8 != 0) = true := by simp [hG]
                    go_wp2
                    go_roundw
                    case rel => first | exact ⟨j + 1, hs', by go_num, by omega, H8.out, O8.out, by omega⟩ | ((repeat apply Exists.intro); exact ⟨⟨j + 1, hs', by go_num, by omega, H8.out, O8.out, by omega⟩, rfl⟩)
                    case measure => simp [intOf]; omega
          · obtain rfl : j = s.f2.length := by omega
            go_wp2
            go_roundw
            case rel => first | exact ⟨n + 1, hs, by go_num, by omega, HH.out, HO.out⟩ | ((repeat apply Exists.intro); exact ⟨⟨n + 1, hs, by go_num, by omega, HH.out, HO.out⟩, rfl⟩)
            case measure => simp [intOf]; omega
      · obtain rfl : n = ss.length := by omega
        go_wp2_with (go_at_call 9; refine (awake_any _).mono ?_; rintro e w7 ⟨rfl, f7⟩; have F7 := hid f7; clear f7)
        go_ret
        exact ⟨rfl, (F5.out.then HH.out.fr).then F7.out⟩
end Go.Proofs.Ytcfgcmjnailndaa
