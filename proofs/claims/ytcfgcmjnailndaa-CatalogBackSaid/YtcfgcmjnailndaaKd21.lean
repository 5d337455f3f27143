/-
  The walk of CatalogBack.
-/
import Derived.Test.YtcfgcmjnailndaaKd19
import Derived.Test.YtcfgcmjnailndaaKd20
namespace Go.Proofs.Ytcfgcmjnailndaa
open Go.RowKit Go.Proofs.Ytcfgcmjnailndaa.PCatalogKept Go.Proofs.YtcfgcmjnailndaaW.PrintWords Go.Proofs.YtcfgcmjnailndaaW.PrintLast Go.Proofs.YtcfgcmjnailndaaW.PrintMore
theorem CatAt.box {w w' : World} {cb : Nat} {v : Value} {ss : List ST} (h : CatAt w cb v ss) (f : Fr (cb :: v.ownBlock.toList) w w') {b : Nat} {cs : Array Value} {t : TypeId} (hb : w.heap[b]? = some (.cells cs t (0, 0))) (ht : t ≠ 58 ∧ t ≠ 71) : w'.heap[b]? = some (.cells cs t (0, 0)) :=
 f.blk hb (h.notin hb ht)
theorem deed_zero {w : World} {x : DE} (h4 : x.f4 = []) (h6 : x.f6 = []) : DeedMem w x none 0 none 0 := by
 refine ⟨?_, ?_⟩
 ·rw [h4]; exact Kd.R_nil _ _ _ _ _
 ·rw [h6]; exact Kd.R_nil _ _ _ _ _
theorem deed_swap (d : Dr) (es : List EN) (b t o : ByteArray) : deedBy d es (dSwap b t o) = swap es (dSwap b t o) := by
 unfold deedBy
 rw [if_neg (show ¬ (dSwap b t o).f0 = kCreate by show ¬ kSwap = kCreate; decide), if_neg (show ¬ (dSwap b t o).f0 = kDrop by show ¬ kSwap = kDrop; decide), if_neg (show ¬ (dSwap b t o).f0 = kUndrop by show ¬ kSwap = kUndrop; decide), if_neg (show ¬ (dSwap b t o).f0 = kRename by show ¬ kSwap = kRename; decide), if_pos (show (dSwap b t o).f0 = kSwap from rfl)]
theorem deed_drop (d : Dr) (es : List EN) (b t : ByteArray) : deedBy d es (dDrop b t) = drop d es (dDrop b t) := by
 unfold deedBy
 rw [if_neg (show ¬ (dDrop b t).f0 = kCreate by show ¬ kDrop = kCreate; decide), if_pos (show (dDrop b t).f0 = kDrop from rfl)]
theorem deed_back (d : Dr) (es : List EN) (b t : ByteArray) : deedBy d es (dBack b t) = undrop d es (dBack b t) := by
 unfold deedBy
 rw [if_neg (show ¬ (dBack b t).f0 = kCreate by show ¬ kUndrop = kCreate; decide), if_neg (show ¬ (dBack b t).f0 = kDrop by show ¬ kUndrop = kDrop; decide), if_pos (show (dBack b t).f0 = kUndrop from rfl)]
theorem swap_again {ss : List ST} {b t o : ByteArray} {time : Int} {es : List EN} (hI : SInv ss) (hl : ss.length ≤ 21) (h4 : (lastOf ss).f2.length ≤ 4000) (hw : Went ss [dSwap b t o] time es) :
  commitBy (ss ++ [(⟨time, [dSwap b t o], es⟩ : ST)]) [dSwap b t o] time = (((ss.length : Int) + 1, 0), ss ++ [(⟨time, [dSwap b t o], es⟩ : ST)] ++ [(⟨time, [dSwap b t o], (lastOf ss).f2⟩ : ST)]) := by
 have hv := hw.valid _ (List.mem_singleton.2 rfl)
 have v := valid_v hv
 obtain ⟨h1, -, h3⟩ := done_is hw.done
 have h3' := h3 0 _ rfl
 have hb : bigBy ⟨ss.length, time, ss.map (·.f0)⟩ (lastOf ss).f2 [dSwap b t o] = (swap (lastOf ss).f2 (dSwap b t o)).2 := by
  show (deedBy _ _ _).2 = _
  rw [deed_swap]
 have h0 : (swap (lastOf ss).f2 (dSwap b t o)).1 = 0 := by
  rw [← deed_swap ⟨ss.length, time, ss.map (·.f0)⟩]
  exact h3'
 rw [hb] at h1
 have hst := swap_twice (hI.inv _ _ (last_at hI.pos)) (v.tab (.inl rfl)) (v.dest (.inr rfl)) h0
 rw [← h1] at hst
 have hc := hw.late
 have := commit_one (ss := ss ++ [(⟨time, [dSwap b t o], es⟩ : ST)]) (x := dSwap b t o) (time := time) (es' := (lastOf ss).f2) hv (by
  unfold checkTime at hc ⊢
  rw [last_append]
  split at hc
  ·exact absurd hc (by decide)
  ·rw [if_neg]; dsimp only; omega) (by simp; omega) (by rw [deed_swap, last_append]; exact hst) h4
 rw [this]
 simp
set_option maxRecDepth 100000 in
set_option maxHeartbeats 6000000 in
theorem back_any (A0 : Option Addr) (c0 : Nat) (l : List SP) (base table other : ByteArray) (time later : Int) (w : World) (h0 : StepsRaw w A0 c0 l) (hsb : base.size ≤ maxLen) (hst : table.size ≤ maxLen) (hso : other.size ≤ maxLen) :
  Calls Try.prog 6 #[.slice A0 l.length c0, .string base, .string table, .string other, .int .i64 time, .int .i64 later] w fun e w' => e = .returned (.bool true) ∧ Fr [] w w' := by
 have H0 := hid h0
 have HSB := hid hsb
 have HST := hid hst
 have HSO := hid hso
 clear h0 hsb hst hso
 go_enter Try.func6, Try.ntmps6
 go_wp2_with fail
 refine (great_of H0.out).mono ?_
 rintro e w1 ⟨r, rfl, hp, f1⟩
 have F1 := hid f1
 have HP := hid hp
 clear f1 hp
 cases r with
 | true =>
  go_wp2_with (go_at_call 9; refine (awake_any _).mono ?_; rintro e w2 ⟨rfl, f2⟩)
  go_ret
  exact ⟨rfl, F1.out.then f2⟩
 | false =>
  have P0 := hid (HP.out rfl)
  clear HP
  obtain ⟨ss, hss⟩ : ∃ ss, ss = runBy Cat.new l := ⟨_, rfl⟩
  have hl20 := P0.out.len
  have hsl : ss.length ≤ 21 := by rw [hss]; have := new_len l; omega
  have hspos : 0 < ss.length := by rw [hss]; exact made_pos l
  have SOK : Hid (CatOk ss) := hid (by rw [hss]; exact made_ok P0.out)
  have SI : Hid (SInv ss) := hid (by rw [hss]; exact made_inv l)
  have HSS := hid hss
  clear hss
  go_wp2_with fail
  refine (made_any A0 c0 l _ ((H0.out.ok P0.out).fr F1.out)).mono ?_
  rintro e w3 ⟨cb, v, rfl, hlv, f3⟩
  rw [← HSS.out] at hlv
  have L3 := hid (hlv.after F1.out)
  have F3 := hid (F1.out.then f3)
  clear hlv f3 F1
  obtain ⟨g2, cc, hu2, -, -⟩ := L3.out.cat.form
  subst hu2
  have CN := hid (fun (W : World) (f : Fr [] w3 W) => count_yes cb _ ss.length cc W (L3.out.cat.fr0 f).c0 hspos (by omega))
  obtain ⟨r, hr⟩ : ∃ r, r = findBy ss ((ss.length : Int) - 1) base table := ⟨_, rfl⟩
  have FI := hid (fun (W : World) (f : Fr [] w3 W) => found_any cb _ ss ((ss.length : Int) - 1) base table W (L3.out.cat.fr0 f) SOK.out HSB.out HST.out)
  rw [← hr] at FI
  have HR := hid hr
  clear hr
  obtain ⟨a, er⟩ := r
  go_wp2_with (go_at_call 13; refine (CN.out _ (Fr.refl _ _)).mono ?_; rintro e w4 ⟨rfl, rfl⟩)
  refine (FI.out _ (Fr.refl _ _)).mono ?_
  rintro e w4 ⟨A3, c3, A4, c4, rfl, -, -, f4⟩
  unfold apiV
  dsimp only
  have F4 := hid (F3.out.then f4)
  have G4 := hid f4
  clear f4
  by_cases her : er = 0
  ·subst her
   obtain ⟨hnm, i, y, hi, hy, rfl⟩ := find_ok hspos HR.out.symm
   have HNM := hid hnm
   have HI := hid hi
   have HY := hid hy
   have EI := hid (SI.out.inv _ _ (last_at hspos))
   have h4000 : (lastOf ss).f2.length ≤ 4000 := L3.out.cat.ents _ (last_mem hspos)
   clear hnm hi hy FI HR
   go_wp2_with fail
   obtain ⟨w5, hw5⟩ : ∃ w5, w5 = w4.alloc (.cells #[.int .i64 y.f0.f0, .string y.f0.f1, .string y.f0.f2, .slice A3 y.f0.f3.length c3, .slice A4 y.f0.f4.length c4, .int .i64 y.f0.f5, .int .i64 y.f0.f6, .int .i64 y.f0.f7, .int .i64 y.f0.f8] 49) := ⟨_, rfl⟩
   have B5 : Hid (w5.heap[w4.heap.size]? = some (.cells #[.int .i64 y.f0.f0, .string y.f0.f1, .string y.f0.f2, .slice A3 y.f0.f3.length c3, .slice A4 y.f0.f4.length c4, .int .i64 y.f0.f5, .int .i64 y.f0.f6, .int .i64 y.f0.f7, .int .i64 y.f0.f8] 49 (0, 0))) := hid (by rw [hw5]; exact heap_alloc_new w4 _)
   have G5 : Hid (Fr [] w4 w5) := hid (by rw [hw5]; exact (Fr.refl [] w4).alloc _)
   rw [← hw5]
   clear hw5
   obtain ⟨eb, heb⟩ : ∃ eb, eb = w4.heap.size := ⟨_, rfl⟩
   rw [← heb] at B5 ⊢
   clear heb
   have F5 := hid (F4.out.then G5.out)
   have L5 := hid (L3.out.fr0 (G4.out.then G5.out))
   have CN5 := hid (fun (W : World) (f : Fr [] w5 W) => CN.out W ((G4.out.then G5.out).then f))
   have LA := hid (fun (W : World) (f : Fr [] w5 W) => list_any cb _ ss ((ss.length : Int) - 1) W (L5.out.cat.fr0 f) SOK.out)
   rw [list_last hspos rfl] at LA
   obtain ⟨T, hT⟩ : ∃ T, T = picked isThere (lastOf ss).f2 := ⟨_, rfl⟩
   rw [← hT] at LA
   have hTl : T.length ≤ 4000 := by rw [hT]; exact Nat.le_trans (picked_len _ _) h4000
   have TM : Hid (∀ z ∈ T, Mild z) := hid (fun z hz => by
    rw [hT] at hz
    obtain ⟨u, hu, rfl⟩ := List.mem_map.1 hz
    exact SOK.out.ents _ (last_mem hspos) u (List.mem_filter.1 hu).1)
   have HT := hid hT
   clear hT L3 F3 F4 G4 G5 CN
   go_wp2_with (go_at_call 13; refine (CN5.out _ (Fr.refl _ _)).mono ?_; rintro e w6 ⟨rfl, rfl⟩)
   refine (LA.out _ (Fr.refl _ _)).mono ?_
   rintro e w6 ⟨ut, rfl, rt, f6, -⟩
   obtain ⟨At, ct, e7, lt, -⟩ := api_reads rt
   subst e7
   have RT6 := hid rt
   have F6 := hid (F5.out.then f6)
   have B6 := hid (f6.blk B5.out (by simp))
   have L6 := hid (L5.out.fr0 f6)
   clear rt f6 F5 B5 L5 LA CN5
   dsimp only
   go_wp2_with fail
   refine (clone_any cb _ ss _ L6.out.cat).mono ?_
   rintro e w7 ⟨db, u, rfl, hc, f7, hdb, hown⟩
   have D7 : Hid (Live w w7 db u ss) := hid (Live.after ⟨hc, hdb, hown⟩ F6.out)
   have AP : Hid (Apart2 db u cb (.slice (some ⟨g2, 0, none⟩) ss.length cc)) := hid ⟨by have := L6.out.cat.lt; omega, fun k h2 hk => by have := Kd.R_lt L6.out.cat.row k hk; have := hown k h2; omega⟩
   have L7 := hid (L6.out.fr0 f7)
   have F7 := hid (F6.out.then f7)
   have B7 := hid (f7.blk B6.out (by simp))
   have RT7 := hid (R_fr0 RT6.out f7)
   clear hc f7 hdb hown L6 F6 B6 RT6
   have LI := hid (list_one (deed_zero (w := w7) (x := dSwap base table other) rfl rfl) (in_dSwap HSB.out HST.out HSO.out))
   go_wp2_with fail
   refine (committed db u ss _ 1 [dSwap base table other] time _ (D7.out.fr0 ((Fr.refl [] w7).alloc _)).cat LI.out).mono ?_
   intro e w8 hq
   obtain ⟨he, hf3, hff, u8, hlv, hov⟩ := (D7.out.fr0 ((Fr.refl [] w7).alloc _)).commit (F7.out.alloc _) hq
   have L8 := hid ((L7.out.fr0 ((Fr.refl [] w7).alloc _)).other (D7.out.fr0 ((Fr.refl [] w7).alloc _)).cat AP.out hf3)
   have A8 := hid (AP.out.grown (L7.out.fr0 ((Fr.refl [] w7).alloc _)).cat hov)
   have B8 := hid ((D7.out.fr0 ((Fr.refl [] w7).alloc _)).cat.box hf3 (((Fr.refl [] w7).alloc _).blk B7.out (by simp)) (by decide))
   have RT8 := hid (R_fr (R_fr0 RT7.out ((Fr.refl [] w7).alloc _)) hf3 ((D7.out.fr0 ((Fr.refl [] w7).alloc _)).cat.noT (by decide)))
   have F8 := hid hff
   have D8 := hid hlv
   obtain ⟨r8, hr8⟩ : ∃ r8, r8 = commitBy ss [dSwap base table other] time := ⟨_, rfl⟩
   rw [← hr8] at he D8
   have CC := hid (commit_cases ss [dSwap base table other] time)
   rw [← hr8] at CC
   have OKS : Hid (CatOk r8.2) := hid (by rw [hr8]; exact commit_ok SOK.out hspos (xs := [dSwap base table other]) (time := time) (by simpa using in_dSwap HSB.out HST.out HSO.out))
   clear hq hff hf3 hov hlv hr8 LI L7 D7 B7 RT7 F7 AP
   obtain ⟨⟨n8, er8⟩, s8⟩ := r8
   subst he
   dsimp only at D8 CC ⊢
   go_upto_if 72 with (fail)
   go_cut [21, 22, 23, 24] from 71 to 97 (fun _ _ _ _ wx => Live w wx cb (.slice (some ⟨g2, 0, none⟩) ss.length cc) ss ∧ kA.R 49 wx 0 (fun _ => True) (.slice At T.length ct) T ∧ wx.heap[eb]? = some (.cells #[.int .i64 y.f0.f0, .string y.f0.f1, .string y.f0.f2, .slice A3 y.f0.f3.length c3, .slice A4 y.f0.f4.length c4, .int .i64 y.f0.f5, .int .i64 y.f0.f6, .int .i64 y.f0.f7, .int .i64 y.f0.f8] 49 (0, 0)) ∧ Fr [] w wx)
   case first =>
    rcases CC.out with ⟨er, her, hc⟩ | ⟨es, hw, hc⟩
    ·have heb : (er8 == 0) = false := by
      have e : er8 = er := congrArg (fun q => q.1.2) hc
      rw [e]; simp [her]
     clear her hc CC
     go_wp2
     go_meet
     exact ⟨L8.out, RT8.out, B8.out, F8.out⟩
    ·have e1 : n8 = (ss.length : Int) := congrArg (fun q => q.1.1) hc
     have e2 : er8 = 0 := congrArg (fun q => q.1.2) hc
     have e3 : s8 = ss ++ [(⟨time, [dSwap base table other], es⟩ : ST)] := congrArg (fun q => q.2) hc
     subst e1 e2 e3
     clear hc
     have HAG := hid (swap_again SI.out hsl h4000 hw)
     have LI := hid (list_one (deed_zero (w := w8) (x := dSwap base table other) rfl rfl) (in_dSwap HSB.out HST.out HSO.out))
     clear hw CC
     go_wp2_with fail
     refine (committed db u8 _ _ 1 [dSwap base table other] time _ (D8.out.fr0 ((Fr.refl [] w8).alloc _)).cat LI.out).mono ?_
     intro e w9 hq
     obtain ⟨he, hf3, hff, u9, hlv, hov⟩ := (D8.out.fr0 ((Fr.refl [] w8).alloc _)).commit (F8.out.alloc _) hq
     have L9 := hid ((L8.out.fr0 ((Fr.refl [] w8).alloc _)).other (D8.out.fr0 ((Fr.refl [] w8).alloc _)).cat A8.out hf3)
     have B9 := hid ((D8.out.fr0 ((Fr.refl [] w8).alloc _)).cat.box hf3 (((Fr.refl [] w8).alloc _).blk B8.out (by simp)) (by decide))
     have RT9 := hid (R_fr (R_fr0 RT8.out ((Fr.refl [] w8).alloc _)) hf3 ((D8.out.fr0 ((Fr.refl [] w8).alloc _)).cat.noT (by decide)))
     have F9 := hid hff
     rw [HAG.out] at he hlv
     subst he
     have D9 := hid hlv
     have OK9 := hid (commit_ok OKS.out (by have := D8.out.cat.pos; exact this) (xs := [dSwap base table other]) (time := time) (by simpa using in_dSwap HSB.out HST.out HSO.out))
     rw [HAG.out] at OK9
     dsimp only at OK9 D9
     obtain ⟨s9, hs9⟩ : ∃ s9, s9 = ss ++ [(⟨time, [dSwap base table other], es⟩ : ST)] ++ [(⟨time, [dSwap base table other], (lastOf ss).f2⟩ : ST)] := ⟨_, rfl⟩
     have la := list_last (ss := s9) (by rw [hs9]; simp) (n := (ss.length : Int) + 1) (by rw [hs9]; simp; omega)
     have hl9 : (lastOf s9).f2 = (lastOf ss).f2 := by rw [hs9, last_append]
     rw [hl9, ← HT.out] at la
     rw [← hs9] at OK9 D9
     have LA := hid (fun (W : World) (f : Fr [] w9 W) => list_any db u9 s9 ((ss.length : Int) + 1) W (D9.out.cat.fr0 f) OK9.out)
     rw [la] at LA
     clear la hl9 hs9 hq hf3 hff hlv hov LI HAG L8 B8 RT8 F8 D8 A8 OKS
     go_wp2_with fail
     refine (LA.out _ (Fr.refl _ _)).mono ?_
     rintro e w10 ⟨ub, rfl, rb, fb, -⟩
     obtain ⟨Ab, cb', e7, lb, Cb⟩ := api_reads rb
     subst e7
     obtain ⟨-, -, Ca⟩ := Kd.R_reads' (R_fr0 RT9.out fb)
     have SA := hid (same_any T At ct Ab cb' w10 Ca lt Cb lb TM.out (by omega))
     have L10 := hid (L9.out.fr0 fb)
     have B10 := hid (fb.blk B9.out (by simp))
     have RT10 := hid (R_fr0 RT9.out fb)
     have F10 := hid (F9.out.then fb)
     clear rb fb Cb Ca L9 B9 RT9 F9
     dsimp only
     go_wp2_with (go_at_call 19; refine SA.out.mono ?_; rintro e w11 ⟨rfl, f11⟩; have F11 := hid f11; clear f11)
     go_meet
     exact ⟨L10.out.fr0 F11.out, R_fr0 RT10.out F11.out, F11.out.blk B10.out (by simp), F10.out.then F11.out⟩
   case rest =>
    obtain ⟨hL, hR, hB, hF⟩ := hcut
    have L9 := hid hL
    have RT9 := hid hR
    have B9 := hid hB
    have F9 := hid hF
    clear hL hR hB hF L8 RT8 B8 F8 A8 D8 CC OKS
    generalize wc = w9 at *
    obtain ⟨K, hK⟩ : ∃ K, K = keepsBy (lastOf ss).f2 y := ⟨_, rfl⟩
    obtain ⟨hK0, hK1⟩ := keeps_bd EI.out (mem_of HY.out)
    rw [← hK] at hK0 hK1
    have KE := hid (fun (W : World) (f : Fr [] w9 W) => keeps_any cb _ ss y A3 c3 A4 c4 W (L9.out.cat.fr0 f) SOK.out EI.out (mem_of HY.out) (by omega))
    rw [← hK] at KE
    unfold apiV at KE
    have HK := hid hK
    clear hK
    have k0 := cell_of_row w9 eb 0 _ _ _ B9.out
    have k1 := cell_of_row w9 eb 1 _ _ _ B9.out
    have k2 := cell_of_row w9 eb 2 _ _ _ B9.out
    have k3 := cell_of_row w9 eb 3 _ _ _ B9.out
    have k4 := cell_of_row w9 eb 4 _ _ _ B9.out
    have k5 := cell_of_row w9 eb 5 _ _ _ B9.out
    have k6 := cell_of_row w9 eb 6 _ _ _ B9.out
    have k7 := cell_of_row w9 eb 7 _ _ _ B9.out
    have k8 := cell_of_row w9 eb 8 _ _ _ B9.out
    simp at k0 k1 k2 k3 k4 k5 k6 k7 k8
    go_wp2_with fail
    refine (KE.out _ (Fr.refl _ _)).mono ?_
    rintro e w10 ⟨rfl, f10⟩
    have L10 := hid (L9.out.fr0 f10)
    have RT10 := hid (R_fr0 RT9.out f10)
    have F10 := hid (F9.out.then f10)
    clear f10 L9 RT9 B9 F9 KE k0 k1 k2 k3 k4 k5 k6 k7 k8
    go_wp2_with fail
    refine (awk_deed (dDrop base table) _ _ _ _ rfl rfl rfl rfl (mk_dDrop base table) _).mono ?_
    rintro e w11 ⟨X4, x4, X6, x6, rfl, d1, f1⟩
    have LI := hid (list_one d1 (in_dDrop HSB.out HST.out))
    have F11 := hid (F10.out.then f1)
    have L11 := hid (L10.out.fr0 f1)
    have RT11 := hid (R_fr0 RT10.out f1)
    clear d1 f1 L10 F10 RT10
    unfold deedV
    go_wp2_with fail
    refine (committed cb _ ss _ 1 [dDrop base table] time _ (L11.out.fr0 ((Fr.refl [] w11).alloc _)).cat LI.out).mono ?_
    intro e w12 hq
    obtain ⟨he, hf3, hff, v12, hlv, -⟩ := (L11.out.fr0 ((Fr.refl [] w11).alloc _)).commit (F11.out.alloc _) hq
    have RT12 := hid (R_fr (R_fr0 RT11.out ((Fr.refl [] w11).alloc _)) hf3 ((L11.out.fr0 ((Fr.refl [] w11).alloc _)).cat.noT (by decide)))
    have F12 := hid hff
    have VD := hid (valid_dDrop HNM.out)
    clear hq hf3 hff LI L11 F11 RT11
    by_cases hct : checkTime ss time = 0
    ·obtain ⟨t1, t2, t3⟩ := check_ok hct
     obtain ⟨es1, hdr, hl1, hgo, hun⟩ := back_law (c := (ss.length : Int)) EI.out (by omega) (by omega) (x := dDrop base table) (x' := dBack base table) rfl rfl HI.out HY.out (d := ⟨ss.length, time, ss.map (·.f0)⟩) (d2 := ⟨ss.length + 1, later, ss.map (·.f0) ++ [time]⟩) rfl
     have hc1 := commit_one VD.out hct (by omega) (by rw [deed_drop]; exact hdr) (by omega)
     rw [hc1] at he hlv
     subst he
     obtain ⟨s1, hs1⟩ : ∃ s1, s1 = ss ++ [(⟨time, [dDrop base table], es1⟩ : ST)] := ⟨_, rfl⟩
     have OK1 := hid (commit_ok SOK.out hspos (xs := [dDrop base table]) (time := time) (by simpa using in_dDrop HSB.out HST.out))
     rw [hc1] at OK1
     dsimp only at OK1 hlv
     rw [← hs1] at OK1 hlv
     have hsl1 : s1.length = ss.length + 1 := by rw [hs1]; simp
     have hlast : lastOf s1 = ⟨time, [dDrop base table], es1⟩ := by rw [hs1, last_append]
     have hmap : s1.map (·.f0) = ss.map (·.f0) ++ [time] := by rw [hs1]; simp
     have hfg := find_gone (ss := s1) (by omega) HNM.out (by rw [hlast]; exact hgo)
     have hat : atTime ⟨ss.length + 1, later, ss.map (·.f0) ++ [time]⟩ (ss.length : Int) = time := by
      unfold atTime
      dsimp only
      rw [if_pos (show (ss.length : Int) < ((ss.map (·.f0) ++ [time]).length : Int) by rw [List.length_append, List.length_map, List.length_singleton]; omega)]
      simp
     rw [hat, wrap_id (by rw [← HK.out]; omega) (by rw [← HK.out]; omega), ← HK.out] at hun
     have hct2 : checkTime s1 later = if later < 0 ∨ 1000000000 < later ∨ later < time then 9 else 0 := by unfold checkTime; rw [hlast]
     have L12 := hid hlv
     have HUN := hid hun
     have HCT2 := hid hct2
     have HLAST := hid hlast
     have HMAP := hid hmap
     have HSL1 := hid hsl1
     obtain ⟨g3, c3', hu3, -, -⟩ := hlv.cat.form
     subst hu3
     have CN := hid (fun (W : World) (f : Fr [] w12 W) => (count_yes cb _ s1.length c3' W (L12.out.cat.fr0 f).c0 (by omega) (by omega)))
     have FI := hid (fun (W : World) (f : Fr [] w12 W) => found_any cb _ s1 ((s1.length : Int) - 1) base table W (L12.out.cat.fr0 f) OK1.out HSB.out HST.out)
     rw [hfg] at FI
     have hs1a : s1.length ≤ 22 := by omega
     have hs1b : 0 < s1.length := by omega
     clear hsl1 hl1 hct t3 hdr hgo hun hc1 hlv hs1 hlast hmap hfg hat hct2 EI HI HY
     go_wp2_with (go_at_call 13; refine (CN.out _ (Fr.refl _ _)).mono ?_; rintro e w13 ⟨rfl, rfl⟩)
     refine (FI.out _ (Fr.refl _ _)).mono ?_
     rintro e w13 ⟨Y3, y3, Y4, y4, rfl, -, -, f13⟩
     unfold apiV
     dsimp only
     have L13 := hid (L12.out.fr0 (f13.alloc (.cells #[.int .i64 AE.zero.f0, .string AE.zero.f1, .string AE.zero.f2, .slice Y3 AE.zero.f3.length y3, .slice Y4 AE.zero.f4.length y4, .int .i64 AE.zero.f5, .int .i64 AE.zero.f6, .int .i64 AE.zero.f7, .int .i64 AE.zero.f8] 49)))
     have F13 := hid (F12.out.then (f13.alloc (.cells #[.int .i64 AE.zero.f0, .string AE.zero.f1, .string AE.zero.f2, .slice Y3 AE.zero.f3.length y3, .slice Y4 AE.zero.f4.length y4, .int .i64 AE.zero.f5, .int .i64 AE.zero.f6, .int .i64 AE.zero.f7, .int .i64 AE.zero.f8] 49)))
     have RT13 := hid (R_fr0 RT12.out (f13.alloc (.cells #[.int .i64 AE.zero.f0, .string AE.zero.f1, .string AE.zero.f2, .slice Y3 AE.zero.f3.length y3, .slice Y4 AE.zero.f4.length y4, .int .i64 AE.zero.f5, .int .i64 AE.zero.f6, .int .i64 AE.zero.f7, .int .i64 AE.zero.f8] 49)))
     clear f13 L12 F12 RT12 FI CN
     go_wp2_with fail
     refine (awk_deed (dBack base table) _ _ _ _ rfl rfl rfl rfl (mk_dBack base table) _).mono ?_
     rintro e w14 ⟨X4, x4, X6, x6, rfl, d1, f1⟩
     have LI := hid (list_one d1 (in_dBack HSB.out HST.out))
     have F14 := hid (F13.out.then f1)
     have L14 := hid (L13.out.fr0 f1)
     have RT14 := hid (R_fr0 RT13.out f1)
     clear d1 f1 L13 F13 RT13
     unfold deedV
     go_wp2_with fail
     refine (committed cb _ s1 _ 1 [dBack base table] later _ (L14.out.fr0 ((Fr.refl [] w14).alloc _)).cat LI.out).mono ?_
     intro e w15 hq
     obtain ⟨he, hf3, hff, v15, hlv, -⟩ := (L14.out.fr0 ((Fr.refl [] w14).alloc _)).commit (F14.out.alloc _) hq
     have RT15 := hid (R_fr (R_fr0 RT14.out ((Fr.refl [] w14).alloc _)) hf3 ((L14.out.fr0 ((Fr.refl [] w14).alloc _)).cat.noT (by decide)))
     have F15 := hid hff
     have VB := hid (valid_dBack HNM.out)
     clear hq hf3 hff LI L14 F14 RT14
     by_cases hlt : later < time
     ·rw [commit_late VB.out (by rw [HCT2.out, if_pos (by omega)]; decide)] at he
      subst he
      clear hlv
      go_wp2_with (go_at_call 9; refine (awake_any _).mono ?_; rintro e w16 ⟨rfl, f16⟩; have F16 := hid f16; clear f16)
      go_ret
      exact ⟨rfl, F15.out.then F16.out⟩
     by_cases hmx : 1000000000 < later
     ·rw [commit_late VB.out (by rw [HCT2.out, if_pos (by omega)]; decide)] at he
      subst he
      clear hlv
      go_wp2_with (go_at_call 9; refine (awake_any _).mono ?_; rintro e w16 ⟨rfl, f16⟩; have F16 := hid f16; clear f16)
      go_ret
      exact ⟨rfl, F15.out.then F16.out⟩
     have hct3 : checkTime s1 later = 0 := by rw [HCT2.out, if_neg (by omega)]
     have hd2 : (⟨(s1.length : Int), later, s1.map (·.f0)⟩ : Dr) = ⟨(ss.length : Int) + 1, later, ss.map (·.f0) ++ [time]⟩ := by
      rw [HMAP.out, HSL1.out]
      simp
     by_cases hbk : time + K < later
     ·have hun := HUN.out
      rw [if_pos hbk] at hun
      rw [commit_bad (e := 9) (es' := es1) VB.out hct3 (by omega) (by rw [deed_back, HLAST.out, hd2]; exact hun) (by decide)] at he
      subst he
      clear hlv hun hct3 hd2
      go_wp2_with (go_at_call 9; refine (awake_any _).mono ?_; rintro e w16 ⟨rfl, f16⟩; have F16 := hid f16; clear f16)
      go_ret
      exact ⟨rfl, F15.out.then F16.out⟩
     ·have hun := HUN.out
      rw [if_neg hbk] at hun
      have hc2 := commit_one VB.out hct3 (by omega) (by rw [deed_back, HLAST.out, hd2]; exact hun) h4000
      have OK2 := hid (commit_ok OK1.out (by omega) (xs := [dBack base table]) (time := later) (by simpa using in_dBack HSB.out HST.out))
      rw [hc2] at he hlv OK2
      subst he
      dsimp only at hlv OK2
      obtain ⟨s2, hs2⟩ : ∃ s2, s2 = s1 ++ [(⟨later, [dBack base table], (lastOf ss).f2⟩ : ST)] := ⟨_, rfl⟩
      have la := list_last (ss := s2) (by rw [hs2]; simp) (n := (s1.length : Int)) (by rw [hs2]; simp)
      have hl2 : (lastOf s2).f2 = (lastOf ss).f2 := by rw [hs2, last_append]
      rw [hl2, ← HT.out] at la
      rw [← hs2] at hlv OK2
      have D9 := hid hlv
      have LA := hid (fun (W : World) (f : Fr [] w15 W) => list_any cb v15 s2 (s1.length : Int) W (D9.out.cat.fr0 f) OK2.out)
      rw [la] at LA
      clear la hl2 hs2 hlv hun hct3 hd2 hc2
      dsimp only
      go_wp2_with fail
      refine (LA.out _ (Fr.refl _ _)).mono ?_
      rintro e w16 ⟨ub, rfl, rb, fb, -⟩
      obtain ⟨Ab, cb', e7, lb, Cb⟩ := api_reads rb
      subst e7
      obtain ⟨-, -, Ca⟩ := Kd.R_reads' (R_fr0 RT15.out fb)
      have SA := hid (same_any T At ct Ab cb' w16 Ca lt Cb lb TM.out (by omega))
      have F16 := hid (F15.out.then fb)
      clear rb fb Cb Ca
      dsimp only
      go_wp2_with (first
       | (go_at_call 19; refine SA.out.mono ?_; rintro e w17 ⟨rfl, f17⟩; have F17 := hid f17; clear f17)
       | (go_at_call 9; refine (awake_any _).mono ?_; rintro e w18 ⟨rfl, f18⟩; have F18 := hid (F17.out.then f18); clear f18))
      go_ret
      exact ⟨rfl, F16.out.then F18.out⟩
    ·rw [commit_late VD.out hct] at he
     subst he
     clear hlv hct
     go_wp2_with (go_at_call 9; refine (awake_any _).mono ?_; rintro e w13 ⟨rfl, f13⟩; have F13 := hid f13; clear f13)
     go_ret
     exact ⟨rfl, F12.out.then F13.out⟩
  ·have hern : (er != 0) = true := by simp [her]
   clear her
   go_wp2_with (go_at_call 9; refine (awake_any _).mono ?_; rintro e w5 ⟨rfl, f5⟩; have F5 := hid f5; clear f5)
   go_ret
   exact ⟨rfl, (F4.out.alloc _).then F5.out⟩
end Go.Proofs.Ytcfgcmjnailndaa
