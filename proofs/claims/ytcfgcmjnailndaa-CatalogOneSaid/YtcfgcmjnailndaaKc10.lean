/-
  Readers: some, of list. (printed by wip/tools/gen_some.py)
  Readers: List, All, Time, Deeds.
-/
import Derived.Test.YtcfgcmjnailndaaKc9
namespace Go.Proofs.Ytcfgcmjnailndaa
open Go.RowKit Go.Proofs.Ytcfgcmjnailndaa.PCatalogKept Go.Proofs.YtcfgcmjnailndaaW.PrintWords Go.Proofs.YtcfgcmjnailndaaW.PrintLast Go.Proofs.YtcfgcmjnailndaaW.PrintMore
set_option maxRecDepth 100000 in
set_option maxHeartbeats 8000000 in
theorem some_list (cb : Nat) (v : Value) (ss : List ST) (k : Int) (w : World) (h : CatAt w cb v ss) (hE : CatOk ss) :
    Calls Try.prog 30 #[.pointer (some ⟨cb, 0, none⟩), .int .i64 k, .func (.func 31) #[] #[]] w (Found (fun y => y.f0.f8 == 0) ss k w) := by
  obtain ⟨P, hP⟩ : ∃ P : EN → Bool, P = (fun y => y.f0.f8 == 0) := ⟨_, rfl⟩
  rw [← hP]
  have HP := hid hP
  clear hP
  obtain ⟨g, c, rfl, hgl, hlc⟩ := h.form
  have c0 := h.c0
  have HT := hid (there_any cb (some ⟨g, 0, none⟩) ss.length c k 0 w c0 h.pos)
  by_cases h0 : k < 0 ∨ (ss.length : Int) ≤ k
  · have e0 := hid (show thereE ss.length k 0 = 6 by unfold thereE; rw [if_pos h0])
    have HR := hid h0
    rw [e0.out] at HT
    clear h0 h hE
    go_enter Try.func30, Try.ntmps30
    go_wp2_with (go_at_call 36; refine HT.out.mono ?_; rintro e w1 ⟨rfl, rfl⟩)
    go_ret2
    exact Found.no_ HR.out
  · have hk0 : 0 ≤ k := by omega
    obtain ⟨n, rfl⟩ := Int.eq_ofNat_of_zero_le hk0
    have hn : n < ss.length := by omega
    have e0 := hid (show thereE ss.length (n : Int) 0 = 0 by unfold thereE; rw [if_neg (by omega)])
    rw [e0.out] at HT
    obtain ⟨s, hs⟩ : ∃ s, ss[n]? = some s := ⟨_, List.getElem?_eq_getElem hn⟩
    have H := hid h
    obtain ⟨A1, c1, v2, -, -, m2, -, -, hr, hnil⟩ := states_at h.row hs
    have HS := hid hs
    have hsl : s.f2.length ≤ 4000 := h.ents s (List.mem_iff_getElem?.2 ⟨n, hs⟩)
    have HE := hid (hE.ents s (List.mem_iff_getElem?.2 ⟨n, hs⟩))
    obtain ⟨A2, c2, rfl⟩ := Kd.R_slice hr
    have HR := hid hr
    have hnl : (n : Int) < (ss.length : Int) := by omega
    have hn0 : (0 : Int) ≤ (n : Int) := by omega
    clear h h0 hk0 hs hr hnil hE e0
    go_enter Try.func30, Try.ntmps30
    go_wp2_with (go_at_call 36; refine HT.out.mono ?_; rintro e w1 ⟨rfl, rfl⟩)
    clear c0 m2
    go_loopw [9, 27] (fun out i wr => ∃ (j : Nat), i = .int .i64 j ∧ j ≤ s.f2.length ∧ kA.R 49 wr 0 (fun _ => True) out (picked P (s.f2.take j)) ∧ Fr [] w wr ∧ ∀ q, out.ownBlock = some q → w.heap.size ≤ q) (fun _ i _ => s.f2.length - (intOf i).toNat)
    case atStart => exact ⟨0, rfl, Nat.zero_le _, Kd.R_nil _ _ _ _ _, Fr.refl _ _, fun q hq => by simp [Value.ownBlock] at hq⟩
    case round =>
      obtain ⟨j, rfl, hj, hR, hF, hO⟩ := hrel
      have HR2 := hid hR
      have HF := hid hF
      have HO := hid hO
      clear hR hF hO
      by_cases hlt : j < s.f2.length
      · obtain ⟨y, hy⟩ : ∃ y, s.f2[j]? = some y := ⟨_, List.getElem?_eq_getElem hlt⟩
        obtain ⟨g2, c2', eA, hgl2⟩ := ents_form HR.out hy
        injection eA with eA1 eA2 eA3
        subst eA1
        obtain ⟨A3, c3, A4, c4, hcell, r3, r4⟩ := ents_read (R_fr0 HR.out HF.out) hy
        have m0 : wr.cell? ⟨g2, j * 11, none⟩ = some (.int .i64 y.f0.f0) := hcell 0 _ rfl
        have m1 := hcell 1 _ rfl
        have m2 := hcell 2 _ rfl
        have m3 := hcell 3 _ rfl
        have m4 := hcell 4 _ rfl
        have m5 := hcell 5 _ rfl
        have m6 := hcell 6 _ rfl
        have m7 := hcell 7 _ rfl
        have m8 := hcell 8 _ rfl
        have m9 := hcell 9 _ rfl
        have m10 := hcell 10 _ rfl
        have hm0 : (0 : Int) ≤ (j : Int) := by omega
        have hm1 : (j : Int) < (s.f2.length : Int) := by omega
        have HY := hid hy
        have R3 := hid r3
        have R4 := hid r4
        have hYE := hid (HE.out y (List.mem_iff_getElem?.2 ⟨j, hy⟩))
        have F1 := hid ((Fr.refl [] wr).alloc (.cells #[.int .i64 y.f0.f0, .string y.f0.f1, .string y.f0.f2, .slice A3 y.f0.f3.length c3, .slice A4 y.f0.f4.length c4, .int .i64 y.f0.f5, .int .i64 y.f0.f6, .int .i64 y.f0.f7, .int .i64 y.f0.f8, .int .i64 y.f1, .int .i64 y.f2] 64))
        have CALL := hid (list1_any y A3 c3 A4 c4 (wr.alloc (.cells #[.int .i64 y.f0.f0, .string y.f0.f1, .string y.f0.f2, .slice A3 y.f0.f3.length c3, .slice A4 y.f0.f4.length c4, .int .i64 y.f0.f5, .int .i64 y.f0.f6, .int .i64 y.f0.f7, .int .i64 y.f0.f8, .int .i64 y.f1, .int .i64 y.f2] 64)))
        obtain ⟨pb, hpb⟩ : ∃ pb, pb = P y := ⟨_, rfl⟩
        have HPB := hid hpb
        have HPB2 := hid (show pb = (y.f0.f8 == 0) by rw [HPB.out, HP.out])
        rw [← HPB2.out] at CALL
        unfold entV at CALL
        clear hcell r3 r4 hpb eA3 hy HPB2
        cases pb with
        | false =>
          go_wp2_with (go_at_call 31; refine CALL.out.mono ?_; rintro e w2 ⟨rfl, f2⟩; have F2 := hid (HF.out.then (F1.out.then f2)); have G2 := hid (F1.out.then f2); clear f2)
          go_roundw
          case rel => exact ⟨j + 1, by go_num, by omega, by rw [picked_no HY.out HPB.out.symm]; exact R_fr0 HR2.out G2.out, F2.out, HO.out⟩
          case measure => simp [intOf]; omega
        | true =>
          obtain ⟨T, hT⟩ : ∃ T, T = picked P (s.f2.take j) := ⟨_, rfl⟩
          have hR := HR2.out
          rw [← hT] at hR
          have hTl : T.length ≤ 4000 := by rw [hT]; exact Nat.le_trans (picked_len _ _) (by simp; omega)
          have HT2 := hid hT
          obtain ⟨A8, c8, rfl⟩ := Kd.R_slice hR
          have HRT := hid hR
          clear hR hT
          go_wp2_with (first
            | ((with_reducible refine gate_dst (N := 38) rfl ?_); refine step_append (v := .slice A8 T.length c8) (y := .slice (some ⟨w4.heap.size, 0, none⟩) 1 1) (v1 := .slice A9 (T.length + 1) c9) (w1 := w5) rfl (.tmp 34) (.tmp 37) 37 rfl rfl rfl HRUN.out ?_)
            | (go_at_call 31; refine CALL.out.mono ?_; rintro e w2 ⟨rfl, f2⟩; have F2 := hid (HF.out.then (F1.out.then f2)); have G2 := hid (F1.out.then f2); have B2 := f2.blk (heap_alloc_new wr _) (by simp); have n0 := cell_of_row w2 wr.heap.size 0 _ _ _ B2; have n1 := cell_of_row w2 wr.heap.size 1 _ _ _ B2; have n2 := cell_of_row w2 wr.heap.size 2 _ _ _ B2; have n3 := cell_of_row w2 wr.heap.size 3 _ _ _ B2; have n4 := cell_of_row w2 wr.heap.size 4 _ _ _ B2; have n5 := cell_of_row w2 wr.heap.size 5 _ _ _ B2; have n6 := cell_of_row w2 wr.heap.size 6 _ _ _ B2; have n7 := cell_of_row w2 wr.heap.size 7 _ _ _ B2; have n8 := cell_of_row w2 wr.heap.size 8 _ _ _ B2; have n9 := cell_of_row w2 wr.heap.size 9 _ _ _ B2; have n10 := cell_of_row w2 wr.heap.size 10 _ _ _ B2; simp at n0 n1 n2 n3 n4 n5 n6 n7 n8 n9 n10; have COP := hid (copied_any y A3 c3 A4 c4 w2 (Kd.C_below R3.out G2.out.below0) (Kd.C_below R4.out G2.out.below0) hYE.out.1 hYE.out.2); unfold entV at COP; clear B2 f2)
            | (go_at_call 39; refine COP.out.mono ?_; rintro e w4 ⟨A5, c5, A7, c7, rfl, r5, r7, f4⟩; obtain ⟨A9, c9, w5, hrun, r9, g9, a9⟩ := api_append (R_fr0 HRT.out (G2.out.then f4)) (by omega) y.f0 _ _ r5 r7; obtain ⟨f9, o9⟩ := grow_own (F2.out.then f4) HO.out g9 a9; have HRUN := hid hrun; have R9 := hid r9; have F9 := hid f9; have O9 := hid o9; clear r5 r7 f4 hrun r9 g9 a9 f9 o9))
          go_roundw
          case rel => exact ⟨j + 1, by go_num, by omega, by rw [picked_yes HY.out HPB.out.symm, ← HT2.out]; exact R9.out, F9.out, O9.out⟩
          case measure => simp [intOf]; omega
      · obtain rfl : j = s.f2.length := by omega
        have hr := HR2.out
        rw [List.take_length] at hr
        have HR3 := hid hr
        clear hr
        go_wp2
        go_ret2
        exact Found.mk HS.out HR3.out HF.out HO.out
def isThere (y : EN) : Bool := y.f0.f8 == 0
def isAny (_ : EN) : Bool := true
def listBy (ss : List ST) (k : Int) : List AE × Int := someBy isThere ss k
set_option maxRecDepth 100000 in
theorem list_any (cb : Nat) (v : Value) (ss : List ST) (k : Int) (w : World) (h : CatAt w cb v ss) (hE : CatOk ss) :
    Calls Try.prog 12 #[.pointer (some ⟨cb, 0, none⟩), .int .i64 k] w (Listed (listBy ss k) w) := by
  have HC : Hid (Calls Try.prog 30 #[.pointer (some ⟨cb, 0, none⟩), .int .i64 k, .func (.func 31) #[] #[]] w (Listed (listBy ss k) w)) := some_list cb v ss k w h hE
  generalize listBy ss k = r at HC ⊢
  clear h hE
  go_enter Try.func12, Try.ntmps12
  go_wp2_with (go_at_call 30; refine HC.out.mono ?_; rintro e w1 ⟨u, rfl, hr, hf, ho⟩; have HR := hid hr; have HF := hid hf; have HO := hid ho; clear hr hf ho)
  go_ret2
  exact ⟨u, rfl, HR.out, HF.out, HO.out⟩
end Go.Proofs.Ytcfgcmjnailndaa
