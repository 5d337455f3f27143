/-
  The law function home.
  The walk of CatalogIds.
-/
import Derived.Test.YtcfgcmjnailndaaKb17
namespace Go.Proofs.Ytcfgcmjnailndaa
open Go.RowKit Go.Proofs.Ytcfgcmjnailndaa.PCatalogKept Go.Proofs.YtcfgcmjnailndaaW.PrintWords Go.Proofs.YtcfgcmjnailndaaW.PrintLast Go.Proofs.YtcfgcmjnailndaaW.PrintMore
theorem rdA {l : List AE} {i : Nat} {x : AE} (h : l[i]? = some x) : rd_T49 l (i : Int) = x := by
  unfold rd_T49; simp [List.getD_eq_getElem?_getD, h]
theorem entries_at {w : World} {A : Option Addr} {n k : Nat} {xs : List AE} {x : AE} (h : Kd.C k49 w A n xs) (hx : xs[k]? = some x) :
    ∃ b off A3 c3 A4 c4, A = some ⟨b, off, none⟩ ∧ w.cell? ⟨b, off + k * 9, none⟩ = some (.int .i64 x.f0) ∧ w.cell? ⟨b, off + k * 9 + 1, none⟩ = some (.string x.f1) ∧ w.cell? ⟨b, off + k * 9 + 2, none⟩ = some (.string x.f2) ∧ w.cell? ⟨b, off + k * 9 + 3, none⟩ = some (.slice A3 x.f3.length c3) ∧ w.cell? ⟨b, off + k * 9 + 4, none⟩ = some (.slice A4 x.f4.length c4) ∧
      w.cell? ⟨b, off + k * 9 + 5, none⟩ = some (.int .i64 x.f5) ∧ w.cell? ⟨b, off + k * 9 + 6, none⟩ = some (.int .i64 x.f6) ∧ w.cell? ⟨b, off + k * 9 + 7, none⟩ = some (.int .i64 x.f7) ∧ w.cell? ⟨b, off + k * 9 + 8, none⟩ = some (.int .i64 x.f8) := by
  have hk := (List.getElem?_eq_some_iff.1 hx).1
  have hn : xs.length = n := h.1
  obtain ⟨ad, A3, c3, A4, c4, e, h0, h1, h2, h3, h4, h5, h6, h7, h8, -⟩ := at_T49 h (k : Int) (by omega) (by omega)
  rw [rdA hx] at h0 h1 h2 h3 h4 h5 h6 h7 h8
  have hsp : ad.spot = none := by
    obtain ⟨ad', _, _, _, _, e', h0', _⟩ := at_T49 h 0 (by omega) (by omega)
    rw [e] at e'
    cases e'
    have hs := spot_none h0'
    simpa [Addr.add] using hs
  rw [addr_plain hsp] at e
  have ea : ad.add (((k : Int)).toNat * 9) = ⟨ad.block, ad.off + k * 9, none⟩ := by rw [addr_plain hsp, add_mk]; simp
  rw [ea] at h0 h1 h2 h3 h4 h5 h6 h7 h8
  exact ⟨ad.block, ad.off, A3, c3, A4, c4, e, h0, h1, h2, h3, h4, h5, h6, h7, h8⟩
section
variable {n : Nat} {ss : List ST} {s : ST}
theorem getBy_at (hs : ss[n]? = some s) {N : Int} (h : EInv N s.f2) {z : EN} (hz : z ∈ s.f2) : getBy ss (n : Int) z.f0.f0 = (z.f0, 0) := by
  have hn := (List.getElem?_eq_some_iff.1 hs).1
  have h1 := h.at_ hz
  have h2 := (List.getElem?_eq_some_iff.1 h1).1
  have h3 := h.pos hz
  unfold getBy
  rw [if_neg (by omega)]
  have e : ss.getD ((n : Int)).toNat z71 = s := by simp [List.getD_eq_getElem?_getD, hs]
  rw [e, if_neg (by omega), List.getD_eq_getElem?_getD, h1]
  rfl
theorem withinBy_at (hs : ss[n]? = some s) {N : Int} (h : EInv N s.f2) {z : EN} (hz : z ∈ s.f2) : withinBy ss (n : Int) z.f0.f0 = if z.f0.f2.toList = [] then (picked (isIn z.f0.f0) s.f2, 0) else ([], 8) := by
  have hn := (List.getElem?_eq_some_iff.1 hs).1
  unfold withinBy
  rw [getBy_at hs h hz]
  simp only [if_true]
  split
  · unfold someBy
    rw [if_neg (by omega)]
    simp [List.getD_eq_getElem?_getD, hs]
  · rfl
theorem in_mem {id : Int} {es : List EN} {x : AE} (h : x ∈ picked (isIn id) es) : ∃ u ∈ es, u.f0 = x ∧ u.f1 = id ∧ u.f0.f8 = 0 := by
  obtain ⟨u, hu, rfl⟩ := List.mem_map.1 h
  obtain ⟨h1, h2⟩ := List.mem_filter.1 hu
  unfold isIn at h2
  simp only [Bool.and_eq_true, beq_iff_eq] at h2
  exact ⟨u, h1, rfl, h2.1, h2.2⟩
theorem within_no (hs : ss[n]? = some s) {N : Int} (h : EInv N s.f2) {y z : EN} (hy : y ∈ s.f2) (hz : z ∈ s.f2) (hne : z.f0.f0 ≠ y.f1) : ∀ x ∈ (withinBy ss (n : Int) z.f0.f0).1, x.f0 ≠ y.f0.f0 := by
  intro x hx e
  rw [withinBy_at hs h hz] at hx
  split at hx
  · obtain ⟨u, hu, rfl, h1, -⟩ := in_mem hx
    rw [h.inj hu hy e] at h1
    exact hne h1.symm
  · simp at hx
theorem within_yes (hs : ss[n]? = some s) {N : Int} (h : EInv N s.f2) {y z : EN} (hy : y ∈ s.f2) (hz : z ∈ s.f2) (hzd : isDb z) (he : z.f0.f0 = y.f1) (hg : y.f0.f8 = 0) : (withinBy ss (n : Int) z.f0.f0).2 = 0 ∧ y.f0 ∈ (withinBy ss (n : Int) z.f0.f0).1 := by
  rw [withinBy_at hs h hz, if_pos (show z.f0.f2.toList = [] from hzd)]
  refine ⟨rfl, List.mem_map.2 ⟨y, List.mem_filter.2 ⟨hy, ?_⟩, rfl⟩⟩
  unfold isIn
  simp [he, hg]
end
theorem within_len {ss : List ST} {k id : Int} (h : ∀ s ∈ ss, s.f2.length ≤ 4000) : (withinBy ss k id).1.length ≤ 4000 := by
  unfold withinBy
  split
  · split
    · unfold someBy
      split
      · simp
      · rename_i hk
        refine Nat.le_trans (picked_len _ _) ?_
        refine h _ ?_
        rw [List.getD_eq_getElem?_getD, List.getElem?_eq_getElem (by omega)]
        exact List.getElem_mem _
    · simp
  · simp
theorem mem_of' {α : Type} {l : List α} {k : Nat} {x : α} (h : l[k]? = some x) : x ∈ l := List.mem_iff_getElem?.2 ⟨k, h⟩
theorem mem_of_state {ss : List ST} {n : Nat} {s : ST} (h : ss[n]? = some s) : s ∈ ss := List.mem_iff_getElem?.2 ⟨n, h⟩
theorem all_get {s : ST} {j : Nat} {z : EN} (h : s.f2[j]? = some z) : (allOf s)[j]? = some z.f0 := by
  unfold allOf picked isAny
  rw [List.getElem?_map, List.filter_eq_self.2 (by simp), h]
  rfl
theorem all_len (s : ST) : (allOf s).length = s.f2.length := by
  unfold allOf picked isAny
  rw [List.length_map, List.filter_eq_self.2 (by simp)]
set_option maxRecDepth 100000 in
set_option maxHeartbeats 8000000 in
theorem home_any (cb : Nat) (v : Value) (ss : List ST) (n : Nat) (s : ST) (y : EN) (A3 : Option Addr) (c3 : Nat) (A4 : Option Addr) (c4 : Nat) (A : Option Addr) (c : Nat) (w : World) (h : CatAt w cb v ss) (hE : CatOk ss) (hs : ss[n]? = some s) {N : Int} (hI : EInv N s.f2) (hy : y ∈ s.f2) (hd : ¬ isDb y) (hg : y.f0.f8 = 0)
    (hC : Kd.C k49 w A (allOf s).length (allOf s)) :
    Calls Try.prog 22 #[.pointer (some ⟨cb, 0, none⟩), .int .i64 n, apiV y.f0 (.slice A3 y.f0.f3.length c3) (.slice A4 y.f0.f4.length c4), .slice A (allOf s).length c] w fun e w' => e = .returned (.int .i64 y.f1) ∧ Fr [] w w' := by
  unfold apiV
  obtain ⟨b, hb, hH⟩ := hI.home y hy hd
  obtain ⟨hi, hhi⟩ : ∃ hi : Nat, s.f2[hi]? = some b := List.mem_iff_getElem?.1 hb
  have hbid := hI.id hi b hhi
  have hhl := (List.getElem?_eq_some_iff.1 hhi).1
  have HYES := hid (within_yes hs hI hy hb hH.db hH.id hg)
  have HNO := hid (fun (z : EN) (hz : z ∈ s.f2) (hne : z.f0.f0 ≠ y.f1) => within_no hs hI hy hz hne)
  have HID := hid hI.id
  have HBID := hid (show b.f0.f0 = y.f1 from hH.id)
  have H := hid h
  have HE := hid hE
  have HC := hid hC
  have hlen : (allOf s).length = s.f2.length := all_len s
  have hs4 : s.f2.length ≤ 4000 := h.ents s (mem_of_state hs)
  have F0 := hid ((Fr.refl [] w).alloc (.cells #[.int .i64 y.f0.f0, .string y.f0.f1, .string y.f0.f2, .slice A3 y.f0.f3.length c3, .slice A4 y.f0.f4.length c4, .int .i64 y.f0.f5, .int .i64 y.f0.f6, .int .i64 y.f0.f7, .int .i64 y.f0.f8] 49))
  have B0 := hid (cell_of_row _ _ 0 _ _ _ (heap_alloc_new w (.cells #[.int .i64 y.f0.f0, .string y.f0.f1, .string y.f0.f2, .slice A3 y.f0.f3.length c3, .slice A4 y.f0.f4.length c4, .int .i64 y.f0.f5, .int .i64 y.f0.f6, .int .i64 y.f0.f7, .int .i64 y.f0.f8] 49)))
  obtain ⟨AL, hAL⟩ : ∃ AL, AL = (allOf s).length := ⟨_, rfl⟩
  rw [← hAL] at HC hlen ⊢
  have HHI := hid hhi
  have HLEN := hid hlen
  clear hlen h hE hs hI hy hd hC hb hH hAL hhi hbid hg
  go_enter Try.func22, Try.ntmps22
  go_wp2
  go_loopw [9] (fun i wr => ∃ (j : Nat), i = .int .i64 j ∧ j ≤ hi ∧ Fr [] (w.alloc (.cells #[.int .i64 y.f0.f0, .string y.f0.f1, .string y.f0.f2, .slice A3 y.f0.f3.length c3, .slice A4 y.f0.f4.length c4, .int .i64 y.f0.f5, .int .i64 y.f0.f6, .int .i64 y.f0.f7, .int .i64 y.f0.f8] 49)) wr) (fun i _ => AL - (intOf i).toNat)
  case atStart => exact ⟨0, rfl, Nat.zero_le _, Fr.refl _ _⟩
  case round =>
    obtain ⟨j, rfl, hj, hF⟩ := hrel
    have HF := hid hF
    clear hF
    obtain ⟨z, hz⟩ : ∃ z, s.f2[j]? = some z := ⟨_, List.getElem?_eq_getElem (by omega)⟩
    have hzi := hid (HID.out j z hz)
    obtain ⟨b2, off, X3, x3, X4, x4, eA, m0, -, -, -, -, -, -, -, -⟩ := entries_at (Kd.C_below HC.out (F0.out.then HF.out).below0) (all_get hz)
    subst eA
    have HZ := hid hz
    have hm0 : (0 : Int) ≤ (j : Int) := by omega
    have hm1 : (j : Int) < (AL : Int) := by have := HLEN.out; omega
    have WI := hid (within_any cb v ss n z.f0.f0 wr (H.out.fr0 (F0.out.then HF.out)) HE.out)
    obtain ⟨L, hL⟩ : ∃ L, L = withinBy ss n z.f0.f0 := ⟨_, rfl⟩
    have hLl : L.1.length ≤ 4000 := by rw [hL]; exact within_len H.out.ents
    rw [← hL] at WI
    have HL := hid hL
    obtain ⟨l, er⟩ := L
    simp only at hLl
    clear hz hL
    go_wp2_with (go_at_call 41; refine WI.out.mono ?_; rintro e w2 ⟨u, rfl, hr, f2, -⟩; obtain ⟨U, uc, rfl⟩ := Kd.R_slice hr; have R2 := hid hr; have F2 := hid f2; clear hr f2)
    go_loopw [12] (fun i wq => ∃ (k : Nat), i = .int .i64 k ∧ k ≤ l.length ∧ (∀ m x, m < k → l[m]? = some x → x.f0 ≠ y.f0.f0) ∧ Fr [] w2 wq) (fun i _ => l.length - (intOf i).toNat)
    case atStart => exact ⟨0, rfl, Nat.zero_le _, fun m x hm => absurd hm (Nat.not_lt_zero _), Fr.refl _ _⟩
    case round =>
      obtain ⟨k, rfl, hk, hno, hG⟩ := hrel
      have HNK := hid hno
      have HG := hid hG
      clear hno hG
      have HFQ := hid ((F0.out.then HF.out).then (F2.out.then HG.out))
      have HFR := hid (HF.out.then (F2.out.then HG.out))
      have b0 := HFR.out.cell0 B0.out
      have m0q := (F2.out.then HG.out).cell0 m0
      simp at b0
      by_cases hkl : k < l.length
      · by_cases he : er = 0
        · subst he
          obtain ⟨x, hx⟩ : ∃ x, l[k]? = some x := ⟨_, List.getElem?_eq_getElem hkl⟩
          have R3 := hid (R_fr0 R2.out HG.out)
          obtain ⟨-, -, hC3⟩ := Kd.R_reads' R3.out
          obtain ⟨b3, off3, Y3, y3, Y4, y4, eU, n0, -, -, -, -, -, -, -, -⟩ := entries_at (xs := l) hC3 hx
          subst eU
          have HX := hid hx
          have hk0 : (0 : Int) ≤ (k : Int) := by omega
          have hk1 : (k : Int) < (l.length : Int) := by omega
          clear hx hC3 m0
          cases hxe : (x.f0 == y.f0.f0) with
          | true =>
            have hze := hid (show z.f0.f0 = y.f1 from Classical.byContradiction fun hne => HNO.out z (mem_of HZ.out) hne x (by rw [← HL.out]; exact mem_of' HX.out) (by simpa using hxe))
            go_wp2_with fail
            go_quiet (fail)
            go_wp2
            go_ret
            exact ⟨by rw [hze.out]; rfl, HFQ.out.drewN _⟩
          | false =>
            have hxn := hid (show x.f0 ≠ y.f0.f0 by simpa using hxe)
            go_wp2_with fail
            go_quiet (fail)
            go_wp2
            go_roundw
            case rel =>
              refine ⟨k + 1, by go_num, by omega, fun m x' hm hx' => ?_, HG.out.drewN _⟩
              rcases Nat.lt_succ_iff_lt_or_eq.1 hm with h1 | rfl
              · exact HNK.out m x' h1 hx'
              · rw [HX.out] at hx'; cases hx'; exact hxn.out
            case measure => simp [intOf]; omega
        · have heb : (er == 0) = false := by simp [he]
          have hjh := hid (show j < hi by
            rcases Nat.lt_or_eq_of_le hj with h1 | rfl
            · exact h1
            · exfalso
              have := HZ.out
              rw [HHI.out] at this
              cases this
              have h2 := HYES.out.1
              rw [← HL.out] at h2
              exact he h2)
          have hk1 : (k : Int) < (l.length : Int) := by omega
          clear he m0
          go_wp2
          go_roundw
          case rel => first | exact ⟨j + 1, by go_num, hjh.out, HFR.out⟩ | ((repeat apply Exists.intro); exact ⟨⟨j + 1, by go_num, hjh.out, HFR.out⟩, rfl⟩)
          case measure => simp [intOf]; omega
      · obtain rfl : k = l.length := by omega
        have hjh := hid (show j < hi by
          rcases Nat.lt_or_eq_of_le hj with h1 | rfl
          · exact h1
          · exfalso
            have := HZ.out
            rw [HHI.out] at this
            cases this
            have h2 := HYES.out.2
            rw [← HL.out] at h2
            obtain ⟨m, hm⟩ := List.mem_iff_getElem?.1 h2
            exact HNK.out m _ (List.getElem?_eq_some_iff.1 hm).1 hm rfl)
        clear m0
        go_wp2
        go_roundw
        case rel => first | exact ⟨j + 1, by go_num, hjh.out, HFR.out⟩ | ((repeat apply Exists.intro); exact ⟨⟨j + 1, by go_num, hjh.out, HFR.out⟩, rfl⟩)
        case measure => simp [intOf]; omega
theorem SInv.kin_last {ss : List ST} (h : SInv ss) : ∀ (d k : Nat) (s : ST), ss[k]? = some s → ss.length - k = d → Kin s.f2 (lastOf ss).f2 := by
  intro d
  induction d with
  | zero => intro k s hs hd; have := (List.getElem?_eq_some_iff.1 hs).1; omega
  | succ d ih =>
    intro k s hs hd
    by_cases hk : k + 1 < ss.length
    · obtain ⟨t, ht⟩ : ∃ t, ss[k + 1]? = some t := ⟨_, List.getElem?_eq_getElem hk⟩
      exact (h.kin k s t hs ht).trans (ih (k + 1) t ht (by omega))
    · have hk' : k = ss.length - 1 := by have := (List.getElem?_eq_some_iff.1 hs).1; omega
      subst hk'
      rw [last_at h.pos] at hs; cases hs
      exact Kin.refl _
def homeOf (ss : List ST) (j : Nat) : Int := ((lastOf ss).f2.getD j z64).f1
theorem home_fixed {ss : List ST} (h : SInv ss) {k j : Nat} {s : ST} {y : EN} (hs : ss[k]? = some s) (hy : s.f2[j]? = some y) : homeOf ss j = y.f1 := by
  obtain ⟨y', h1, -, h2, -⟩ := h.kin_last _ k s hs rfl j y hy
  unfold homeOf
  simp [List.getD_eq_getElem?_getD, h1, h2]
def HomesOk (ss : List ST) (hs : List Int) : Prop := ∀ (q : Nat) (g : Int), hs[q]? = some g → g = 0 ∨ g = homeOf ss q
theorem HomesOk.push {ss : List ST} {hs : List Int} (h : HomesOk ss hs) : HomesOk ss (hs ++ [0]) := fun q g hq => by
  by_cases hl : q < hs.length
  · rw [List.getElem?_append_left hl] at hq; exact h q g hq
  · have := (List.getElem?_eq_some_iff.1 hq).1
    simp at this
    have : q = hs.length := by omega
    subst this
    simp at hq
    exact .inl hq.symm
theorem HomesOk.put {ss : List ST} {hs : List Int} (h : HomesOk ss hs) {j : Nat} {x : Int} (hx : x = homeOf ss j) : HomesOk ss (hs.set j x) := fun q g hq => by
  by_cases hj : j = q
  · subst hj
    have hl := (List.getElem?_eq_some_iff.1 hq).1
    simp at hl
    rw [List.getElem?_set_self hl] at hq
    cases hq
    exact .inr hx
  · rw [List.getElem?_set_ne hj] at hq
    exact h q g hq
theorem int_append {w : World} {v : Value} {xs : List Int} (R : kI.R 3 w 0 (fun _ => True) v xs) (hl : xs.length ≤ 1000000) (x : Int) :
    ∃ A1 c1 w1, (Builtin.append_ #[29, 29] 29 #[v, .slice (some ⟨w.heap.size, 0, none⟩) 1 1]).run Try.prog (w.alloc (.cells #[.int .i64 x] 3)) = .ok (.slice A1 (xs.length + 1) c1) w1 ∧
      kI.R 3 w1 0 (fun _ => True) (.slice A1 (xs.length + 1) c1) (xs ++ [x]) ∧ w.grownBy w1 v.ownBlock ∧ ((Value.slice A1 (xs.length + 1) c1).ownBlock = v.ownBlock ∨ ∃ b, (Value.slice A1 (xs.length + 1) c1).ownBlock = some b ∧ w.heap.size ≤ b) := by
  obtain ⟨v1, w1, hrun, r5, g5, a5⟩ := R_run (P := Try.prog) kI (W := w) 29 29 3 (.int .i64 0) 8 Try.underlying29 info_int rfl (by decide) (by decide) v xs x [.int .i64 x] (fun _ => False) rfl (fun _ h => h.elim) R (by omega)
  obtain ⟨A1, c1, e⟩ := Kd.R_slice r5
  rw [List.length_append, List.length_singleton] at e
  subst e
  exact ⟨A1, c1, w1, hrun, r5, g5, a5⟩
structure HomesAt (w5 w : World) (v : Value) (hs : List Int) : Prop where
  row : kI.R 3 w 0 (fun _ => True) v hs
  own : ∀ k, v.ownBlock = some k → w5.heap.size ≤ k
  fr : Fr [] w5 w
theorem HomesAt.fr0 {w5 w w' : World} {v : Value} {hs : List Int} (h : HomesAt w5 w v hs) (f : Fr [] w w') : HomesAt w5 w' v hs := ⟨R_fr0 h.row f, h.own, h.fr.then f⟩
theorem HomesAt.push {w5 w : World} {v : Value} {hs : List Int} (h : HomesAt w5 w v hs) (hl : hs.length ≤ 1000000) :
    ∃ A1 c1 w1, (Builtin.append_ #[29, 29] 29 #[v, .slice (some ⟨w.heap.size, 0, none⟩) 1 1]).run Try.prog (w.alloc (.cells #[.int .i64 0] 3)) = .ok (.slice A1 (hs.length + 1) c1) w1 ∧ HomesAt w5 w1 (.slice A1 (hs.length + 1) c1) (hs ++ [0]) ∧ w.grownBy w1 v.ownBlock := by
  obtain ⟨A1, c1, w1, hrun, r1, g1, a1⟩ := int_append h.row hl 0
  obtain ⟨f1, o1⟩ := grow_own h.fr h.own g1 a1
  exact ⟨A1, c1, w1, hrun, ⟨r1, o1, f1⟩, g1⟩
theorem HomesAt.put {w5 w : World} {g n c : Nat} {hs : List Int} (h : HomesAt w5 w (.slice (some ⟨g, 0, none⟩) n c) hs) (j : Nat) (x : Int) : HomesAt w5 (w.setCell ⟨g, j, none⟩ (.int .i64 x)) (.slice (some ⟨g, 0, none⟩) n c) (hs.set j x) := by
  have r := Kd.R_putn h.row (j : Int) x
  rw [Int.toNat_natCast] at r
  exact ⟨r, h.own, h.fr.trans ((Fr.refl [g] w).setCell (p := ⟨g, j, none⟩) (.inl (List.mem_singleton.2 rfl)) (.int .i64 x)) (fun z hz => .inr (by rw [List.mem_singleton.1 hz]; exact h.own g rfl))⟩
theorem HomesAt.cell {w5 w : World} {g n c : Nat} {hs : List Int} (h : HomesAt w5 w (.slice (some ⟨g, 0, none⟩) n c) hs) {j : Nat} {x : Int} (hx : hs[j]? = some x) : w.cell? ⟨g, j, none⟩ = some (.int .i64 x) ∧ w.frozen? ⟨g, j, none⟩ = false := by
  obtain ⟨hn, -, -⟩ := Kd.R_reads' h.row
  have hj := (List.getElem?_eq_some_iff.1 hx).1
  have := Kd.R_celln (0 : Int) h.row (j : Int) (by omega) (by omega)
  simpa [rdOf, List.getD_eq_getElem?_getD, hx] using this
theorem HomesAt.len {w5 w : World} {A : Option Addr} {n c : Nat} {hs : List Int} (h : HomesAt w5 w (.slice A n c) hs) : n = hs.length := (Kd.R_reads' h.row).1
theorem HomesAt.form {w5 w : World} {A : Option Addr} {n c : Nat} {hs : List Int} (h : HomesAt w5 w (.slice A n c) hs) (hp : 0 < hs.length) : ∃ g, A = some ⟨g, 0, none⟩ ∧ g < w.heap.size := by
  obtain ⟨g, c', e, -, hg, -⟩ := Kd.R_form h.row hp
  injection e with e1 e2 e3
  exact ⟨g, e1, hg⟩
structure RowAt (w : World) (ga n : Nat) (A : Option Addr) (c : Nat) (s : ST) : Prop where
  list : w.cell? ⟨ga, n, none⟩ = some (.slice A s.f2.length c)
  read : Kd.C k49 w A (allOf s).length (allOf s)
theorem row_at {w : World} {ga n c k : Nat} {ss : List ST} {s : ST} (h : kL.R 37 w 0 (fun _ => True) (.slice (some ⟨ga, 0, none⟩) n c) (ss.map allOf)) (hs : ss[k]? = some s) : ∃ A c, RowAt w ga k A c s := by
  have hx : (ss.map allOf)[k]? = some (allOf s) := by rw [List.getElem?_map, hs]; rfl
  obtain ⟨A0, c0, m, -, hC⟩ := lists_at h hx
  exact ⟨A0, c0, by rw [m, all_len], hC⟩
theorem RowAt.addr {w : World} {ga n c : Nat} {A : Option Addr} {s : ST} (h : RowAt w ga n A c s) (hp : 0 < s.f2.length) : ∃ b off, A = some ⟨b, off, none⟩ := by
  obtain ⟨y, hy⟩ : ∃ y, s.f2[0]? = some y := ⟨_, List.getElem?_eq_getElem hp⟩
  obtain ⟨b, off, _, _, _, _, eA, -⟩ := entries_at h.read (all_get hy)
  exact ⟨b, off, eA⟩
theorem RowAt.fr0 {w w' : World} {ga n c : Nat} {A : Option Addr} {s : ST} (h : RowAt w ga n A c s) (f : Fr [] w w') : RowAt w' ga n A c s := ⟨f.cell0 h.list, Kd.C_below h.read f.below0⟩
structure EntAt (w : World) (b off j : Nat) (y : EN) (A3 : Option Addr) (c3 : Nat) (A4 : Option Addr) (c4 : Nat) : Prop where
  m0 : w.cell? ⟨b, off + j * 9, none⟩ = some (.int .i64 y.f0.f0)
  m1 : w.cell? ⟨b, off + j * 9 + 1, none⟩ = some (.string y.f0.f1)
  m2 : w.cell? ⟨b, off + j * 9 + 2, none⟩ = some (.string y.f0.f2)
  m3 : w.cell? ⟨b, off + j * 9 + 3, none⟩ = some (.slice A3 y.f0.f3.length c3)
  m4 : w.cell? ⟨b, off + j * 9 + 4, none⟩ = some (.slice A4 y.f0.f4.length c4)
  m5 : w.cell? ⟨b, off + j * 9 + 5, none⟩ = some (.int .i64 y.f0.f5)
  m6 : w.cell? ⟨b, off + j * 9 + 6, none⟩ = some (.int .i64 y.f0.f6)
  m7 : w.cell? ⟨b, off + j * 9 + 7, none⟩ = some (.int .i64 y.f0.f7)
  m8 : w.cell? ⟨b, off + j * 9 + 8, none⟩ = some (.int .i64 y.f0.f8)
theorem RowAt.ent {w : World} {ga n b off c j : Nat} {s : ST} {y : EN} (h : RowAt w ga n (some ⟨b, off, none⟩) c s) (hy : s.f2[j]? = some y) : ∃ A3 c3 A4 c4, EntAt w b off j y A3 c3 A4 c4 := by
  obtain ⟨b', off', A3, c3, A4, c4, e, m0, m1, m2, m3, m4, m5, m6, m7, m8⟩ := entries_at h.read (all_get hy)
  injection e with e; injection e with e1 e2
  subst e1 e2
  exact ⟨A3, c3, A4, c4, m0, m1, m2, m3, m4, m5, m6, m7, m8⟩
theorem EntAt.fr0 {w w' : World} {b off j : Nat} {y : EN} {A3 : Option Addr} {c3 : Nat} {A4 : Option Addr} {c4 : Nat} (h : EntAt w b off j y A3 c3 A4 c4) (f : Fr [] w w') : EntAt w' b off j y A3 c3 A4 c4 :=
  ⟨f.cell0 h.m0, f.cell0 h.m1, f.cell0 h.m2, f.cell0 h.m3, f.cell0 h.m4, f.cell0 h.m5, f.cell0 h.m6, f.cell0 h.m7, f.cell0 h.m8⟩
end Go.Proofs.Ytcfgcmjnailndaa
