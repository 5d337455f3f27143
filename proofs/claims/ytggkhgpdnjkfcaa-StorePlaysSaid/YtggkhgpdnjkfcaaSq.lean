/-
  Plain laws for StoreCopied; the walk of StoreCopied.
-/
import Derived.Test.YtggkhgpdnjkfcaaSn
namespace Go.Proofs.Ytggkhgpdnjkfcaa
open Go.RowKit Go.Maps

def topOf (l : FL) : Int := l.foldl (fun m p => max m p.1) 0
def upTo (l : FL) (k : Nat) : St := ⟨l.take k, topOf (l.take k)⟩
theorem topOf_snoc (l : FL) (p : Int × ByteArray) : topOf (l ++ [p]) = max (topOf l) p.1 := by simp [topOf]
theorem ldel_none {l : FL} {k : Int} (h : ∀ p ∈ l, p.1 ≠ k) : ldel l k = l := by
  unfold ldel
  rw [List.filter_eq_self.2]
  intro p hp
  have := h p hp
  simp [this]
theorem lins_last {x : Int × ByteArray} : ∀ {l : FL}, (∀ p ∈ l, p.1 < x.1) → lins x l = l ++ [x]
  | [], _ => rfl
  | y :: r, h => by
    have := h y (by simp)
    unfold lins
    rw [if_neg (by omega), lins_last (fun p hp => h p (by simp [hp]))]; rfl
theorem lget_absent {l : FL} {k : Int} (h : ∀ p ∈ l, p.1 ≠ k) : lget l k = none := by
  cases hg : lget l k with
  | none => rfl
  | some v => exact absurd rfl (h _ (lget_mem hg))
theorem rise_take {l : FL} (h : Rise l) (k : Nat) : Rise (l.take k) := List.Pairwise.sublist (List.take_sublist k l) h
theorem rise_at {l : FL} (h : Rise l) {k : Nat} {p : Int × ByteArray} (hp : l[k]? = some p) : ∀ q ∈ l.take k, q.1 < p.1 := by
  intro q hq
  obtain ⟨j, hj⟩ := List.mem_iff_getElem?.1 hq
  have hjk : j < k := by
    have := (List.getElem?_eq_some_iff.1 hj).1
    simp at this; omega
  rw [List.getElem?_take_of_lt hjk] at hj
  obtain ⟨h1, e1⟩ := List.getElem?_eq_some_iff.1 hj
  obtain ⟨h2, e2⟩ := List.getElem?_eq_some_iff.1 hp
  have := List.pairwise_iff_getElem.1 h j k h1 h2 hjk
  rw [e1, e2] at this; exact this
theorem topOf_le {l : FL} {m : Int} (h0 : 0 ≤ m) (h : ∀ p ∈ l, p.1 ≤ m) : topOf l ≤ m := by
  have : ∀ (l : FL) (a : Int), a ≤ m → (∀ p ∈ l, p.1 ≤ m) → l.foldl (fun m p => max m p.1) a ≤ m := by
    intro l
    induction l with
    | nil => intro a ha _; exact ha
    | cons y r ih => intro a ha hl; exact ih _ (Int.max_le.2 ⟨ha, hl y (by simp)⟩) (fun p hp => hl p (by simp [hp]))
  exact this l 0 h0 h
theorem topOf_ge (l : FL) : 0 ≤ topOf l ∧ ∀ p ∈ l, p.1 ≤ topOf l := by
  have : ∀ (l : FL) (a : Int), a ≤ l.foldl (fun m p => max m p.1) a ∧ ∀ p ∈ l, p.1 ≤ l.foldl (fun m p => max m p.1) a := by
    intro l
    induction l with
    | nil => intro a; exact ⟨Int.le_refl _, by simp⟩
    | cons y r ih =>
      intro a
      obtain ⟨i1, i2⟩ := ih (max a y.1)
      refine ⟨by simp only [List.foldl_cons]; omega, fun p hp => ?_⟩
      rcases List.mem_cons.1 hp with rfl | hp
      · simp only [List.foldl_cons]; omega
      · exact i2 p hp
  exact this l 0
theorem upTo_ok {s : St} (h : s.Ok) (k : Nat) : (upTo s.files k).Ok := by
  have hsub : ∀ p ∈ s.files.take k, p ∈ s.files := fun p hp => List.mem_of_mem_take hp
  obtain ⟨g0, g1⟩ := topOf_ge (s.files.take k)
  refine ⟨rise_take h.rise k, g0, ?_, fun p hp => ⟨(h.keys p (hsub p hp)).1, g1 p hp⟩, fun p hp => h.sizes p (hsub p hp)⟩
  have := topOf_le (l := s.files.take k) h.m0 (fun p hp => (h.keys p (hsub p hp)).2)
  have := h.m1
  show topOf (s.files.take k) ≤ 4000
  omega
theorem upTo_step {s : St} (h : s.Ok) {k : Nat} {p : Int × ByteArray} (hp : s.files[k]? = some p) :
    (upTo s.files k).copyE s p.1 = 0 ∧ (upTo s.files k).copy s p.1 = upTo s.files (k + 1) ∧ (upTo s.files (k + 1)).copyE s p.1 = 5 ∧ (upTo s.files (k + 1)).copy s p.1 = upTo s.files (k + 1) := by
  have hlt := rise_at h.rise hp
  obtain ⟨hk, he⟩ := List.getElem?_eq_some_iff.1 hp
  have hmem : p ∈ s.files := he ▸ List.getElem_mem hk
  have hg : lget s.files p.1 = some p.2 := lget_of_mem h.rise (k := p.1) (v := p.2) hmem
  have hn : ∀ q ∈ s.files.take k, q.1 ≠ p.1 := fun q hq => by have := hlt q hq; omega
  have ha : lget (s.files.take k) p.1 = none := lget_absent hn
  have ht : s.files.take (k + 1) = s.files.take k ++ [p] := by rw [List.take_succ_eq_append_getElem hk, he]
  have e2 : (upTo s.files k).copy s p.1 = upTo s.files (k + 1) := by
    have := (copy_new (upTo s.files k) s p.1 p.2 hg ha).2
    rw [this]
    unfold upTo lput
    rw [ldel_none hn, lins_last hlt, ht, topOf_snoc]
  have hb : lget (s.files.take (k + 1)) p.1 = some p.2 := lget_of_mem (rise_take h.rise _) (by rw [ht]; simp)
  have h5 := copy_twice (upTo s.files (k + 1)) s p.1 p.2 p.2 hg hb
  exact ⟨(copy_new (upTo s.files k) s p.1 p.2 hg ha).1, e2, h5.1, h5.2⟩
theorem upTo_all (s : St) : upTo s.files s.files.length = ⟨s.files, topOf s.files⟩ := by simp [upTo]
theorem top_last {s : St} (h : s.Ok) {p : Int × ByteArray} (hp : s.files[s.files.length - 1]? = some p) (hm : p.1 = s.most) : topOf s.files = s.most := by
  obtain ⟨hk, he⟩ := List.getElem?_eq_some_iff.1 hp
  have hmem : p ∈ s.files := he ▸ List.getElem_mem hk
  have h1 := (topOf_ge s.files).2 p hmem
  have h2 := topOf_le (l := s.files) h.m0 (fun p hp => (h.keys p hp).2)
  omega

theorem own_ints {w : World} {base e n : Nat} {v : Value} {xs : List Int} (h : w.ownsRow base e 1 v n (xs.map (Value.int .i64))) (hn : xs.length = n) :
    ∃ a c, v = .slice a n c ∧ n ≤ c ∧ (0 < n → ∃ g, a = some ⟨g, 0, none⟩ ∧ base ≤ g ∧ g < w.heap.size ∧ ∀ i, i < n → w.cell? ⟨g, i, none⟩ = some (.int .i64 (xs.getD i 0))) := by
  subst hn
  rcases h.2 with ⟨rfl, h0⟩ | ⟨g, cap, cur, rfl, hbase, hgb, r1, r2, r3, r4⟩
  · have : xs = [] := List.eq_nil_of_length_eq_zero h0
    subst this
    exact ⟨none, 0, rfl, by simp, fun h => absurd h (by simp)⟩
  · refine ⟨_, cap, rfl, by omega, fun _ => ⟨g, rfl, hbase, (Array.getElem?_eq_some_iff.1 hgb).1, fun i hi => ?_⟩⟩
    have hc := h.cells (g := g) rfl i (.int .i64 (xs.getD i 0)) (by simp [List.getElem?_eq_getElem hi, List.getD_eq_getElem?_getD])
    have ha : (⟨g, 0, none⟩ : Addr).add i = ⟨g, 0 + i, none⟩ := by unfold Addr.add; split <;> simp_all
    rw [ha, Nat.zero_add] at hc
    exact hc
theorem nums_at {s : St} {k : Nat} {p : Int × ByteArray} (hp : s.files[k]? = some p) : s.nums.getD k 0 = p.1 := by
  simp [St.nums, List.getD_eq_getElem?_getD, hp]
theorem get_at {s : St} (h : s.Ok) {k : Nat} {p : Int × ByteArray} (hp : s.files[k]? = some p) : s.getB p.1 = p.2 ∧ s.getE p.1 = 0 := by
  have hg : lget s.files p.1 = some p.2 := lget_of_mem h.rise (k := p.1) (v := p.2) (List.mem_iff_getElem?.2 ⟨k, hp⟩)
  simp [St.getB, St.getE, hg]
theorem key_wf {s : St} (h : s.Ok) {k : Nat} {p : Int × ByteArray} (hp : s.files[k]? = some p) : (Lit.int .i64 p.1).wf = true := by
  have := h.keys p (List.mem_iff_getElem?.2 ⟨k, hp⟩)
  have := h.m1
  exact wf_small (by omega) (by omega)

set_option maxRecDepth 100000 in
set_option maxHeartbeats 4000000 in
theorem copied_any (a : Option Addr) (n c : Nat) (xs : List Ac) (w : World) (h1 : ActsB w.heap.size w a n xs) :
    Calls Try.prog 4 #[.slice a n c] w (RetTrue w) := by
  have H1 := hid h1
  clear h1
  go_enter Try.func4, Try.ntmps4
  go_wp2_with fail
  refine (great_any _ _ _ _ _ _ H1.out).mono ?_
  rintro e w1 ⟨r1, rfl, -, rfl⟩
  cases r1
  case true =>
    go_wp2_with fail
    refine (awake_any _).mono ?_
    rintro e w1 ⟨rfl, f1⟩
    go_wp2_with fail
    go_ret
    exact ⟨rfl, f1.below0⟩
  go_wp2_with fail
  refine (new_store _).mono ?_
  rintro e w1 ⟨b, mb, rfl, s1, f1, z1, z2⟩
  have F1 := hid f1
  go_wp2_with fail
  refine (new_store _).mono ?_
  rintro e w2 ⟨b2, mb2, rfl, t2, f2, z3, z4⟩
  have s2 := s1.fr f2 (by simp) (by simp)
  have hN := s1.ne2 z3 z4
  have F2 := hid (F1.out.then f2)
  have z5 : w.heap.size ≤ b2 := Nat.le_trans F1.out.size z3
  have z6 : w.heap.size ≤ mb2 := Nat.le_trans F1.out.size z4
  have HN : Hid (b ≠ b2 ∧ mb ≠ mb2) := by simp at hN; exact ⟨by omega, by omega⟩
  have HZ : Hid ((w.heap.size ≤ b ∧ w.heap.size ≤ mb) ∧ w.heap.size ≤ b2 ∧ w.heap.size ≤ mb2) := ⟨⟨z1, z2⟩, z5, z6⟩
  have HF : Hid (∀ z, z ∈ [b, mb, b2, mb2] → z ∈ ([] : List Nat) ∨ w.heap.size ≤ z) := by
    intro z hz; simp at hz; rcases hz with rfl | rfl | rfl | rfl <;> right <;> assumption
  clear f1 f2 s1 F1 z1 z2 z3 z4 z5 z6 hN
  go_wp2_with fail
  refine (play_any w.heap.size _ _ _ xs _ (H1.out.below (F2.out.below (Nat.le_refl _) (by simp))) b mb b2 mb2 _ _ s2 t2 HZ.out.1.1 HZ.out.1.2 HZ.out.2.1 HZ.out.2.2 HN.out.1 HN.out.2).mono ?_
  rintro e w3 ⟨rfl, d3⟩
  have F3 := hid (F2.out.trans d3.fr HF.out)
  obtain ⟨s3, -, -⟩ := d3
  clear s2 t2 F2 HN
  generalize playL xs (St.empty, St.empty) = p at s3
  obtain ⟨s, t⟩ := p
  simp only at s3
  clear t
  go_wp2_with fail
  refine (new_store _).mono ?_
  rintro e w4 ⟨bu, mu, rfl, u4, f4, z1, z2⟩
  have s4 := s3.fr f4 (by simp) (by simp)
  have hN := s3.ne2 z1 z2
  have F4 := hid (F3.out.then f4)
  have HU : Hid (w.heap.size ≤ bu ∧ w.heap.size ≤ mu) := ⟨Nat.le_trans F3.out.size z1, Nat.le_trans F3.out.size z2⟩
  have HN := hid hN
  have hul := u4.lt
  have hml := u4.map.lt
  clear f4 s3 F3 z1 z2 hN HF
  go_wp2_with fail
  refine (files_any b mb s _ s4).mono ?_
  rintro e w5 ⟨v, rfl, hv, f5⟩
  have s5 := s4.fr f5 (by simp) (by simp)
  have u5 := u4.fr f5 (by simp) (by simp)
  have F5 := hid (F4.out.then f5)
  obtain ⟨av, cv, rfl, hcv, hav⟩ := own_ints hv (by simp [St.nums])
  have hlen := s5.ok.len
  have HA : Hid (0 < s.files.length → ∃ g, av = some ⟨g, 0, none⟩ ∧ (g ∉ [bu, mu]) ∧ g < w5.heap.size ∧ ∀ i p, s.files[i]? = some p → w5.cell? ⟨g, i, none⟩ = some (.int .i64 p.1)) := fun h0 => by
    obtain ⟨g, e, g1, g2, g3⟩ := hav h0
    refine ⟨g, e, by simp; omega, g2, fun i p hp => ?_⟩
    rw [g3 i (List.getElem?_eq_some_iff.1 hp).1, nums_at hp]
  have HG : Hid (∀ g, av = some ⟨g, 0, none⟩ → 0 < s.files.length → g ∉ [bu, mu] ∧ g ∉ [b, mb]) := fun g e h0 => by
    obtain ⟨g', e', g1, g2, g3⟩ := hav h0
    rw [e] at e'
    cases e'
    have := s4.lt
    have := s4.map.lt
    constructor <;> simp <;> omega
  have S5 := hid s5
  have U5 : Hid (StoreAt w5 bu mu (upTo s.files 0)) := u5
  have HO := hid s5.ok
  clear hv f5 s4 u4 F4 hav s5 u5 hul hml
  generalize hnn : s.files.length = nn at *
  have HNN := hid hnn
  clear hnn
  go_wp2_with fail
  go_loopw [7] (fun i wr => ∃ (k : Nat), i = .int .i64 k ∧ k ≤ nn ∧ StoreAt wr bu mu (upTo s.files k) ∧ Fr [bu, mu] w5 wr) (fun i _ => nn - (intOf i).toNat)
  case atStart => exact ⟨0, rfl, Nat.zero_le _, U5.out, Fr.refl _ _⟩
  case round =>
    obtain ⟨k, rfl, hk, hu, hfr⟩ := hrel
    by_cases hlt : k < nn
    · obtain ⟨p, hp⟩ : ∃ p, s.files[k]? = some p := ⟨_, List.getElem?_eq_getElem (by rw [HNN.out]; exact hlt)⟩
      obtain ⟨g, rfl, g1, g2, g3⟩ := HA.out (by omega)
      have hst := upTo_step HO.out hp
      have hwf := key_wf HO.out hp
      have ss := S5.out.fr hfr HN.out.1 HN.out.2
      have hc : wr.cell? ⟨g, k, none⟩ = some (.int .i64 p.1) := (hfr.cell (p := ⟨g, k, none⟩) g2 g1).trans (g3 k p hp)
      have C1 := hid (copy_any bu mu (upTo s.files k) b mb s p.1 hwf wr hu ss)
      have HST := hid hst
      have HW := hid hwf
      have HR := hid hfr
      have HSS := hid ss
      clear g1 g2 g3 hst hwf ss hfr hu hp
      go_wp2_with fail
      refine C1.out.mono ?_
      rintro e w6 ⟨he, hu6, f6⟩
      rw [HST.out.1] at he
      rw [HST.out.2.1] at hu6
      subst he
      have hc6 : w6.cell? ⟨g, k, none⟩ = some (.int .i64 p.1) := by
        obtain ⟨g', e', g1, g2, g3⟩ := HA.out (by omega)
        cases e'
        rw [f6.cell (p := ⟨g, k, none⟩) (World.block_lt_of_cell? _ _ hc) g1]; exact hc
      have ss6 := HSS.out.fr f6 HN.out.1 HN.out.2
      have HR6 := hid (HR.out.then f6)
      have C2 := hid (copy_any bu mu (upTo s.files (k + 1)) b mb s p.1 HW.out w6 hu6 ss6)
      clear hu6 f6 ss6 hc
      go_wp2_with fail
      refine C2.out.mono ?_
      rintro e w7 ⟨he, hu7, f7⟩
      rw [HST.out.2.2.1] at he
      rw [HST.out.2.2.2] at hu7
      subst he
      have HU7 := hid hu7
      have HR7 := hid (HR6.out.then f7)
      clear hu7 f7 hc6
      go_wp2_with fail
      go_roundw
      case rel => exact ⟨k + 1, by go_num, by omega, HU7.out, HR7.out⟩
      case measure => simp [intOf]; omega
    · have hkn : k = s.files.length := by rw [HNN.out]; omega
      have ss := S5.out.fr hfr HN.out.1 HN.out.2
      have F6 := hid (F5.out.trans hfr (fun z hz => by simp at hz; rcases hz with rfl | rfl; exact .inr HU.out.1; exact .inr HU.out.2))
      rw [hkn, upTo_all] at hu
      have HA6 : Hid (0 < s.files.length → ∃ g, av = some ⟨g, 0, none⟩ ∧ (g ∉ [bu, mu]) ∧ ∀ i p, s.files[i]? = some p → wr.cell? ⟨g, i, none⟩ = some (.int .i64 p.1)) := fun h0 => by
        obtain ⟨g, e, g1, g2, g3⟩ := HA.out (by rw [← HNN.out]; exact h0)
        exact ⟨g, e, g1, fun i p hp => (hfr.cell (p := ⟨g, i, none⟩) g2 g1).trans (g3 i p hp)⟩
      have HS6 := hid ss
      have HU6 := hid hu
      clear ss hu hfr hkn HA S5 U5 F5
      go_wp2_with fail
      go_loop [8] (fun i => ∃ (k : Nat), i = .int .i64 k ∧ k ≤ nn) (fun i => nn - (intOf i).toNat)
      case atStart => exact ⟨0, rfl, Nat.zero_le _⟩
      case round =>
        obtain ⟨k2, rfl, hk2⟩ := hrel
        by_cases hlt2 : k2 < nn
        · obtain ⟨p, hp⟩ : ∃ p, s.files[k2]? = some p := ⟨_, List.getElem?_eq_getElem (by rw [HNN.out]; exact hlt2)⟩
          obtain ⟨g, rfl, g1, g3⟩ := HA6.out (by rw [HNN.out]; omega)
          have hc := g3 k2 p hp
          have C1 := get_any b mb s p.1 (key_wf HO.out hp) wr HS6.out
          have C2 := get_any bu mu ⟨s.files, topOf s.files⟩ p.1 (key_wf HO.out hp) wr HU6.out
          rw [(get_at HO.out hp).1, (get_at HO.out hp).2] at C1
          rw [show St.getB ⟨s.files, topOf s.files⟩ p.1 = p.2 from (get_at HO.out hp).1, show St.getE ⟨s.files, topOf s.files⟩ p.1 = 0 from (get_at HO.out hp).2] at C2
          have D1 := hid C1
          have D2 := hid C2
          clear g1 g3 hp C1 C2
          go_wp2_with fail
          refine D1.out.mono ?_
          rintro e w8 ⟨rfl, rfl⟩
          go_wp2_with fail
          refine D2.out.mono ?_
          rintro e w8 ⟨rfl, rfl⟩
          go_wp2_with fail
          go_round
          case rel => exact ⟨k2 + 1, by go_num, by omega⟩
          case measure => simp [intOf]; omega
        · go_wp2_with fail
          refine (files_any bu mu _ wr HU6.out).mono ?_
          rintro e w8 ⟨v2, rfl, hv2, f8⟩
          have I2 : IntsR w8 v2 s.nums := IntsR.of_own hv2 (by simp [St.nums]) (by have := HNN.out; simp [St.nums]; omega)
          have HA8 : Hid (0 < s.files.length → ∃ g, av = some ⟨g, 0, none⟩ ∧ ∀ i p, s.files[i]? = some p → w8.cell? ⟨g, i, none⟩ = some (.int .i64 p.1)) := fun h0 => by
            obtain ⟨g, e, g1, g3⟩ := HA6.out h0
            refine ⟨g, e, fun i p hp => ?_⟩
            rw [f8.cell (p := ⟨g, i, none⟩) (World.block_lt_of_cell? _ _ (g3 i p hp)) (by simp)]
            exact g3 i p hp
          have I1 : IntsR w8 (.slice av nn cv) s.nums := by
            have hl : s.nums.length = nn := by have := HNN.out; simp [St.nums]; omega
            refine ⟨av, cv, by rw [hl], by omega, by omega, fun h0 => ?_⟩
            obtain ⟨g, rfl, g3⟩ := HA8.out (by have := HNN.out; omega)
            refine ⟨g, 0, rfl, fun i hi => ?_⟩
            have hi' : i < s.files.length := by have := HNN.out; omega
            rw [Nat.zero_add, g3 i _ (List.getElem?_eq_getElem hi'), nums_at (List.getElem?_eq_getElem hi')]
          have S8 := HS6.out.fr f8 (by simp) (by simp)
          have U8 := HU6.out.fr f8 (by simp) (by simp)
          have F8 := hid (F6.out.then f8)
          clear hv2 f8 HS6 HU6 F6 HA6
          go_wp2_with fail
          refine (same_any _ _ _ _ _ I1 I2).mono ?_
          rintro e w9 ⟨he, f9⟩
          rw [decide_eq_true rfl] at he
          subst he
          have S9 := S8.fr f9 (by simp) (by simp)
          have U9 := U8.fr f9 (by simp) (by simp)
          have F9 := hid (F8.out.then f9)
          have HA9 : Hid (0 < s.files.length → ∃ g, av = some ⟨g, 0, none⟩ ∧ ∀ i p, s.files[i]? = some p → w9.cell? ⟨g, i, none⟩ = some (.int .i64 p.1)) := fun h0 => by
            obtain ⟨g, e, g3⟩ := HA8.out h0
            refine ⟨g, e, fun i p hp => ?_⟩
            rw [f9.cell (p := ⟨g, i, none⟩) (World.block_lt_of_cell? _ _ (g3 i p hp)) (by simp)]
            exact g3 i p hp
          clear I1 I2 HA8 S8 U8 F8 f9
          have T9 := hid S9
          have V9 := hid U9
          clear S9 U9
          by_cases h0 : nn = 0
          · have hd : decide (0 < nn) = false := by simp [h0]
            have hd2 : decide ((0 : Int) < (nn : Int)) = false := by simp [h0]
            clear h0
            go_wp2_with fail
            go_quiet (fail)
            go_wp2_with fail
            refine (awake_any _).mono ?_
            rintro e w10 ⟨rfl, f10⟩
            go_wp2_with fail
            go_ret
            exact ⟨rfl, (((F9.out.drewN _).then f10)).below0⟩
          · obtain ⟨p, hp⟩ : ∃ p, s.files[s.files.length - 1]? = some p := ⟨_, List.getElem?_eq_getElem (by have := HNN.out; omega)⟩
            obtain ⟨g, rfl, g3⟩ := HA9.out (by have := HNN.out; omega)
            have hc : w9.cell? ⟨g, nn - 1, none⟩ = some (.int .i64 p.1) := by rw [← HNN.out]; exact g3 _ p hp
            have hb1 : 1 ≤ nn := by omega
            have hgd : decide (0 < nn) = true := by simp; omega
            have hgd2 : decide ((0 : Int) < (nn : Int)) = true := by simp; omega
            have hwfp := bd64 (key_wf HO.out hp)
            have HP := hid hp
            have HH0 := hid h0
            clear h0 g3 hp
            have hw0 : (1 : Int) ≤ (nn : Int) := by omega
            have hw4 : (nn : Int) - 1 < (nn : Int) := by omega
            have hw2 : 0 ≤ (nn : Int) - 1 := by omega
            have hw3 : ((nn : Int) - 1).toNat = nn - 1 := by omega
            have hw1 : IntKind.i64.wrap ((nn : Int) - 1) = (nn : Int) - 1 := IntWalk.i64_in _ (by omega)
            by_cases hm : p.1 = s.most
            · have hmb : (p.1 == s.most) = true := by simp [hm]
              have HM := hid hm
              clear hm
              go_wp2_with fail
              go_quiet ((go_at_call 11; exact Calls.quiet_of_same ((most_any b mb s _ (T9.out.fr ((Fr.refl [] w9).drewN _) (by simp) (by simp))).mono fun e w' ⟨h1, h2⟩ => ⟨h1, h2.symm⟩)))
              have hgu : s.putN ⟨#[120]⟩ = St.putN ⟨s.files, topOf s.files⟩ ⟨#[120]⟩ ∧ s.putE ⟨#[120]⟩ = St.putE ⟨s.files, topOf s.files⟩ ⟨#[120]⟩ := by
                rw [top_last HO.out HP.out HM.out]; exact ⟨rfl, rfl⟩
              have Hbu : Hid (bu ∉ [b, mb] ∧ mu ∉ [b, mb]) := by
                have hx := HN.out; simp at hx; constructor <;> simp <;> omega
              have P1 := put_any b mb s ⟨#[120]⟩ (w9.drewN nq) (T9.out.fr ((Fr.refl [] w9).drewN _) (by simp) (by simp)) (by decide)
              have U10 := V9.out.fr ((Fr.refl [] w9).drewN nq) (by simp) (by simp)
              have HFu : Hid (Fr [] w (w9.drewN nq)) := F9.out.drewN _
              have HGU := hid hgu
              have HU10 := hid U10
              have Q1 := hid P1
              clear hgu U10 P1
              go_wp2_with fail
              refine Q1.out.mono ?_
              rintro e w10 ⟨rfl, -, f10⟩
              have U11 := HU10.out.fr f10 Hbu.out.1 Hbu.out.2
              have hc10 : w10.cell? ⟨g, nn - 1, none⟩ = some (.int .i64 p.1) := by
                have : (w9.drewN nq).cell? ⟨g, nn - 1, none⟩ = w9.cell? ⟨g, nn - 1, none⟩ := rfl
                rw [f10.cell (p := ⟨g, nn - 1, none⟩) (World.block_lt_of_cell? _ _ (this.trans hc)) (HG.out g rfl hb1).2, this]; exact hc
              have F11 := hid (HFu.out.trans f10 (fun z hz => by simp at hz; rcases hz with rfl | rfl; exact .inr HZ.out.1.1; exact .inr HZ.out.1.2))
              have P2 := put_any bu mu ⟨s.files, topOf s.files⟩ ⟨#[120]⟩ w10 U11 (by decide)
              rw [← HGU.out.1, ← HGU.out.2] at P2
              have Q2 := hid P2
              clear f10 U11 P2
              go_wp2_with fail
              refine Q2.out.mono ?_
              rintro e w11 ⟨rfl, -, f11⟩
              have hc11 : w11.cell? ⟨g, nn - 1, none⟩ = some (.int .i64 p.1) := by
                rw [f11.cell (p := ⟨g, nn - 1, none⟩) (World.block_lt_of_cell? _ _ hc10) (HG.out g rfl hb1).1]; exact hc10
              have F12 := hid (F11.out.trans f11 (fun z hz => by simp at hz; rcases hz with rfl | rfl; exact .inr HU.out.1; exact .inr HU.out.2))
              clear f11 hc hc10
              by_cases h4 : s.most = 4000
              · have e1 : s.putE ⟨#[120]⟩ = 2 := by simp [St.putE, St.full, h4]
                have e2 : (p.1 == 4000) = true := by rw [HM.out]; simp [h4]
                rw [e1]
                clear e1 h4
                go_wp2_with fail
                refine (awake_any _).mono ?_
                rintro e w12 ⟨rfl, f12⟩
                go_wp2_with fail
                go_ret
                exact ⟨rfl, (F12.out.then f12).below0⟩
              · have e1 : s.putE ⟨#[120]⟩ = 0 := by
                  have : s.full ⟨#[120]⟩ = false := by have := HO.out.m1; simp only [St.full, Bool.or_eq_false_iff, decide_eq_false_iff_not]; exact ⟨by decide, by omega⟩
                  simp [St.putE, this]
                rw [e1]
                clear e1 h4
                go_wp2_with fail
                refine (awake_any _).mono ?_
                rintro e w12 ⟨rfl, f12⟩
                go_wp2_with fail
                go_ret
                exact ⟨rfl, (F12.out.then f12).below0⟩
            · have hmb : (p.1 == s.most) = false := by simp [hm]
              clear hm
              go_wp2_with fail
              go_quiet ((go_at_call 11; exact Calls.quiet_of_same ((most_any b mb s _ (T9.out.fr ((Fr.refl [] w9).drewN _) (by simp) (by simp))).mono fun e w' ⟨h1, h2⟩ => ⟨h1, h2.symm⟩)))
              go_wp2_with fail
              refine (awake_any _).mono ?_
              rintro e w10 ⟨rfl, f10⟩
              go_wp2_with fail
              go_ret
              exact ⟨rfl, (((F9.out.drewN _).then f10)).below0⟩

end Go.Proofs.Ytggkhgpdnjkfcaa
