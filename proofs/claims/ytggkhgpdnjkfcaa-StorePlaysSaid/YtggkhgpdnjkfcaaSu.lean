/-
  Plain laws for StoreUsed; the walk of StoreUsed.
-/
import Derived.Test.YtggkhgpdnjkfcaaSq
import Derived.Test.YtggkhgpdnjkfcaaSr
namespace Go.Proofs.Ytggkhgpdnjkfcaa
open Go.RowKit Go.Maps

theorem lput_there {k : Int} {u : ByteArray} (v : ByteArray) : ∀ {l : FL}, Rise l → lget l k = some u → ∃ l1 l2, l = l1 ++ (k, u) :: l2 ∧ lput l k v = l1 ++ (k, v) :: l2
  | [], _, h => by cases h
  | (a, w) :: r, hr, h => by
    obtain ⟨h1, h2⟩ := List.pairwise_cons.1 hr
    unfold lget at h
    by_cases e : a = k
    · subst e
      simp only [if_true, Option.some.injEq] at h; subst h
      refine ⟨[], r, rfl, ?_⟩
      have hd : ldel ((a, w) :: r) a = r := by
        unfold ldel
        rw [List.filter_cons_of_neg (by simp)]
        exact ldel_none (fun p hp => by have := h1 p hp; simp only at this; omega)
      unfold lput
      rw [hd]
      cases r with
      | nil => rfl
      | cons y r => have := h1 y (by simp); simp only at this; simp [lins, this]
    · simp only [e, if_false] at h
      obtain ⟨l1, l2, e1, e2⟩ := lput_there v h2 h
      have hk : a < k := h1 _ (lget_mem h)
      refine ⟨(a, w) :: l1, l2, by rw [e1]; rfl, ?_⟩
      have hd : ldel ((a, w) :: r) k = (a, w) :: ldel r k := by
        unfold ldel
        rw [List.filter_cons_of_pos (by simp [e])]
      unfold lput at e2 ⊢
      rw [hd]
      unfold lins
      rw [if_neg (by simp only; omega), e2]; rfl
theorem sumB_append : ∀ a b : FL, sumB (a ++ b) = sumB a + sumB b
  | [], b => by simp [sumB]
  | p :: r, b => by simp only [List.cons_append, sumB, sumB_append r b]; omega
theorem dmg_same {s : St} (h : s.Ok) (k x y : Int) : (s.dmg k x y).used = s.used ∧ (s.dmg k x y).nums = s.nums := by
  unfold St.dmg
  cases hg : lget s.files k with
  | none => exact ⟨rfl, rfl⟩
  | some v =>
    simp only
    split
    · exact ⟨rfl, rfl⟩
    · obtain ⟨l1, l2, e1, e2⟩ := lput_there (dmgB v x y) h.rise hg
      unfold St.used St.nums
      simp only
      rw [e2, e1]
      constructor
      · rw [sumB_append, sumB_append]
        simp only [sumB, dmgB_size]
      · simp
theorem sumB_more {s : St} {k : Nat} {p : Int × ByteArray} (hp : s.files[k]? = some p) : sumB (s.files.take (k + 1)) = sumB (s.files.take k) + p.2.size := by
  obtain ⟨hk, he⟩ := List.getElem?_eq_some_iff.1 hp
  rw [List.take_succ_eq_append_getElem hk, he, sumB_append]
  simp [sumB]
theorem sumB_bd : ∀ l : FL, (∀ p ∈ l, p.2.size ≤ 8388608) → 0 ≤ sumB l ∧ sumB l ≤ 8388608 * l.length
  | [], _ => by simp [sumB]
  | p :: r, h => by
    have := sumB_bd r (fun q hq => h q (by simp [hq]))
    have := h p (by simp)
    simp only [sumB, List.length_cons]
    push_cast
    omega

set_option maxRecDepth 100000 in
set_option maxHeartbeats 4000000 in
theorem used_law (a : Option Addr) (n c : Nat) (xs : List Ac) (file at_ by_ : Int) (la : Option Addr) (ln lc : Nat) (nums : List Int) (w : World) (h1 : ActsB w.heap.size w a n xs) (hf : (Lit.int .i64 file).wf = true)
    (hl : IntsR w (.slice la ln lc) nums) (hlb : ∀ b off n c, (.slice la ln lc : Value) = .slice (some ⟨b, off, none⟩) n c → 0 < n → b < w.heap.size) (hlw : ∀ z ∈ nums, (Lit.int .i64 z).wf = true) :
    Calls Try.prog 6 #[.slice a n c, .int .i64 file, .int .i64 at_, .int .i64 by_, .slice la ln lc] w (RetTrue w) := by
  have H1 := hid h1
  have HL := hid hl
  have HLB := hid hlb
  have HLW := hid hlw
  have hlen0 : nums.length = ln ∧ nums.length ≤ 9223372036854775807 := by obtain ⟨_, _, e, h, _⟩ := hl; injection e with _ e2 _; exact ⟨e2.symm, h⟩
  have hln : ln ≤ 9223372036854775807 := by omega
  have HLN := hid hlen0.1
  clear h1 hl hlb hlw hlen0
  go_enter Try.func6, Try.ntmps6
  go_wp2_with fail
  refine (great_any _ _ _ _ _ _ H1.out).mono ?_
  rintro e w1 ⟨r1, rfl, -, rfl⟩
  cases r1
  case true =>
    go_wp2_with fail
    refine (awake_any _).mono ?_
    rintro e w1 ⟨rfl, f1⟩
    go_wp2_with fail
    go_ret
    exact ⟨rfl, f1.below0⟩
  by_cases hb2 : 100 < ln
  · go_wp2_with fail
    refine (awake_any _).mono ?_
    rintro e w1 ⟨rfl, f1⟩
    go_wp2_with fail
    go_ret
    exact ⟨rfl, f1.below0⟩
  go_wp2_with fail
  refine (new_store _).mono ?_
  rintro e w1 ⟨b, mb, rfl, s1, f1, z1, z2⟩
  have F1 := hid f1
  go_wp2_with fail
  refine (new_store _).mono ?_
  rintro e w2 ⟨b2, mb2, rfl, t2, f2, z3, z4⟩
  have s2 := s1.fr f2 (by simp) (by simp)
  have hN := s1.ne2 z3 z4
  have F2 := hid (F1.out.then f2)
  have z5 : w.heap.size ≤ b2 := Nat.le_trans F1.out.size z3
  have z6 : w.heap.size ≤ mb2 := Nat.le_trans F1.out.size z4
  have HN : Hid (b ≠ b2 ∧ mb ≠ mb2) := by simp at hN; exact ⟨by omega, by omega⟩
  have HZ : Hid ((w.heap.size ≤ b ∧ w.heap.size ≤ mb) ∧ w.heap.size ≤ b2 ∧ w.heap.size ≤ mb2) := ⟨⟨z1, z2⟩, z5, z6⟩
  have HF : Hid (∀ z, z ∈ [b, mb, b2, mb2] → z ∈ ([] : List Nat) ∨ w.heap.size ≤ z) := by
    intro z hz; simp at hz; rcases hz with rfl | rfl | rfl | rfl <;> right <;> assumption
  clear f1 f2 s1 F1 z1 z2 z3 z4 z5 z6 hN
  go_wp2_with fail
  refine (play_any w.heap.size _ _ _ xs _ (H1.out.below (F2.out.below (Nat.le_refl _) (by simp))) b mb b2 mb2 _ _ s2 t2 HZ.out.1.1 HZ.out.1.2 HZ.out.2.1 HZ.out.2.2 HN.out.1 HN.out.2).mono ?_
  rintro e w3 ⟨rfl, d3⟩
  have F3 := hid (F2.out.trans d3.fr HF.out)
  obtain ⟨s3, -, -⟩ := d3
  clear s2 t2 F2 HN HF
  generalize playL xs (St.empty, St.empty) = p at s3
  obtain ⟨s, t⟩ := p
  simp only at s3
  clear t
  have HO := hid s3.ok
  go_wp2_with fail
  refine (files_any b mb s _ s3).mono ?_
  rintro e w4 ⟨v, rfl, hv, f4⟩
  have s4 := s3.fr f4 (by simp) (by simp)
  have F4 := hid (F3.out.then f4)
  obtain ⟨av, cv, rfl, hcv, hav⟩ := own_ints hv (by simp [St.nums])
  have hgb : Hid (∀ g, av = some ⟨g, 0, none⟩ → 0 < s.files.length → g ∉ [b, mb]) := fun g e h0 => by
    obtain ⟨g', e', g1, g2, g3⟩ := hav h0
    rw [e] at e'
    cases e'
    have := s3.lt
    have := s3.map.lt
    simp; omega
  have HA : Hid (0 < s.files.length → ∃ g, av = some ⟨g, 0, none⟩ ∧ ∀ i p, s.files[i]? = some p → w4.cell? ⟨g, i, none⟩ = some (.int .i64 p.1)) := fun h0 => by
    obtain ⟨g, e, g1, g2, g3⟩ := hav h0
    refine ⟨g, e, fun i p hp => ?_⟩
    rw [g3 i (List.getElem?_eq_some_iff.1 hp).1, nums_at hp]
  have hlen := s4.ok.len
  clear hv f4 s3 F3 hav
  go_wp2_with fail
  refine (used_any b mb s _ s4).mono ?_
  rintro e w5 ⟨rfl, f5⟩
  have s5 := s4.fr f5 (by simp) (by simp)
  have F5 := hid (F4.out.then f5)
  have HA5 : Hid (0 < s.files.length → ∃ g, av = some ⟨g, 0, none⟩ ∧ ∀ i p, s.files[i]? = some p → w5.cell? ⟨g, i, none⟩ = some (.int .i64 p.1)) := fun h0 => by
    obtain ⟨g, e, g3⟩ := HA.out h0
    refine ⟨g, e, fun i p hp => ?_⟩
    rw [f5.cell (p := ⟨g, i, none⟩) (World.block_lt_of_cell? _ _ (g3 i p hp)) (by simp)]
    exact g3 i p hp
  have S5 := hid s5
  clear s4 f5 F4 HA s5
  generalize hnn : s.files.length = nn at *
  have HNN := hid hnn
  clear hnn
  have HBD : Hid (∀ k, 0 ≤ sumB (s.files.take k) ∧ sumB (s.files.take k) ≤ 8388608 * 4000) := fun k => by
    have := sumB_bd (s.files.take k) (fun p hp => HO.out.sizes p (List.mem_of_mem_take hp))
    have h2 : (s.files.take k).length ≤ 4000 := by
      have := HO.out.len
      rw [List.length_take]; omega
    omega
  go_wp2_with fail
  go_loop [15, 16] (fun m i => ∃ (k : Nat), i = .int .i64 k ∧ k ≤ nn ∧ m = .int .i64 (sumB (s.files.take k))) (fun _ i => nn - (intOf i).toNat)
  case atStart => exact ⟨0, rfl, Nat.zero_le _, rfl⟩
  case round =>
    obtain ⟨k, rfl, hk, rfl⟩ := hrel
    have hbd := HBD.out k
    by_cases hlt : k < nn
    · obtain ⟨p, hp⟩ : ∃ p, s.files[k]? = some p := ⟨_, List.getElem?_eq_getElem (by rw [HNN.out]; exact hlt)⟩
      obtain ⟨g, rfl, g3⟩ := HA5.out (by omega)
      have hc := g3 k p hp
      have hps : p.2.size ≤ 8388608 := HO.out.sizes p (List.mem_iff_getElem?.2 ⟨k, hp⟩)
      have C1 := get_any b mb s p.1 (key_wf HO.out hp) w5 S5.out
      rw [(get_at HO.out hp).1, (get_at HO.out hp).2] at C1
      have D1 := hid C1
      have HS := hid (sumB_more hp)
      clear C1 g3 hp
      go_wp2_with fail
      refine D1.out.mono ?_
      rintro e w6 ⟨rfl, rfl⟩
      go_wp2_with fail
      go_round
      case rel => exact ⟨k + 1, by go_num, by omega, by rw [HS.out]⟩
      case measure => simp [intOf]; omega
    · have HK : Hid (sumB (s.files.take k) = s.used) := by rw [List.take_of_length_le (by rw [HNN.out]; omega)]; rfl
      have D1 := hid (get_any b mb s file hf w5 S5.out)
      go_wp2_with fail
      refine D1.out.mono ?_
      rintro e w6 ⟨rfl, rfl⟩
      have HM : Hid (Calls Try.prog 21 #[.pointer (some ⟨b, 0, none⟩), .slice la ln lc] w5 fun e w' => ∃ v, e = .returned v ∧ Fr [] w5 w') := by
        have hl5 : IntsR w5 (.slice la ln lc) nums := by
          obtain ⟨a', c', e, h1, h2, h3⟩ := HL.out
          refine ⟨a', c', e, h1, h2, fun h0 => ?_⟩
          obtain ⟨b', off', rfl, hc⟩ := h3 h0
          refine ⟨b', off', rfl, fun i hi => ?_⟩
          rw [F5.out.cell (p := ⟨b', off' + i, none⟩) (World.block_lt_of_cell? _ _ (hc i hi)) (by simp)]
          exact hc i hi
        cases la with
        | none =>
          have : ln = 0 := by
            obtain ⟨a', c', e, h1, h2, h3⟩ := HL.out
            cases hx : nums.length with
            | zero => have := HLN.out; omega
            | succ m => obtain ⟨b', off', e2, _⟩ := h3 (by omega); injection e with e3 _ _; rw [e2] at e3; cases e3
          subst this
          exact (missing_nil b mb s lc w5 S5.out).mono fun e w' ⟨h1, h2⟩ => ⟨_, h1, h2⟩
        | some ad => exact (missing_some b mb s ad ln lc nums HLW.out w5 S5.out hl5 (by omega)).mono fun e w' ⟨g, cap, h1, _, _, h2⟩ => ⟨_, h1, h2⟩
      go_wp2_with fail
      refine HM.out.mono ?_
      rintro e w6 ⟨v6, rfl, f6⟩
      have S6 := hid (S5.out.fr f6 (by simp) (by simp))
      have F6 := hid (F5.out.then f6)
      have HA6 : Hid (0 < nn → ∃ g, av = some ⟨g, 0, none⟩ ∧ ∀ i p, s.files[i]? = some p → w6.cell? ⟨g, i, none⟩ = some (.int .i64 p.1)) := fun h0 => by
        obtain ⟨g, e, g3⟩ := HA5.out h0
        refine ⟨g, e, fun i p hp => ?_⟩
        rw [f6.cell (p := ⟨g, i, none⟩) (World.block_lt_of_cell? _ _ (g3 i p hp)) (by simp)]
        exact g3 i p hp
      clear f6 HM D1 S5 F5 HA5
      go_wp2_with fail
      refine (dmg_any b mb s file at_ by_ hf w6 S6.out).mono ?_
      rintro e w7 ⟨rfl, s7, f7⟩
      have F7 := hid (F6.out.trans f7 (fun z hz => by simp at hz; rcases hz with rfl | rfl; exact .inr HZ.out.1.1; exact .inr HZ.out.1.2))
      have HA7 : Hid (0 < nn → ∃ g, av = some ⟨g, 0, none⟩ ∧ ∀ i p, s.files[i]? = some p → w7.cell? ⟨g, i, none⟩ = some (.int .i64 p.1)) := fun h0 => by
        obtain ⟨g, e, g3⟩ := HA6.out h0
        refine ⟨g, e, fun i p hp => ?_⟩
        rw [f7.cell (p := ⟨g, i, none⟩) (World.block_lt_of_cell? _ _ (g3 i p hp)) (hgb.out g e h0)]
        exact g3 i p hp
      have HD := hid (dmg_same HO.out file at_ by_)
      generalize s.dmg file at_ by_ = q at s7 HD
      clear f7 S6 F6 HA6
      go_wp2_with fail
      refine (clone_any b mb q w7 s7).mono ?_
      rintro e w8 ⟨rfl, q8, f8⟩
      have s8 := s7.fr f8 (by simp) (by simp)
      have hN8 := s7.ne2 (b2 := w7.heap.size + 1) (mb2 := w7.heap.size) (by omega) (by omega)
      have F8 := hid (F7.out.then f8)
      have HA8 : Hid (0 < nn → ∃ g, av = some ⟨g, 0, none⟩ ∧ g < w7.heap.size ∧ ∀ i p, s.files[i]? = some p → w8.cell? ⟨g, i, none⟩ = some (.int .i64 p.1)) := fun h0 => by
        obtain ⟨g, e, g3⟩ := HA7.out h0
        have hp0 : s.files[0]? = some (s.files[0]'(by rw [HNN.out]; exact h0)) := List.getElem?_eq_getElem _
        refine ⟨g, e, World.block_lt_of_cell? _ _ (g3 0 _ hp0), fun i p hp => ?_⟩
        rw [f8.cell (p := ⟨g, i, none⟩) (World.block_lt_of_cell? _ _ (g3 i p hp)) (by simp)]
        exact g3 i p hp
      have HW7 : Hid (w.heap.size ≤ w7.heap.size) := F7.out.size
      clear f8 s7 F7 HA7
      generalize w7.heap.size = m7 at *
      go_wp2_with fail
      refine (put_any _ _ q ⟨#[120]⟩ w8 q8 (by decide)).mono ?_
      rintro e w9 ⟨rfl, -, f9⟩
      have s9 := s8.fr f9 hN8.1 hN8.2
      have F9 := hid (F8.out.trans f9 (fun z hz => .inr (by have := HW7.out; simp at hz; omega)))
      have HA9 : Hid (0 < nn → ∃ g, av = some ⟨g, 0, none⟩ ∧ ∀ i p, s.files[i]? = some p → w9.cell? ⟨g, i, none⟩ = some (.int .i64 p.1)) := fun h0 => by
        obtain ⟨g, e, g2, g3⟩ := HA8.out h0
        refine ⟨g, e, fun i p hp => ?_⟩
        rw [f9.cell (p := ⟨g, i, none⟩) (World.block_lt_of_cell? _ _ (g3 i p hp)) (by simp; omega)]
        exact g3 i p hp
      clear f9 s8 F8 HA8 q8 hN8
      have hub := hbd
      rw [HK.out] at hub ⊢
      go_wp2_with fail
      refine (used_any b mb q w9 s9).mono ?_
      rintro e w10 ⟨he, f10⟩
      rw [HD.out.1] at he
      subst he
      have s10 := s9.fr f10 (by simp) (by simp)
      have F10 := hid (F9.out.then f10)
      clear s9 F9
      go_wp2_with fail
      refine (files_any b mb q w10 s10).mono ?_
      rintro e w11 ⟨v2, rfl, hv2, f11⟩
      have hq : q.files.length = nn := by
        have h := congrArg List.length HD.out.2
        simp only [St.nums, List.length_map] at h
        rw [h]; exact HNN.out
      have I2 : IntsR w11 v2 s.nums := by
        rw [← HD.out.2]
        exact IntsR.of_own hv2 (by simp [St.nums]) (by simp [St.nums]; omega)
      have I1 : IntsR w11 (.slice av nn cv) s.nums := by
        have hl : s.nums.length = nn := by have := HNN.out; simp [St.nums]; omega
        refine ⟨av, cv, by rw [hl], by omega, by omega, fun h0 => ?_⟩
        obtain ⟨g, rfl, g3⟩ := HA9.out (by omega)
        refine ⟨g, 0, rfl, fun i hi => ?_⟩
        have hi' : i < s.files.length := by have := HNN.out; omega
        have hc := g3 i _ (List.getElem?_eq_getElem hi')
        rw [Nat.zero_add, (f10.then f11).cell (p := ⟨g, i, none⟩) (World.block_lt_of_cell? _ _ hc) (by simp), hc, nums_at (List.getElem?_eq_getElem hi')]
      have F11 := hid (F10.out.then f11)
      clear f10 f11 F10 hv2 s10 HA9
      go_wp2_with fail
      refine (same_any _ _ _ _ _ I2 I1).mono ?_
      rintro e w12 ⟨he, f12⟩
      rw [decide_eq_true rfl] at he
      subst he
      have F12 := hid (F11.out.then f12)
      clear f12 F11 I1 I2
      go_wp2_with fail
      refine (awake_any _).mono ?_
      rintro e w13 ⟨rfl, f13⟩
      go_wp2_with fail
      go_ret
      exact ⟨rfl, (F12.out.then f13).below0⟩

end Go.Proofs.Ytggkhgpdnjkfcaa
