/-
  Equal logs are told to be the same.
  Plain: what is acknowledged, call by call.
-/
import Derived.Test.YtkolnoadeihmoaaGreatKb17
namespace Go.Proofs.YtkolnoadeihmoaaGreat
open Go.RowKit Go.Proofs.YtkolnoadeihmoaaGreatW.PrintWords
theorem logs_at {w : World} {A : Option Addr} {n k : Nat} {xs : List LO} {x : LO} (h : Kd.C k40 w A n xs) (hx : xs[k]? = some x) :
    ∃ b off A0 c0 A2 c2, A = some ⟨b, off, none⟩ ∧ w.cell? ⟨b, off + k * 4, none⟩ = some (.slice A0 x.f0.length c0) ∧ w.cell? ⟨b, off + k * 4 + 1, none⟩ = some (.int .i64 x.f1) ∧ w.cell? ⟨b, off + k * 4 + 2, none⟩ = some (.slice A2 x.f2.length c2) ∧ w.cell? ⟨b, off + k * 4 + 3, none⟩ = some (.int .i64 x.f3) ∧
      k135.C w A0 x.f0.length x.f0 ∧ kB.C w A2 x.f2.length x.f2 := by
  obtain ⟨b, off, c, e, hK, hc⟩ := cells_at (d := k40) (by decide) h hx
  obtain ⟨A0, c0, A2, c2, rfl, l0, g0, l2, g2⟩ := k40_open hK
  exact ⟨b, off, A0, c0, A2, c2, e, hc 0 _ rfl, hc 1 _ rfl, hc 2 _ rfl, hc 3 _ rfl, g0, g2⟩
set_option maxRecDepth 100000 in
set_option maxHeartbeats 4000000 in
theorem slogs_any (A : Option Addr) (a : Nat) (B : Option Addr) (b : Nat) (l : List LO) (w : World) (h0 : Kd.C k40 w A l.length l) (h1 : Kd.C k40 w B l.length l) (hl : l.length ≤ 9223372036854775807) :
    Calls Tryz.prog 21 #[.slice A l.length a, .slice B l.length b] w fun e w' => e = .returned (.bool true) ∧ Fr [] w w' := by
  have H0 := hid h0
  have H1 := hid h1
  clear h0 h1
  go_enter Tryz.func21, Tryz.ntmps21
  go_wp2
  go_loopw [5] (fun i wr => ∃ (k : Nat), i = .int .i64 k ∧ k ≤ l.length ∧ Fr [] w wr) (fun i _ => l.length - (intOf i).toNat)
  case atStart => exact ⟨0, rfl, Nat.zero_le _, Fr.refl _ _⟩
  case round =>
    obtain ⟨k, rfl, hk, hF⟩ := hrel
    have HF := hid hF
    clear hF
    by_cases hlt : k < l.length
    · obtain ⟨x, hx⟩ : ∃ x, l[k]? = some x := ⟨_, List.getElem?_eq_getElem hlt⟩
      obtain ⟨b0, o0, A0, a0, A2, a2, e0, p0, p1, p2, p3, r0, r2⟩ := logs_at (Kd.C_below H0.out HF.out.below0) hx
      obtain ⟨b1, o1, B0, d0, B2, d2, e1, q0, q1, q2, q3, s0, s2⟩ := logs_at (Kd.C_below H1.out HF.out.below0) hx
      subst e0 e1
      have R0 := hid r0
      have R2 := hid r2
      have hm2l := Kd.C_max r2
      have S0' := hid s0
      have S2 := hid s2
      have hm0 : (0 : Int) ≤ (k : Int) := by omega
      have hm1 : (k : Int) < (l.length : Int) := by omega
      clear hx r0 r2 s0 s2
      go_wp2_with fail
      have HS := hid (fun w' (f : Fr [] wr w') => (⟨f.cell0 p0, f.cell0 p1, f.cell0 p2, f.cell0 p3, f.cell0 q0, f.cell0 q1, f.cell0 q2, f.cell0 q3⟩ : (fun w' : World => w'.cell? ⟨b0, o0 + k * 4, none⟩ = some (.slice A0 x.f0.length a0) ∧ w'.cell? ⟨b0, o0 + k * 4 + 1, none⟩ = some (.int .i64 x.f1) ∧ w'.cell? ⟨b0, o0 + k * 4 + 2, none⟩ = some (.slice A2 x.f2.length a2) ∧ w'.cell? ⟨b0, o0 + k * 4 + 3, none⟩ = some (.int .i64 x.f3) ∧ w'.cell? ⟨b1, o1 + k * 4, none⟩ = some (.slice B0 x.f0.length d0) ∧ w'.cell? ⟨b1, o1 + k * 4 + 1, none⟩ = some (.int .i64 x.f1) ∧ w'.cell? ⟨b1, o1 + k * 4 + 2, none⟩ = some (.slice B2 x.f2.length d2) ∧ w'.cell? ⟨b1, o1 + k * 4 + 3, none⟩ = some (.int .i64 x.f3)) w'))
      have S0 := HS.out _ (Fr.refl [] wr).drew
      clear p0 p1 p2 p3 q0 q1 q2 q3
      refine (fun (KEY : Hid (∀ (w2 : World) (bx bY : Nat), Fr [] wr w2 → w2.heap[bx]? = some (.cells #[.slice A0 x.f0.length a0, .int .i64 x.f1, .slice A2 x.f2.length a2, .int .i64 x.f3] 40 (0, 0)) → w2.heap[bY]? = some (.cells #[.slice B0 x.f0.length d0, .int .i64 x.f1, .slice B2 x.f2.length d2, .int .i64 x.f3] 40 (0, 0)) → (?KEYP : World → Nat → Nat → Prop) w2 bx bY)) => ?main) ?key
      case main =>
        go_region_held3 (fun w' : World => w'.cell? ⟨b0, o0 + k * 4, none⟩ = some (.slice A0 x.f0.length a0) ∧ w'.cell? ⟨b0, o0 + k * 4 + 1, none⟩ = some (.int .i64 x.f1) ∧ w'.cell? ⟨b0, o0 + k * 4 + 2, none⟩ = some (.slice A2 x.f2.length a2) ∧ w'.cell? ⟨b0, o0 + k * 4 + 3, none⟩ = some (.int .i64 x.f3) ∧ w'.cell? ⟨b1, o1 + k * 4, none⟩ = some (.slice B0 x.f0.length d0) ∧ w'.cell? ⟨b1, o1 + k * 4 + 1, none⟩ = some (.int .i64 x.f1) ∧ w'.cell? ⟨b1, o1 + k * 4 + 2, none⟩ = some (.slice B2 x.f2.length d2) ∧ w'.cell? ⟨b1, o1 + k * 4 + 3, none⟩ = some (.int .i64 x.f3)) (first | exact S0 | (refine HS.out _ ?_; repeat (first | exact Fr.refl _ _ | refine Fr.drew ?_ | refine Fr.alloc ?_ _ | (refine Fr.setCell ?_ (.inr (by simp)) _)))) (fail)
        all_goals first
          | (obtain ⟨g1, g2, g3⟩ := two_boxes wr #[.slice A0 x.f0.length a0, .int .i64 x.f1, .slice A2 x.f2.length a2, .int .i64 x.f3] #[.slice B0 x.f0.length d0, .int .i64 x.f1, .slice B2 x.f2.length d2, .int .i64 x.f3] 40
             generalize ((wr.alloc (.cells #[.slice A0 x.f0.length a0, .int .i64 x.f1, .slice A2 x.f2.length a2, .int .i64 x.f3] 40)).alloc (.cells #[.slice B0 x.f0.length d0, .int .i64 x.f1, .slice B2 x.f2.length d2, .int .i64 x.f3] 40)).drew = w2 at g1 g2 g3 ⊢
             generalize wr.heap.size + 1 = bY at g3 ⊢
             generalize wr.heap.size = bx at g2 ⊢
             exact KEY.out w2 bx bY g1 g2 g3)
          | (obtain ⟨g1, g2, g3⟩ := two_boxes wr #[.slice B0 x.f0.length d0, .int .i64 x.f1, .slice B2 x.f2.length d2, .int .i64 x.f3] #[.slice A0 x.f0.length a0, .int .i64 x.f1, .slice A2 x.f2.length a2, .int .i64 x.f3] 40
             generalize ((wr.alloc (.cells #[.slice B0 x.f0.length d0, .int .i64 x.f1, .slice B2 x.f2.length d2, .int .i64 x.f3] 40)).alloc (.cells #[.slice A0 x.f0.length a0, .int .i64 x.f1, .slice A2 x.f2.length a2, .int .i64 x.f3] 40)).drew = w2 at g1 g2 g3 ⊢
             generalize wr.heap.size + 1 = bx at g3 ⊢
             generalize wr.heap.size = bY at g2 ⊢
             exact KEY.out w2 bx bY g1 g3 g2)
      refine hid (fun w2 bx bY f2 X2 Y2 => ?_)
      have F2 := hid f2
      have XB := hid X2
      have YB := hid Y2
      have n0 := cell_of_row w2 bx 0 _ _ _ X2
      have m0 := cell_of_row w2 bY 0 _ _ _ Y2
      simp at n0 m0
      clear f2 X2 Y2 HS S0
      go_wp2_with fail
      refine (sdeeds_any A0 a0 B0 d0 x.f0 _ (Kd.C_below R0.out F2.out.below0) (Kd.C_below S0'.out F2.out.below0) (Kd.C_max R0.out)).mono ?_
      rintro e w3 ⟨rfl, f3⟩
      have F3 := hid (F2.out.then f3)
      have X3 := f3.blk XB.out (by simp)
      have Y3 := f3.blk YB.out (by simp)
      have B3 := hid X3
      have C3 := hid Y3
      have n1 := cell_of_row w3 bx 1 _ _ _ X3
      have n2 := cell_of_row w3 bx 2 _ _ _ X3
      have n3 := cell_of_row w3 bx 3 _ _ _ X3
      have m1 := cell_of_row w3 bY 1 _ _ _ Y3
      have m2 := cell_of_row w3 bY 2 _ _ _ Y3
      have m3 := cell_of_row w3 bY 3 _ _ _ Y3
      simp at n1 n2 n3 m1 m2 m3
      clear f3 X3 Y3 n0 m0
      go_wp2_with fail
      go_loopw [8] (fun i wq => ∃ (j : Nat), i = .int .i64 j ∧ j ≤ x.f2.length ∧ Drawn0 w3 wq) (fun i _ => x.f2.length - (intOf i).toNat)
      case atStart => exact ⟨0, rfl, Nat.zero_le _, Drawn0.refl _⟩
      case round =>
        obtain ⟨j, rfl, hj, hD⟩ := hrel
        have HD := hid hD
        have FQ := hid (drawn_fr hD)
        have n2q := FQ.out.cell0 n2
        have m2q := FQ.out.cell0 m2
        clear hD
        by_cases hjl : j < x.f2.length
        · obtain ⟨y, hy⟩ : ∃ y, x.f2[j]? = some y := ⟨_, List.getElem?_eq_getElem hjl⟩
          obtain ⟨g0, u0, e0, c0, c1⟩ := blob_at (Kd.C_below R2.out (F3.out.then FQ.out).below0) hy
          obtain ⟨g1, u1, e1, c2, c3⟩ := blob_at (Kd.C_below S2.out (F3.out.then FQ.out).below0) hy
          subst e0 e1
          have hj0 : (0 : Int) ≤ (j : Int) := by omega
          have hj1 : (j : Int) < (x.f2.length : Int) := by omega
          clear hy
          go_wp2_with fail
          go_quiet (fail)
          go_wp2
          go_roundw
          case rel => exact ⟨j + 1, by go_num, by omega, HD.out.step _⟩
          case measure => simp [intOf]; omega
        · obtain rfl : j = x.f2.length := by omega
          go_wp2
          go_roundw
          case rel => exact ⟨k + 1, by go_num, by omega, HF.out.then (F3.out.then FQ.out)⟩
          case measure => simp [intOf]; omega
    · obtain rfl : k = l.length := by omega
      go_wp2
      go_ret
      exact ⟨rfl, HF.out⟩
def logsOf (R : RG) : List LO := R.first.map (·.1)
def said (R : RG) : List LO := (logsOf R).take R.acked.toNat
theorem logs_len (R : RG) : (logsOf R).length = R.first.length := by simp [logsOf]
theorem logs_le {R : RG} (h : Reg.Inv R) : (logsOf R).length ≤ 4000 := by rw [logs_len]; exact h.first_long
theorem said_len {R : RG} (h : Reg.Inv R) : ((said R).length : Int) = R.acked := by
  have h1 := h.acked_le
  have h2 := h.acked
  unfold said
  rw [List.length_take, logs_len]
  omega
theorem said_step {R R' : RG} (h : Reg.Inv R) (k : Reg.Keeps R R') : (logsOf R').take (said R).length = said R ∧ (said R).length ≤ (logsOf R').length ∧ ((said R).length : Int) ≤ R'.acked ∧ R'.acked ≤ ((logsOf R').length : Int) := by
  have h1 := said_len h
  have h2 := k.inv.acked_le
  have h3 := k.acked
  have h4 := logs_len R'
  have h5 := h.acked
  refine ⟨?_, by omega, by omega, by omega⟩
  have e : (said R).length = R.acked.toNat := by omega
  rw [e]
  unfold said logsOf
  rw [← List.map_take, ← List.map_take, k.log]
theorem said_take {R : RG} {k : Nat} (hk : R.acked = k) : (logsOf R).take k = said R := by
  unfold said
  rw [hk]
  rfl
theorem fail_step {R : RG} (h : Reg.Inv R) {x : Reg.Call LO} (h1 : x.op ≠ Reg.kRecord) (h2 : x.op ≠ Reg.kShip) (h3 : x.op ≠ Reg.kSet) {m : Int} (hm : (Reg.doBy wordB logB R x).1 = (m, 0)) : 0 ≤ m ∧ ((said R).length : Int) ≤ ((logsOf R).length : Int) - m := by
  unfold Reg.doBy at hm
  rw [if_neg h1, if_neg h2, if_neg h3] at hm
  have := Reg.fail_says hm
  have e := said_len h
  have e2 := logs_len R
  omega
theorem new_named {names : List ByteArray} {need : Int} {R : RG} (h : Reg.newBy wordB names need = (some R, 0)) : AllOk R ∧ R.places.length ≤ 5 ∧ R.records = 0 ∧ R.epoch = 1 := by
  unfold Reg.newBy at h
  split at h
  · cases h
  · rename_i ps hps
    split at h
    · cases h
    · rename_i h5
      split at h
      · cases h
      · cases h
        obtain ⟨g1, g2, g3⟩ := Reg.new_places hps (by simp) (by simp)
        have hlen : ps.length = names.length := by have := congrArg List.length g2; simpa using this
        refine ⟨?_, by show ps.length ≤ 5; omega, rfl, rfl⟩
        intro p hp r hr
        rw [g3 p hp] at hr
        simp at hr
theorem np_words : ∀ {names : List ByteArray} {acc ps : List (ByteArray × RP)}, Reg.newPlaces wordB acc names = some ps → ∀ s ∈ names, wordB s = true
  | [], _, _, _, s, hs => by simp at hs
  | y :: r, acc, ps, h, s, hs => by
    unfold Reg.newPlaces at h
    split at h
    · cases h
    · rename_i hn
      rcases List.mem_cons.1 hs with rfl | hs
      · cases hw : wordB s with
        | true => rfl
        | false => exact absurd (.inl hw) hn
      · exact np_words h s hs
theorem new_words {names : List ByteArray} {need : Int} {R : RG} (h : Reg.newBy wordB names need = (some R, 0)) : ∀ p ∈ R.places, p.1 ∈ names ∧ wordB p.1 = true := by
  unfold Reg.newBy at h
  split at h
  · cases h
  · rename_i ps hps
    split at h
    · cases h
    · split at h
      · cases h
      · cases h
        obtain ⟨g1, g2, g3⟩ := Reg.new_places hps (by simp) (by simp)
        intro p hp
        have hm : p.1 ∈ ps.map (·.1) := List.mem_map.2 ⟨p, hp, rfl⟩
        rw [g2] at hm
        have hm' : p.1 ∈ names := by simpa using hm
        exact ⟨hm', np_words hps _ hm'⟩
theorem new_errs {names : List ByteArray} {need : Int} {R : RG} {er : Int} (h : Reg.newBy wordB names need = (some R, er)) : er = 0 := by
  unfold Reg.newBy at h
  split at h
  · cases h
  · split at h
    · cases h
    · split at h
      · cases h
      · cases h; rfl
theorem new_none {names : List ByteArray} {need : Int} {er : Int} (h : Reg.newBy (α := LO) wordB names need = (none, er)) : er ≠ 0 := by
  unfold Reg.newBy at h
  split at h
  · cases h; decide
  · split at h
    · cases h; decide
    · split at h
      · cases h; decide
      · cases h
theorem new_live {names : List ByteArray} {need : Int} {R : RG} (h : Reg.newBy wordB names need = (some R, 0)) (hs : ∀ s ∈ names, s.size ≤ maxLen) {w : World} {rb mb : Nat} {us : List (Nat × Value)} (hr : RegAt w rb mb us R) : RLive w rb mb us R 0 := by
  obtain ⟨h1, h2, h3, h4⟩ := new_named h
  have h5 := new_words h
  exact ⟨hr, Reg.new_inv h, h1, by omega, by omega, by omega, fun p hp => hs _ (h5 p hp).1, fun p hp => (h5 p hp).2⟩
end Go.Proofs.YtkolnoadeihmoaaGreat
