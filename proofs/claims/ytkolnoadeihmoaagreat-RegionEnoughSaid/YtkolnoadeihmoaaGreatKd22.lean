/-
  The law's functions: size, great, do.
  The law's functions: primary, SameState, entry; regions that were not made.
  The law's function entry; regions that were not made.
-/
import Derived.Test.YtkolnoadeihmoaaGreatKd20
import Derived.Test.YtkolnoadeihmoaaGreatKd18
import Derived.Test.YtkolnoadeihmoaaGreatKd21
namespace Go.Proofs.YtkolnoadeihmoaaGreat
open Go.RowKit Go.Proofs.YtkolnoadeihmoaaGreatW.PrintWords
structure IsInt (v : Value) : Prop where
  out : ∃ z : Int, v = .int .i64 z
def GreatSays (n : Nat) (w : World) (e : Ending) (w' : World) : Prop := ∃ b : Bool, e = .returned (.bool b) ∧ (b = false → n ≤ 60) ∧ Fr [] w w'
def SizeSays (w : World) (e : Ending) (w' : World) : Prop := ∃ z : Int, e = .returned (.int .i64 z) ∧ Fr [] w w'
set_option maxRecDepth 100000 in
theorem size_any (x : LO) (A0 : Option Addr) (c0 : Nat) (A2 : Option Addr) (c2 : Nat) (w : World) (h2 : kB.C w A2 x.f2.length x.f2) :
    Calls Tryz.prog 24 #[logV x (.slice A0 x.f0.length c0) (.slice A2 x.f2.length c2)] w (SizeSays w) := by
  have H2 := hid h2
  have hm2l := Kd.C_max h2
  have F0 := hid ((Fr.refl [] w).alloc (.cells #[.slice A0 x.f0.length c0, .int .i64 x.f1, .slice A2 x.f2.length c2, .int .i64 x.f3] 40))
  have B0 := hid (heap_alloc_new w (.cells #[.slice A0 x.f0.length c0, .int .i64 x.f1, .slice A2 x.f2.length c2, .int .i64 x.f3] 40))
  clear h2
  unfold logV
  go_enter Tryz.func24, Tryz.ntmps24
  go_wp2
  generalize w.alloc (.cells #[.slice A0 x.f0.length c0, .int .i64 x.f1, .slice A2 x.f2.length c2, .int .i64 x.f3] 40) = w1 at F0 B0 ⊢
  go_loopw [3, 4] (fun n i wr => ∃ (k : Nat), i = .int .i64 k ∧ IsInt n ∧ k ≤ x.f2.length ∧ wr = w1) (fun _ i _ => x.f2.length - (intOf i).toNat)
  case atStart => exact ⟨0, rfl, ⟨⟨_, rfl⟩⟩, Nat.zero_le _, rfl⟩
  case round =>
    obtain ⟨k, rfl, ⟨⟨z, rfl⟩⟩, hk, rfl⟩ := hrel
    have q2 := cell_of_row wr w.heap.size 2 _ _ _ B0.out
    simp at q2
    by_cases hlt : k < x.f2.length
    · obtain ⟨y, hy⟩ : ∃ y, x.f2[k]? = some y := ⟨_, List.getElem?_eq_getElem hlt⟩
      obtain ⟨b, off, eA, e0, e1⟩ := blob_at (Kd.C_below H2.out F0.out.below0) hy
      subst eA
      have hm0 : (0 : Int) ≤ (k : Int) := by omega
      have hm1 : (k : Int) < (x.f2.length : Int) := by omega
      clear hy
      go_wp2
      go_roundw
      case rel => exact ⟨k + 1, by go_num, ⟨⟨_, rfl⟩⟩, by omega, trivial⟩
      case measure => simp [intOf]; omega
    · obtain rfl : k = x.f2.length := by omega
      go_wp2
      go_ret
      exact ⟨z, rfl, F0.out⟩
theorem steps_at {w : World} {A : Option Addr} {n k : Nat} {xs : List SP} {x : SP} (h : Kd.C kP w A n xs) (hx : xs[k]? = some x) :
    ∃ b off A0 c0 A2 c2, A = some ⟨b, off, none⟩ ∧ (w.cell? ⟨b, off + k * 8, none⟩ = some (.string x.f0) ∧ w.cell? ⟨b, off + k * 8 + 1, none⟩ = some (.string x.f1) ∧ w.cell? ⟨b, off + k * 8 + 2, none⟩ = some (.int .i64 x.f2) ∧ w.cell? ⟨b, off + k * 8 + 3, none⟩ = some (.bool x.f3) ∧
      w.cell? ⟨b, off + k * 8 + 4, none⟩ = some (.slice A0 x.f4.f0.length c0) ∧ w.cell? ⟨b, off + k * 8 + 5, none⟩ = some (.int .i64 x.f4.f1) ∧ w.cell? ⟨b, off + k * 8 + 6, none⟩ = some (.slice A2 x.f4.f2.length c2) ∧ w.cell? ⟨b, off + k * 8 + 7, none⟩ = some (.int .i64 x.f4.f3)) ∧
      k135.C w A0 x.f4.f0.length x.f4.f0 ∧ kB.C w A2 x.f4.f2.length x.f4.f2 := by
  obtain ⟨b, off, c, e, hK, hc⟩ := cells_at (d := kP) (by decide) h hx
  obtain ⟨A0, c0, A2, c2, rfl, l0, g0, l2, g2⟩ := kP_open hK
  exact ⟨b, off, A0, c0, A2, c2, e, ⟨hc 0 _ rfl, hc 1 _ rfl, hc 2 _ rfl, hc 3 _ rfl, hc 4 _ rfl, hc 5 _ rfl, hc 6 _ rfl, hc 7 _ rfl⟩, g0, g2⟩
set_option maxRecDepth 100000 in
theorem great_any (A : Option Addr) (c : Nat) (l : List SP) (w : World) (hC : Kd.C kP w A l.length l) :
    Calls Tryz.prog 9 #[.slice A l.length c] w (GreatSays l.length w) := by
  have HC := hid hC
  have hml := Kd.C_max hC
  clear hC
  go_enter Tryz.func9, Tryz.ntmps9
  go_wp2
  go_loopw [3, 4] (fun n i wr => ∃ (k : Nat), i = .int .i64 k ∧ IsInt n ∧ k ≤ l.length ∧ Fr [] w wr) (fun _ i _ => l.length - (intOf i).toNat)
  case atStart => exact ⟨0, rfl, ⟨⟨_, rfl⟩⟩, Nat.zero_le _, Fr.refl _ _⟩
  case round =>
    obtain ⟨k, rfl, ⟨⟨z, rfl⟩⟩, hk, hF⟩ := hrel
    have HF := hid hF
    clear hF
    by_cases hlt : k < l.length
    · by_cases h100 : (k : Int) < 100
      · obtain ⟨x, hx⟩ : ∃ x, l[k]? = some x := ⟨_, List.getElem?_eq_getElem hlt⟩
        obtain ⟨b, off, A0, c0, A2, c2, eA, ⟨d0, d1, d2, d3, d4, d5, d6, d7⟩, r0, r2⟩ := steps_at (Kd.C_below HC.out HF.out.below0) hx
        subst eA
        have R2 := hid r2
        have hm0 : (0 : Int) ≤ (k : Int) := by omega
        have hm1 : (k : Int) < (l.length : Int) := by omega
        have hd : decide ((k : Int) < 100) = true := decide_eq_true h100
        have hkn : k < 100 := by omega
        clear hx r0 r2
        go_wp2_with (go_at_call 24; refine (size_any x.f4 A0 c0 A2 c2 _ R2.out).mono ?_; rintro e w2 ⟨zz, rfl, f2⟩; have F2 := hid f2; clear f2)
        go_roundw
        case rel => exact ⟨k + 1, by go_num, ⟨⟨_, rfl⟩⟩, by omega, HF.out.then F2.out⟩
        case measure => simp [intOf]; omega
      · have hd : decide ((k : Int) < 100) = false := decide_eq_false h100
        have hkn : ¬ k < 100 := by omega
        have hm1 : (k : Int) < (l.length : Int) := by omega
        have q : decide ((60 : Int) < (l.length : Int)) = true := decide_eq_true (by omega)
        have qn : 60 < l.length := by omega
        go_wp2
        go_ret
        exact ⟨true, rfl, fun h => (by cases h), HF.out⟩
    · obtain rfl : k = l.length := by omega
      by_cases q : 60 < l.length
      · have q1 : decide ((60 : Int) < (l.length : Int)) = true := decide_eq_true (by omega)
        go_wp2
        go_ret
        exact ⟨true, rfl, fun h => (by cases h), HF.out⟩
      · have q1 : decide ((60 : Int) < (l.length : Int)) = false := decide_eq_false (by omega)
        go_wp2
        go_ret
        exact ⟨_, rfl, fun _ => by omega, HF.out⟩
theorem Did.pre {rb mb : Nat} {us : List (Nat × Value)} {R' : RG} {v : Value} {w w1 : World} {e : Ending} {w' : World} (f : Fr [] w w1) (h : Did rb mb us R' v w1 e w') : Did rb mb us R' v w e w' := by
  obtain ⟨us', he, hr, hf, hk⟩ := h
  exact ⟨us', he, hr, (f.mono (by simp)).then hf, fun k hb => (hk k hb).imp id (fun h => Nat.le_trans f.size h)⟩
def callOf (x : SP) : Reg.Call LO := ⟨x.f0, x.f1, x.f2, x.f3, x.f4⟩
def pairV (p : Int × Int) : Value := .tuple #[.int .i64 p.1, .int .i64 p.2]
set_option maxRecDepth 100000 in
set_option maxHeartbeats 4000000 in
theorem do_did (HV : ValidSays) (rb mb : Nat) (us : List (Nat × Value)) (R : RG) (k : Nat) (x : SP) (A0 : Option Addr) (c0 : Nat) (A2 : Option Addr) (c2 : Nat) (w : World) (h : RLive w rb mb us R k) (hx : StepIn x) (hk : k ≤ 100000)
    (h0 : ∀ w', Fr [rb] w w' → Kd.C k135 w' A0 x.f4.f0.length x.f4.f0) (h2 : ∀ w', Fr [rb] w w' → kB.C w' A2 x.f4.f2.length x.f4.f2) :
    Calls Tryz.prog 13 #[.pointer (some ⟨rb, 0, none⟩), .agg (stL x A0 c0 A2 c2).toArray] w (Did rb mb us (Reg.doBy wordB logB R (callOf x)).2 (pairV (Reg.doBy wordB logB R (callOf x)).1) w) := by
  have H := hid h
  have HX := hid hx
  have F0 := hid ((Fr.refl [] w).alloc (.cells (stL x A0 c0 A2 c2).toArray 42))
  have B0 := hid (heap_alloc_new w (.cells (stL x A0 c0 A2 c2).toArray 42))
  have H0 := hid (fun w' (f : Fr [rb] (w.alloc (.cells (stL x A0 c0 A2 c2).toArray 42)) w') => h0 w' ((F0.out.mono (by simp)).then f))
  have H2 := hid (fun w' (f : Fr [rb] (w.alloc (.cells (stL x A0 c0 A2 c2).toArray 42)) w') => h2 w' ((F0.out.mono (by simp)).then f))
  have hnr := h.nr
  have hne := h.ne
  unfold stL pairV at *
  clear h0 h2 h hx
  have e1 : ([114, 101, 99, 111, 114, 100] : List UInt8) = Reg.kRecord.toList := by decide +kernel
  have e2 : ([115, 104, 105, 112] : List UInt8) = Reg.kShip.toList := by decide +kernel
  have e3 : ([115, 101, 116] : List UInt8) = Reg.kSet.toList := by decide +kernel
  have fin : Hid (∀ (v : Value) (e : Ending) (w' : World) (R' : RG), Did rb mb us R' v (w.alloc (.cells #[.string x.f0, .string x.f1, .int .i64 x.f2, .bool x.f3, .slice A0 x.f4.f0.length c0, .int .i64 x.f4.f1, .slice A2 x.f4.f2.length c2, .int .i64 x.f4.f3] 42)) e w' → Did rb mb us R' v w e w') := hid (fun v e w' R' h => h.pre F0.out)
  have G0 := hid (H.out.fr0 F0.out)
  by_cases a1 : x.f0 = Reg.kRecord
  · have b1 : (x.f0.toList == [114, 101, 99, 111, 114, 100]) = true := by rw [e1]; rw [a1]; simp
    have END := hid (show Reg.doBy wordB logB R (callOf x) = R.record wordB (logB x.f4) x.f1 x.f2 x.f4 by unfold Reg.doBy; show (if x.f0 = _ then _ else if x.f0 = _ then _ else if x.f0 = _ then _ else _) = _; rw [if_pos a1]; rfl)
    clear a1 e1 e2 e3
    rw [END.out]
    go_enter Tryz.func13, Tryz.ntmps13
    go_wp2_with fail
    refine (record_any HV rb mb us R x.f1 x.f2 x.f4 A0 c0 A2 c2 _ G0.out.at_ G0.out.inv HX.out.s1 G0.out.pl (by have := G0.out.nr; omega) H0.out H2.out HX.out.l).mono ?_
    rintro e w2 ⟨us', rfl, hr, hf, hkk⟩
    have D := hid (fun v => fin.out v (.returned v) _ _ ⟨us', rfl, hr, hf, hkk⟩)
    clear hr hf hkk
    go_wp2
    go_ret2
    exact D.out _
  · skip
    by_cases a2 : x.f0 = Reg.kShip
    · have b1 : (x.f0.toList == [114, 101, 99, 111, 114, 100]) = false := by rw [e1]; exact list_beq a1
      have b2 : (x.f0.toList == [115, 104, 105, 112]) = true := by rw [e2]; rw [a2]; simp
      have END := hid (show Reg.doBy wordB logB R (callOf x) = R.ship wordB x.f1 x.f2 by unfold Reg.doBy; show (if x.f0 = _ then _ else if x.f0 = _ then _ else if x.f0 = _ then _ else _) = _; rw [if_neg a1, if_pos a2]; rfl)
      clear a1 a2 e1 e2 e3
      rw [END.out]
      go_enter Tryz.func13, Tryz.ntmps13
      go_wp2_with fail
      refine (ship_any rb mb us R x.f1 x.f2 _ G0.out.at_ G0.out.inv HX.out.s1 G0.out.pl).mono ?_
      rintro e w2 ⟨us', rfl, hr, hf, hkk⟩
      have D := hid (fun v => fin.out v (.returned v) _ _ ⟨us', rfl, hr, hf, hkk⟩)
      clear hr hf hkk
      go_wp2
      go_ret2
      exact D.out _
    · skip
      by_cases a3 : x.f0 = Reg.kSet
      · have b1 : (x.f0.toList == [114, 101, 99, 111, 114, 100]) = false := by rw [e1]; exact list_beq a1
        have b2 : (x.f0.toList == [115, 104, 105, 112]) = false := by rw [e2]; exact list_beq a2
        have b3 : (x.f0.toList == [115, 101, 116]) = true := by rw [e3]; rw [a3]; simp
        have END := hid (show Reg.doBy wordB logB R (callOf x) = ((0, (R.set wordB x.f1 x.f3).1), (R.set wordB x.f1 x.f3).2) by unfold Reg.doBy; show (if x.f0 = _ then _ else if x.f0 = _ then _ else if x.f0 = _ then _ else _) = _; rw [if_neg a1, if_neg a2, if_pos a3]; rfl)
        clear a1 a2 a3 e1 e2 e3
        rw [END.out]
        go_enter Tryz.func13, Tryz.ntmps13
        go_wp2_with fail
        refine (set_any rb mb us R x.f1 x.f3 _ G0.out.at_ G0.out.inv.names HX.out.s1).mono ?_
        rintro e w2 ⟨us', rfl, hr, hf, hkk⟩
        have D := hid (fun v => fin.out v (.returned v) _ _ ⟨us', rfl, hr, hf, hkk⟩)
        clear hr hf hkk
        go_wp2
        go_ret2
        exact D.out _
      · skip
        have b1 : (x.f0.toList == [114, 101, 99, 111, 114, 100]) = false := by rw [e1]; exact list_beq a1
        have b2 : (x.f0.toList == [115, 104, 105, 112]) = false := by rw [e2]; exact list_beq a2
        have b3 : (x.f0.toList == [115, 101, 116]) = false := by rw [e3]; exact list_beq a3
        have END := hid (show Reg.doBy wordB logB R (callOf x) = R.fail wordB x.f1 by unfold Reg.doBy; show (if x.f0 = _ then _ else if x.f0 = _ then _ else if x.f0 = _ then _ else _) = _; rw [if_neg a1, if_neg a2, if_neg a3]; rfl)
        clear a1 a2 a3 e1 e2 e3
        rw [END.out]
        go_enter Tryz.func13, Tryz.ntmps13
        go_wp2_with fail
        refine (rfail_any rb mb us R x.f1 _ G0.out.at_ G0.out.inv HX.out.s1 (by have := G0.out.ne; omega)).mono ?_
        rintro e w2 ⟨us', rfl, hr, hf, hkk⟩
        have D := hid (fun v => fin.out v (.returned v) _ _ ⟨us', rfl, hr, hf, hkk⟩)
        clear hr hf hkk
        go_wp2
        go_ret2
        exact D.out _
theorem do_any (HV : ValidSays) (w0 : Nat) (rb mb : Nat) (us : List (Nat × Value)) (R : RG) (k : Nat) (x : SP) (A0 : Option Addr) (c0 : Nat) (A2 : Option Addr) (c2 : Nat) (w : World) (h : RLive w rb mb us R k) (hx : StepIn x) (hk : k ≤ 100000)
    (h0 : ∀ w', Fr [rb] w w' → Kd.C k135 w' A0 x.f4.f0.length x.f4.f0) (h2 : ∀ w', Fr [rb] w w' → kB.C w' A2 x.f4.f2.length x.f4.f2) (hb : ∀ b ∈ blks rb us, w0 ≤ b) (hw0 : w0 ≤ w.heap.size) :
    Calls Tryz.prog 13 #[.pointer (some ⟨rb, 0, none⟩), .agg (stL x A0 c0 A2 c2).toArray] w (fun e w' => Did2 w0 rb mb (k + 1) (Reg.doBy wordB logB R (callOf x)).2 (pairV (Reg.doBy wordB logB R (callOf x)).1) w e w' ∧ Fr (blks rb us) w w') :=
  (do_did HV rb mb us R k x A0 c0 A2 c2 w h hx hk h0 h2).mono fun e w' hd => ⟨Did2.of h hx.l hb hw0 hd, by obtain ⟨-, -, -, hf, -⟩ := hd; exact hf⟩
theorem RLive.first {w : World} {rb mb k : Nat} {us : List (Nat × Value)} {R : RG} (h : RLive w rb mb us R k) : logAt R R.primary = logsOf R ∧ (R.find wordB R.primary).2 = 0 ∧ R.primary.size ≤ maxLen := by
  obtain ⟨p, hp⟩ := h.inv.prim
  have hm := Reg.look_mem hp
  have hw := h.wd _ hm
  have e : R.find wordB R.primary = (some p, 0) := by
    unfold Reg.Rg.find
    rw [if_neg (by simp [hw]), hp]
  refine ⟨?_, by rw [e], h.nm _ hm⟩
  unfold logAt logsOf
  rw [e, Reg.first_of hp]
def NoneAt (p : Option Addr) (w : World) : Prop := p = none ∨ ∃ zb, p = some ⟨zb, 0, none⟩ ∧ w.cell? ⟨zb, 0, none⟩ = some (.map none)
theorem NoneAt.fr0 {p : Option Addr} {w w' : World} (h : NoneAt p w) (f : Fr [] w w') : NoneAt p w' := by
  rcases h with h | ⟨zb, h1, h2⟩
  · exact .inl h
  · exact .inr ⟨zb, h1, f.cell0 h2⟩
set_option maxRecDepth 100000 in
theorem none_yes (p : Option Addr) (w : World) (h : NoneAt p w) : Calls Tryz.prog 42 #[.pointer p] w fun e w' => e = .returned (.bool true) ∧ w = w' := by
  have hmn := run_eql_map_nil (P := Tryz.prog) w 85 9 92 none Tryz.underlying85
  rcases h with rfl | ⟨zb, rfl, h⟩
  · go_enter Tryz.func42, Tryz.ntmps42
    go_wp2
    go_ret
    exact ⟨rfl, rfl⟩
  · go_enter Tryz.func42, Tryz.ntmps42
    go_wp2
    go_ret
    exact ⟨rfl, rfl⟩
set_option maxRecDepth 100000 in
theorem find_none (p : Option Addr) (n : ByteArray) (w : World) (h : NoneAt p w) : Calls Tryz.prog 49 #[.pointer p, .string n] w fun e w' => e = .returned (.tuple #[.pointer none, .int .i64 7]) ∧ w = w' := by
  have H := hid h
  clear h
  go_enter Tryz.func49, Tryz.ntmps49
  go_wp2_with fail
  refine (none_yes p _ H.out).mono ?_
  rintro e w' ⟨rfl, rfl⟩
  go_wp2
  go_ret2
  exact ⟨rfl, rfl⟩
set_option maxRecDepth 100000 in
theorem fail_none (p : Option Addr) (n : ByteArray) (w : World) (h : NoneAt p w) : Calls Tryz.prog 26 #[.pointer p, .string n] w fun e w' => e = .returned (.tuple #[.int .i64 0, .int .i64 7]) ∧ w = w' := by
  have H := hid h
  clear h
  go_enter Tryz.func26, Tryz.ntmps26
  go_wp2_with fail
  refine (find_none p n _ H.out).mono ?_
  rintro e w' ⟨rfl, rfl⟩
  go_wp2
  go_ret2
  exact ⟨rfl, rfl⟩
set_option maxRecDepth 100000 in
theorem record_none (p : Option Addr) (n : ByteArray) (ep : Int) (x : LO) (A0 : Option Addr) (c0 : Nat) (A2 : Option Addr) (c2 : Nat) (w : World) (h : NoneAt p w) : Calls Tryz.prog 25 #[.pointer p, .string n, .int .i64 ep, logV x (.slice A0 x.f0.length c0) (.slice A2 x.f2.length c2)] w fun e w' => e = .returned (.tuple #[.int .i64 0, .int .i64 7]) ∧ Fr [] w w' := by
  have F1 := hid ((Fr.refl [] w).alloc (.cells #[.slice A0 x.f0.length c0, .int .i64 x.f1, .slice A2 x.f2.length c2, .int .i64 x.f3] 40))
  have H := hid (h.fr0 F1.out)
  clear h
  unfold logV
  go_enter Tryz.func25, Tryz.ntmps25
  go_wp2_with fail
  refine (none_yes p _ H.out).mono ?_
  rintro e w' ⟨rfl, rfl⟩
  go_wp2_with fail
  refine (find_none p n _ H.out).mono ?_
  rintro e w' ⟨rfl, rfl⟩
  go_wp2
  go_ret2
  exact ⟨rfl, F1.out⟩
set_option maxRecDepth 100000 in
theorem clone_none (p : Option Addr) (w : World) (h : NoneAt p w) : Calls Tryz.prog 18 #[.pointer p] w fun e w' => e = .returned (.pointer none) ∧ w = w' := by
  have H := hid h
  clear h
  go_enter Tryz.func18, Tryz.ntmps18
  go_wp2_with fail
  refine (none_yes p _ H.out).mono ?_
  rintro e w' ⟨rfl, rfl⟩
  go_wp2
  go_ret
  exact ⟨rfl, rfl⟩
set_option maxRecDepth 100000 in
theorem state_none (p : Option Addr) (w : World) (h : NoneAt p w) : Calls Tryz.prog 16 #[.pointer p] w fun e w' => e = .returned (.agg #[.string ⟨#[]⟩, .int .i64 0, .int .i64 0, .slice none 0 0]) ∧ Fr [] w w' := by
  have F1 := hid ((Fr.refl [] w).alloc (.cells #[.string ⟨#[]⟩, .int .i64 0, .int .i64 0, .slice none 0 0] 48))
  have B1 := hid (heap_alloc_new w (.cells #[.string ⟨#[]⟩, .int .i64 0, .int .i64 0, .slice none 0 0] 48))
  have H := hid (h.fr0 F1.out)
  clear h
  go_enter Tryz.func16, Tryz.ntmps16
  go_wp2_with fail
  refine (none_yes p _ H.out).mono ?_
  rintro e w' ⟨rfl, rfl⟩
  go_wp2
  refine bodyPost_ret (results_row1 (fn := Tryz.f16) (p := 2) rfl _ _ w.heap.size 48 _ (0, 0) _ rfl B1.out Tryz.underlying48 rfl (by kernel_rfl)) rfl ?_
  exact ⟨rfl, F1.out⟩
def entD (n : ByteArray) : DE := ⟨⟨#[99, 114, 101, 97, 116, 101]⟩, n, ⟨#[]⟩, ⟨#[]⟩, [], 0, []⟩
def entX (n : ByteArray) (t : Int) : LO := ⟨[entD n], t, [], 1⟩
theorem lit_rows {α : Type} (d : Kd α) (e : TypeId) (W : World) (xs : List α) (cs : List Value) (hl : xs.length ≤ 9223372036854775807) (h : Reps (d.M W 0 (fun k => some k ≠ some W.heap.size)) d.sz xs cs) :
    d.R e (W.alloc (.cells cs.toArray e)) 0 (fun _ => True) (.slice (some ⟨W.heap.size, 0, none⟩) xs.length xs.length) xs := by
  refine ⟨fun _ _ => trivial, OwnRow.lit W 0 (inner := cs) (ps := xs) (h.imp_ (fun x c hx => ?_)) (Nat.zero_le _) hl⟩
  refine d.M_mono ?_ (d.M_move (fun k hk => ?_) (d.M_bound hx))
  · rintro k ⟨h1, -⟩; exact ⟨trivial, h1⟩
  · exact heap_alloc_old W _ hk.2.2.1
theorem ent_row (n : ByteArray) (w : World) : kD.R 135 (w.alloc (.cells #[.string ⟨#[99, 114, 101, 97, 116, 101]⟩, .string n, .string ⟨#[]⟩, .string ⟨#[]⟩, .slice none 0 0, .int .i64 0, .slice none 0 0] 135)) 0 (fun _ => True) (.slice (some ⟨w.heap.size, 0, none⟩) 1 1) [entD n] := by
  refine lit_rows kD 135 w [entD n] [.string ⟨#[99, 114, 101, 97, 116, 101]⟩, .string n, .string ⟨#[]⟩, .string ⟨#[]⟩, .slice none 0 0, .int .i64 0, .slice none 0 0] (by simp) ?_
  have hm : kD.M w 0 (fun k => some k ≠ some w.heap.size) (entD n) [.string ⟨#[99, 114, 101, 97, 116, 101]⟩, .string n, .string ⟨#[]⟩, .string ⟨#[]⟩, .slice none 0 0, .int .i64 0, .slice none 0 0] := by
    have := kD_mk (w := w) (base := 0) (ok := fun _ => True) (entD n) (ros_of_R (Kd.R_nil kC _ _ _ _)) (ros_of_R (Kd.R_nil kI _ _ _ _))
    exact kD.M_mono (fun k hk => by have := hk.2.2.1; intro e; injection e with e; omega) (kD.M_bound this)
  have := (Reps.none (kD.M w 0 (fun k => some k ≠ some w.heap.size)) kD.sz).snoc hm rfl
  simpa using this
def Entered (n : ByteArray) (t : Int) (w : World) (e : Ending) (w' : World) : Prop :=
  ∃ b, e = .returned (logV (entX n t) (.slice (some ⟨b, 0, none⟩) 1 1) (.slice none 0 0)) ∧ kD.R 135 w' 0 (fun _ => True) (.slice (some ⟨b, 0, none⟩) 1 1) [entD n] ∧ Fr [] w w' ∧ w.heap.size ≤ b
set_option maxRecDepth 100000 in
theorem entry_any (n : ByteArray) (t : Int) (w : World) : Calls Tryz.prog 30 #[.string n, .int .i64 t] w (Entered n t w) := by
  unfold Entered logV
  go_enter Tryz.func30, Tryz.ntmps30
  go_wp2
  have F2 := (Fr.refl [] w).alloc (.cells #[.slice (some ⟨w.heap.size + 1, 0, none⟩) 1 1, .int .i64 t, .slice none 0 0, .int .i64 1] 40)
  have b6 := ((Fr.refl [] (w.alloc (.cells #[.slice (some ⟨w.heap.size + 1, 0, none⟩) 1 1, .int .i64 t, .slice none 0 0, .int .i64 1] 40))).alloc (.cells #[.string ⟨#[99, 114, 101, 97, 116, 101]⟩, .string n, .string ⟨#[]⟩, .string ⟨#[]⟩, .slice none 0 0, .int .i64 0, .slice none 0 0] 135)).blk (heap_alloc_new w (.cells #[.slice (some ⟨w.heap.size + 1, 0, none⟩) 1 1, .int .i64 t, .slice none 0 0, .int .i64 1] 40)) (by simp)
  have r6 := ent_row n (w.alloc (.cells #[.slice (some ⟨w.heap.size + 1, 0, none⟩) 1 1, .int .i64 t, .slice none 0 0, .int .i64 1] 40))
  rw [World.size_alloc] at r6
  refine bodyPost_ret (results_row1 (fn := Tryz.f30) (p := 4) rfl _ _ w.heap.size 40 _ (0, 0) _ rfl b6 Tryz.underlying40 rfl (by kernel_rfl)) rfl ?_
  exact ⟨w.heap.size + 1, rfl, r6, F2.alloc _, Nat.le_succ _⟩
end Go.Proofs.YtkolnoadeihmoaaGreat
