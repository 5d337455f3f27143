/-
  A deed's validity: Valid.
  Valid of a deed that is in the table.
  Commit, given what Valid says.
-/
import Derived.Test.YtkolnoadeihmoaaGreatKd12
import Derived.Test.YtkolnoadeihmoaaGreatKd13
namespace Go.Proofs.YtkolnoadeihmoaaGreat
open Go.RowKit Go.Proofs.YtkolnoadeihmoaaGreatW.PrintWords
structure Fl where
  c : Bool
  k : Bool
  f : Bool
  t : Bool
  d : Bool
  tb : Bool
def flagsOf (s : ByteArray) : Option Fl :=
  if s = kCreate then some ⟨true, true, false, false, true, true⟩
  else if s = kDrop then some ⟨false, false, false, false, true, true⟩
  else if s = kUndrop then some ⟨false, false, false, false, true, true⟩
  else if s = kRename then some ⟨false, false, false, true, true, true⟩
  else if s = kSwap then some ⟨false, false, false, true, false, true⟩
  else if s = kLay then some ⟨true, false, true, false, false, true⟩
  else if s = kKeep then some ⟨false, true, false, false, true, true⟩
  else none
def ofB (x : DE) : Bool := !x.f2.toList.isEmpty
def preB (F : Fl) (x : DE) : Bool := wordB x.f1 && (if ofB x then wordB x.f2 && F.tb else F.d)
def restB (F : Fl) (x : DE) : Bool :=
  (if F.c && ofB x then colsB x.f4 else decide (x.f4.length = 0)) &&
  ((F.k && (decide (0 ≤ x.f5) && decide (x.f5 ≤ 1000000000))) || decide (x.f5 = 0)) &&
  ((F.f && filesB x.f6) || decide (x.f6.length = 0)) &&
  (if F.t then wordB x.f3 else x.f3.toList.isEmpty)
def validB (x : DE) : Bool := match flagsOf x.f0 with
  | none => false
  | some F => preB F x && restB F x
structure DeedIn (x : DE) : Prop where
  s1 : x.f1.size ≤ maxLen
  s2 : x.f2.size ≤ maxLen
  s3 : x.f3.size ≤ maxLen
  l4 : x.f4.length ≤ 9223372036854775807
  n4 : ∀ y ∈ x.f4, y.f0.size ≤ maxLen
  l6 : x.f6.length ≤ 17592186044416
theorem rest_l4 {F : Fl} {x : DE} (h : restB F x = true) : x.f4.length ≤ 8 := by
  unfold restB at h
  simp only [Bool.and_eq_true] at h
  have h1 := h.1.1.1
  split at h1
  · unfold colsB at h1
    simp only [Bool.and_eq_true, decide_eq_true_eq] at h1
    exact h1.2
  · have := of_decide_eq_true h1
    omega
theorem valid_ok {x : DE} (h : validB x = true) (i : DeedIn x) : DeedOk x := by
  unfold validB at h
  cases hf : flagsOf x.f0 with
  | none => rw [hf] at h; cases h
  | some F =>
    rw [hf] at h
    have h4 := rest_l4 (Bool.and_eq_true _ _ ▸ h : _ ∧ _).2
    refine ⟨?_, by omega, by have := i.l6; omega⟩
    clear h h4
    unfold flagsOf at hf
    unfold isOp
    repeat' split at hf
    all_goals first
      | (cases hf; done)
      | simp [*]
theorem look_no_in {W : World} {s : ByteArray} {r : Nat} (h : rowOf s = none) (hb : W.heap[r]? = some (.map deedRows 7)) : (Instr.lookup 200 (.map (some r)) (.string s) true).run Tryz.prog W = .ok (.tuple #[.agg #[.bool false, .bool false, .bool false, .bool false, .bool false, .bool false, .nilFunc], .bool false]) W := by
  have hf := find_row s
  rw [h] at hf
  exact run_look_no (P := Tryz.prog) W _ _ 198 r deedRows 7 s _ true Tryz.underlying200 Tryz.underlying9 hb (by kernel_rfl) hf
theorem look_yes_in {W : World} {s : ByteArray} {r : Nat} {v : Value} (h : rowOf s = some v) (hb : W.heap[r]? = some (.map deedRows 7)) : (Instr.lookup 200 (.map (some r)) (.string s) true).run Tryz.prog W = .ok (.tuple #[v, .bool true]) W := by
  have hf := find_row s
  rw [h] at hf
  exact run_look_yes (P := Tryz.prog) W _ _ _ r deedRows 7 _ s v true Tryz.underlying200 Tryz.underlying9 hb hf
theorem last_obj (W : World) (o : Obj) : (W.alloc o).heap[W.heap.size]? = some o := (MapKept.heap_alloc W o).1
theorem last_obj2 (W : World) (o o' : Obj) : ((W.alloc o).alloc o').heap[W.heap.size]? = some o := (Below.heap_alloc (W.alloc o) o' W.heap.size (by rw [World.size_alloc]; omega)).trans (last_obj W o)
def box0 : Obj := .cells #[.bool false, .bool false, .bool false, .bool false, .bool false, .bool false, .nilFunc] 198
theorem look3 {W : World} {s : ByteArray} {o : Value} (H : ∀ (W : World) (r : Nat), W.heap[r]? = some (.map deedRows 7) → (Instr.lookup 200 (.map (some r)) (.string s) true).run Tryz.prog W = .ok o W) :
    (Instr.lookup 200 (.map (some W.heap.size)) (.string s) true).run Tryz.prog (W.alloc (.map deedRows 7)) = .ok o (W.alloc (.map deedRows 7)) ∧
    (Instr.lookup 200 (.map (some W.heap.size)) (.string s) true).run Tryz.prog ((W.alloc (.map deedRows 7)).alloc box0) = .ok o ((W.alloc (.map deedRows 7)).alloc box0) ∧
    (Instr.lookup 200 (.map (some (W.heap.size + 1))) (.string s) true).run Tryz.prog ((W.alloc box0).alloc (.map deedRows 7)) = .ok o ((W.alloc box0).alloc (.map deedRows 7)) := by
  refine ⟨H _ _ (last_obj _ _), H _ _ (last_obj2 _ _ _), H _ _ ?_⟩
  have := last_obj (W.alloc box0) (.map deedRows 7)
  rw [World.size_alloc] at this
  exact this
theorem ends1 (w : World) (o m r : Obj) : Fr [] w (((w.alloc o).alloc m).alloc r).drew ∧ (((w.alloc o).alloc m).alloc r).drew.heap[w.heap.size]? = some o ∧ (((w.alloc o).alloc m).alloc r).drew.heap[w.heap.size + 1 + 1]? = some r := by
  refine ⟨((((Fr.refl [] w).alloc o).alloc m).alloc r).drew, ?_, ?_⟩
  · exact (((Fr.refl [] (w.alloc o)).alloc m).alloc r).drew.blk (last_obj w o) (by simp)
  · have := last_obj ((w.alloc o).alloc m) r
    rw [World.size_alloc, World.size_alloc] at this
    exact this
theorem ends2 (w : World) (o m r : Obj) : Fr [] w (((w.alloc o).alloc r).alloc m).drew ∧ (((w.alloc o).alloc r).alloc m).drew.heap[w.heap.size]? = some o ∧ (((w.alloc o).alloc r).alloc m).drew.heap[w.heap.size + 1]? = some r := by
  refine ⟨((((Fr.refl [] w).alloc o).alloc r).alloc m).drew, ?_, ?_⟩
  · exact (((Fr.refl [] (w.alloc o)).alloc r).alloc m).drew.blk (last_obj w o) (by simp)
  · have := last_obj (w.alloc o) r
    rw [World.size_alloc] at this
    exact ((Fr.refl [] ((w.alloc o).alloc r)).alloc m).drew.blk this (by simp)
set_option maxRecDepth 100000 in
set_option maxHeartbeats 4000000 in
theorem valid_no (x : DE) (A4 : Option Addr) (c4 : Nat) (A6 : Option Addr) (c6 : Nat) (w : World) (hf : flagsOf x.f0 = none) (hr : rowOf x.f0 = none) :
    Calls Tryz.prog 91 #[deedV x A4 c4 A6 c6] w fun e w' => e = .returned (.bool (validB x)) ∧ Fr [] w w' := by
  unfold deedV
  have E0 := hid (show validB x = false by unfold validB; rw [hf])
  obtain ⟨hl1, hl2, hl3⟩ := look3 (W := (w.alloc (.cells #[.string x.f0, .string x.f1, .string x.f2, .string x.f3, .slice A4 x.f4.length c4, .int .i64 x.f5, .slice A6 x.f6.length c6] 135)).drew) (fun W r hb => look_no_in (r := r) hr hb)
  simp only [World.alloc_drew, World.size_drew, World.size_alloc, box0] at hl1 hl2 hl3
  have G1 := hid (ends1 w (.cells #[.string x.f0, .string x.f1, .string x.f2, .string x.f3, .slice A4 x.f4.length c4, .int .i64 x.f5, .slice A6 x.f6.length c6] 135) (.map deedRows 7) box0)
  have G2 := hid (ends2 w (.cells #[.string x.f0, .string x.f1, .string x.f2, .string x.f3, .slice A4 x.f4.length c4, .int .i64 x.f5, .slice A6 x.f6.length c6] 135) (.map deedRows 7) box0)
  unfold box0 at G1 G2
  clear hf hr
  go_enter Tryz.func91, Tryz.ntmps91
  go_wp2_with fail
  refine (fun (KEY : Hid (∀ w2 mb rb, Fr [] w w2 → w2.heap[w.heap.size]? = some (.cells #[.string x.f0, .string x.f1, .string x.f2, .string x.f3, .slice A4 x.f4.length c4, .int .i64 x.f5, .slice A6 x.f6.length c6] 135 (0, 0)) → (?KEYP : World → Nat → Nat → Prop) w2 mb rb)) => ?main) ?key
  case main =>
    go_region_with (first
      | (go_at_call 135; refine (deeds_any _).mono ?_; rintro e w' ⟨rfl, rfl⟩))
    all_goals first
      | (obtain ⟨g1, g2, -⟩ := G1.out
         generalize (((w.alloc _).alloc (.map deedRows 7)).alloc _).drew = w2 at g1 g2 ⊢
         generalize w.heap.size + 1 + 1 = rb
         generalize w.heap.size + 1 = mb
         exact KEY.out w2 mb rb g1 g2)
      | (obtain ⟨g1, g2, -⟩ := G2.out
         generalize (((w.alloc _).alloc _).alloc (.map deedRows 7)).drew = w2 at g1 g2 ⊢
         generalize w.heap.size + 1 + 1 = mb
         generalize w.heap.size + 1 = rb
         exact KEY.out w2 mb rb g1 g2)
  refine hid (fun w2 mb rb g1 g2 => ?_)
  clear hl1 hl2 hl3 G1 G2
  have n1 := cell_of_row w2 w.heap.size 1 _ _ _ g2
  have n2 := cell_of_row w2 w.heap.size 2 _ _ _ g2
  simp at n1 n2
  have K1 := hid g1
  clear g1 g2
  go_wp2
  all_goals
    go_ret
    rw [E0.out]
    exact ⟨rfl, K1.out⟩
structure ValAt (w : World) (b rb : Nat) (x : DE) (A4 : Option Addr) (c4 : Nat) (A6 : Option Addr) (c6 : Nat) (q0 q1 q2 q3 q4 q5 : Bool) : Prop where
  d1 : w.cell? ⟨b, 1, none⟩ = some (.string x.f1)
  d2 : w.cell? ⟨b, 2, none⟩ = some (.string x.f2)
  d3 : w.cell? ⟨b, 3, none⟩ = some (.string x.f3)
  d4 : w.cell? ⟨b, 4, none⟩ = some (.slice A4 x.f4.length c4)
  d5 : w.cell? ⟨b, 5, none⟩ = some (.int .i64 x.f5)
  d6 : w.cell? ⟨b, 6, none⟩ = some (.slice A6 x.f6.length c6)
  e0 : w.cell? ⟨rb, 0, none⟩ = some (.bool q0)
  e1 : w.cell? ⟨rb, 1, none⟩ = some (.bool q1)
  e2 : w.cell? ⟨rb, 2, none⟩ = some (.bool q2)
  e3 : w.cell? ⟨rb, 3, none⟩ = some (.bool q3)
  e4 : w.cell? ⟨rb, 4, none⟩ = some (.bool q4)
  e5 : w.cell? ⟨rb, 5, none⟩ = some (.bool q5)
theorem ValAt.fr {w w' : World} {b rb : Nat} {x : DE} {A4 : Option Addr} {c4 : Nat} {A6 : Option Addr} {c6 : Nat} {q0 q1 q2 q3 q4 q5 : Bool} (h : ValAt w b rb x A4 c4 A6 c6 q0 q1 q2 q3 q4 q5) (f : Fr [] w w') : ValAt w' b rb x A4 c4 A6 c6 q0 q1 q2 q3 q4 q5 :=
  ⟨f.cell0 h.d1, f.cell0 h.d2, f.cell0 h.d3, f.cell0 h.d4, f.cell0 h.d5, f.cell0 h.d6, f.cell0 h.e0, f.cell0 h.e1, f.cell0 h.e2, f.cell0 h.e3, f.cell0 h.e4, f.cell0 h.e5⟩
theorem ValAt.mk' {w : World} {b rb fn : Nat} {x : DE} {A4 : Option Addr} {c4 : Nat} {A6 : Option Addr} {c6 : Nat} {q0 q1 q2 q3 q4 q5 : Bool}
    (g2 : w.heap[b]? = some (.cells #[.string x.f0, .string x.f1, .string x.f2, .string x.f3, .slice A4 x.f4.length c4, .int .i64 x.f5, .slice A6 x.f6.length c6] 135 (0, 0)))
    (g3 : w.heap[rb]? = some (.cells #[.bool q0, .bool q1, .bool q2, .bool q3, .bool q4, .bool q5, .func (.func fn) #[] #[]] 198 (0, 0))) : ValAt w b rb x A4 c4 A6 c6 q0 q1 q2 q3 q4 q5 := by
  have n1 := cell_of_row w b 1 _ _ _ g2
  have n2 := cell_of_row w b 2 _ _ _ g2
  have n3 := cell_of_row w b 3 _ _ _ g2
  have n4 := cell_of_row w b 4 _ _ _ g2
  have n5 := cell_of_row w b 5 _ _ _ g2
  have n6 := cell_of_row w b 6 _ _ _ g2
  have m0 := cell_of_row w rb 0 _ _ _ g3
  have m1 := cell_of_row w rb 1 _ _ _ g3
  have m2 := cell_of_row w rb 2 _ _ _ g3
  have m3 := cell_of_row w rb 3 _ _ _ g3
  have m4 := cell_of_row w rb 4 _ _ _ g3
  have m5 := cell_of_row w rb 5 _ _ _ g3
  simp at n1 n2 n3 n4 n5 n6 m0 m1 m2 m3 m4 m5
  exact ⟨n1, n2, n3, n4, n5, n6, m0, m1, m2, m3, m4, m5⟩
theorem word_fr (s : ByteArray) (hs : s.size ≤ maxLen) (w : World) :
    Calls Tryz.prog 34 #[.string s] w fun e w' => e = .returned (.bool (wordB s)) ∧ Fr [] w w' :=
  (word_any s hs w).mono fun e w' ⟨h, q, hq⟩ => ⟨h, by subst hq; exact (Fr.refl [] w).drewN _⟩
def ValidSays : Prop := ∀ (x : DE) (A4 : Option Addr) (c4 : Nat) (A6 : Option Addr) (c6 : Nat) (w : World), kC.C w A4 x.f4.length x.f4 → kI.C w A6 x.f6.length x.f6 → DeedIn x →
  Calls Tryz.prog 91 #[deedV x A4 c4 A6 c6] w fun e w' => e = .returned (.bool (validB x)) ∧ Fr [] w w'
theorem kDeedIn {xs : List DE} {k : Nat} {x : DE} (h : ∀ y ∈ xs, DeedIn y) (hx : xs[k]? = some x) : DeedIn x := h x (List.mem_iff_getElem?.2 ⟨k, hx⟩)
set_option maxRecDepth 100000 in
theorem commit1_any (HV : ValidSays) (x : DE) (A4 : Option Addr) (c4 : Nat) (A6 : Option Addr) (c6 : Nat) (w : World) (r4 : kC.C w A4 x.f4.length x.f4) (r6 : kI.C w A6 x.f6.length x.f6) (hi : DeedIn x) :
    Calls Tryz.prog 241 #[deedV x A4 c4 A6 c6] w fun e w' => e = .returned (.bool (!validB x)) ∧ Fr [] w w' := by
  have F1 := hid ((((Fr.refl [] w).alloc (.cells #[.string x.f0, .string x.f1, .string x.f2, .string x.f3, .slice A4 x.f4.length c4, .int .i64 x.f5, .slice A6 x.f6.length c6] 135))))
  have HC := hid (HV x A4 c4 A6 c6 _ (Kd.C_below r4 F1.out.below0) (Kd.C_below r6 F1.out.below0) hi)
  unfold deedV at HC ⊢
  clear r4 r6 hi
  go_enter Tryz.func241, Tryz.ntmps241
  go_wp2_with (go_at_call 91; refine HC.out.mono ?_; rintro e w3 ⟨rfl, f3⟩)
  go_ret
  exact ⟨rfl, F1.out.then f3⟩
def badIx (xs : List DE) : Int := match xs.findIdx? (fun x => !validB x) with
  | some i => i
  | none => -1
theorem bad_at {xs : List DE} {k : Nat} {x : DE} (hb : ∀ j y, j < k → xs[j]? = some y → validB y = true) (hx : xs[k]? = some x) (h : validB x = false) : badIx xs = (k : Int) := by
  have hk := List.getElem?_eq_some_iff.1 hx
  have : xs.findIdx? (fun x => !validB x) = some k := by
    rw [List.findIdx?_eq_some_iff_getElem]
    refine ⟨hk.1, by rw [hk.2, h]; rfl, fun j hj => ?_⟩
    have hjl : j < xs.length := Nat.lt_trans hj hk.1
    rw [hb j xs[j] hj (List.getElem?_eq_getElem hjl)]
    simp
  unfold badIx
  rw [this]
theorem bad_none {xs : List DE} (hb : ∀ j y, j < xs.length → xs[j]? = some y → validB y = true) : badIx xs = -1 := by
  have : xs.findIdx? (fun x => !validB x) = none := by
    rw [List.findIdx?_eq_none_iff]
    intro y hy
    obtain ⟨j, hj⟩ := List.mem_iff_getElem?.1 hy
    rw [hb j y (List.getElem?_eq_some_iff.1 hj).1 hj]
    rfl
  unfold badIx
  rw [this]
set_option maxRecDepth 100000 in
theorem index_any (HV : ValidSays) (A : Option Addr) (c : Nat) (xs : List DE) (w : World) (hC : Kd.C k135 w A xs.length xs) (hl : xs.length ≤ 100000) (hi : ∀ y ∈ xs, DeedIn y) :
    Calls Tryz.prog 134 #[.slice A xs.length c, .func (.func 241) #[] #[]] w fun e w' => e = .returned (.int .i64 (badIx xs)) ∧ Fr [] w w' := by
  have HC := hid hC
  have HI := hid hi
  have HVV := hid HV
  clear hC hi HV
  go_enter Tryz.func134, Tryz.ntmps134
  go_wp2
  go_loopw [8] (fun i wr => ∃ k : Nat, i = .int .i64 k ∧ k ≤ xs.length ∧ (∀ j y, j < k → xs[j]? = some y → validB y = true) ∧ Fr [] w wr) (fun i _ => xs.length - (intOf i).toNat)
  case atStart => exact ⟨0, rfl, Nat.zero_le _, fun j x hj => absurd hj (Nat.not_lt_zero _), Fr.refl _ _⟩
  case round =>
    obtain ⟨k, rfl, hk, hb, hF⟩ := hrel
    have HB := hid hb
    have HF := hid hF
    clear hb hF
    by_cases hlt : k < xs.length
    · obtain ⟨x, hx⟩ : ∃ x, xs[k]? = some x := ⟨_, List.getElem?_eq_getElem hlt⟩
      obtain ⟨b, off, A4, c4, A6, c6, eA, hat⟩ := deeds_at HC.out hx
      have hxi := kDeedIn HI.out hx
      subst eA
      obtain ⟨d0, d1, d2, d3, d4, d5, d6, l4, r4, l6, r6⟩ := hat.fr HF.out
      have HCALL := hid (commit1_any HVV.out x A4 c4 A6 c6 wr r4 r6 hxi)
      unfold deedV at HCALL
      have HX := hid hx
      have hm0 : (0 : Int) ≤ (k : Int) := by omega
      have hm1 : (k : Int) < (xs.length : Int) := by omega
      obtain ⟨vb, hvb⟩ : ∃ vb, vb = validB x := ⟨_, rfl⟩
      rw [← hvb] at HCALL
      have HVB := hid hvb
      clear hat r4 r6 hx hxi hvb
      cases vb with
      | false =>
        go_wp2_with (go_at_call 241; refine HCALL.out.mono ?_; rintro e w3 ⟨rfl, f3⟩)
        go_ret
        refine ⟨?_, HF.out.then f3⟩
        rw [bad_at HB.out HX.out HVB.out.symm]
        rfl
      | true =>
        go_wp2_with (go_at_call 241; refine HCALL.out.mono ?_; rintro e w3 ⟨rfl, f3⟩)
        go_roundw
        case rel =>
          refine ⟨k + 1, by go_num, by omega, fun j y hj hy => ?_, HF.out.then f3⟩
          rcases Nat.lt_succ_iff_lt_or_eq.1 hj with h | rfl
          · exact HB.out j y h hy
          · rw [HX.out] at hy; cases hy; exact HVB.out.symm
        case measure => simp [intOf]; omega
    · obtain rfl : k = xs.length := by omega
      go_wp2
      go_ret
      rw [bad_none HB.out]
      exact ⟨rfl, HF.out⟩
def anyBad (xs : List DE) : Bool := decide (0 ≤ badIx xs)
set_option maxRecDepth 100000 in
theorem contains_any (HV : ValidSays) (A : Option Addr) (c : Nat) (xs : List DE) (w : World) (hC : Kd.C k135 w A xs.length xs) (hl : xs.length ≤ 100000) (hi : ∀ y ∈ xs, DeedIn y) :
    Calls Tryz.prog 89 #[.slice A xs.length c, .func (.func 241) #[] #[]] w fun e w' => e = .returned (.bool (anyBad xs)) ∧ Fr [] w w' := by
  have HCALL := hid (index_any HV A c xs w hC hl hi)
  unfold anyBad
  generalize badIx xs = r at HCALL ⊢
  clear HV hC hi
  go_enter Tryz.func89, Tryz.ntmps89
  go_wp2_with (go_at_call 134; refine HCALL.out.mono ?_; rintro e w3 ⟨rfl, f3⟩)
  go_ret
  exact ⟨rfl, f3⟩
theorem good_of_any {xs : List DE} (h : anyBad xs = false) : ∀ y ∈ xs, validB y = true := by
  intro y hy
  cases hv : validB y with
  | true => rfl
  | false =>
    exfalso
    unfold anyBad badIx at h
    cases hf : xs.findIdx? (fun x => !validB x) with
    | some i => rw [hf] at h; simp at h
    | none =>
      have := List.findIdx?_eq_none_iff.1 hf y hy
      simp [hv] at this
def commitBy (ss : List ST) (xs : List DE) (time : Int) : (Int × Int) × List ST := if decide (xs.length < 1) || (decide (60 < xs.length) || anyBad xs) then ((0, 1), ss) else force ss xs time
theorem Forced.after {cb : Nat} {v : Value} {r : (Int × Int) × List ST} {w w1 w' : World} {e : Ending} (f : Fr [] w w1) (h : Forced cb v r w1 e w') : Forced cb v r w e w' := by
  obtain ⟨he, v', hc, hf, ho⟩ := h
  refine ⟨he, v', hc, (f.mono (by simp)).then hf, fun k hk => ?_⟩
  rcases ho k hk with h | h
  · exact .inl h
  · have := f.size; exact .inr (by omega)
set_option maxRecDepth 100000 in
theorem commit_any (HV : ValidSays) (cb : Nat) (v : Value) (ss : List ST) (A : Option Addr) (c : Nat) (xs : List DE) (time : Int) (w : World) (h : CatAt w cb v ss) (hC : Kd.C k135 w A xs.length xs) (hl : xs.length ≤ 100000) (hi : ∀ y ∈ xs, DeedIn y) :
    Calls Tryz.prog 200 #[.pointer (some ⟨cb, 0, none⟩), .slice A xs.length c, .int .i64 time] w (Forced cb v (commitBy ss xs time) w) := by
  have HCON := hid (contains_any HV A c xs w hC hl hi)
  have HFOR := hid (fun (hg : anyBad xs = false) w1 (f : Fr [] w w1) => force_any cb v ss A c xs time w1 (h.fr0 f) (Kd.C_below hC f.below0) (fun y hy => valid_ok (good_of_any hg y hy) (hi y hy)) hl)
  have H := hid h
  obtain ⟨g, cg, hv, hgl, hlc⟩ := h.form
  subst hv
  have c0 := h.c0
  have hpos := h.pos
  have HM := hid (made_yes cb _ _ _ w c0 hpos)
  obtain ⟨bad, hbad⟩ : ∃ bad, anyBad xs = bad := ⟨_, rfl⟩
  have HB := hid hbad
  rw [hbad] at HCON
  clear h hC hi HV hbad c0
  by_cases h1 : xs.length < 1
  · have E0 := hid (show commitBy ss xs time = ((0, 1), ss) by unfold commitBy; simp [h1])
    have h1' : (xs.length : Int) < 1 := by omega
    go_enter Tryz.func200, Tryz.ntmps200
    go_wp2_with (go_at_call 127; refine HM.out.mono ?_; rintro e w3 ⟨rfl, rfl⟩)
    go_ret2
    rw [E0.out]
    exact Forced.same H.out (Fr.refl _ _)
  · have h1' : (1 : Int) ≤ xs.length := by omega
    by_cases h2 : 60 < xs.length
    · have E0 := hid (show commitBy ss xs time = ((0, 1), ss) by unfold commitBy; simp [h2])
      have h2' : (60 : Int) < xs.length := by omega
      go_enter Tryz.func200, Tryz.ntmps200
      go_wp2_with (go_at_call 127; refine HM.out.mono ?_; rintro e w3 ⟨rfl, rfl⟩)
      go_ret2
      rw [E0.out]
      exact Forced.same H.out (Fr.refl _ _)
    · have h2' : (xs.length : Int) ≤ 60 := by omega
      cases bad with
      | true =>
        have E0 := hid (show commitBy ss xs time = ((0, 1), ss) by unfold commitBy; rw [HB.out]; simp)
        go_enter Tryz.func200, Tryz.ntmps200
        go_wp2_with (first
          | (go_at_call 127; refine HM.out.mono ?_; rintro e w3 ⟨rfl, rfl⟩)
          | (go_at_call 89; refine HCON.out.mono ?_; rintro e w3 ⟨rfl, f3⟩))
        go_ret2
        rw [E0.out]
        exact Forced.same H.out f3
      | false =>
        have E0 := hid (show commitBy ss xs time = force ss xs time by unfold commitBy; rw [HB.out]; simp [h1, h2])
        rw [E0.out]
        go_enter Tryz.func200, Tryz.ntmps200
        go_wp2_with (first
          | (go_at_call 127; refine HM.out.mono ?_; rintro e w3 ⟨rfl, rfl⟩)
          | (go_at_call 89; refine HCON.out.mono ?_; rintro e w3 ⟨rfl, f3⟩)
          | (go_at_call 242; refine (HFOR.out HB.out _ f3).mono ?_; intro e w4 hq; have HQ := hid (Forced.after f3 hq); clear hq; obtain ⟨rfl, hq2⟩ := HQ.out; have HQ2 := hid hq2; clear hq2))
        go_ret2
        exact ⟨rfl, HQ2.out⟩
end Go.Proofs.YtkolnoadeihmoaaGreat
