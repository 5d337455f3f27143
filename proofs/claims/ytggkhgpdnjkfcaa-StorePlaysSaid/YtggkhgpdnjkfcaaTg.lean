/-
  The walk of done: put, drop, copy, own, damage, many.
-/
import Derived.Test.YtggkhgpdnjkfcaaTe
import Derived.Test.YtggkhgpdnjkfcaaSr
namespace Go.Proofs.Ytggkhgpdnjkfcaa
open Go.RowKit Go.Maps Go.Proofs.Ytggkhgpdnjkfcaa.PStorePlays Go.Proofs.YtggkhgpdnjkfcaaW.PrintWords Go.Proofs.YtggkhgpdnjkfcaaW.PrintLast Go.Proofs.YtggkhgpdnjkfcaaW.PrintMore

set_option maxRecDepth 100000 in
theorem missing_cap (b mb : Nat) (s : St) (ad : Addr) (n c : Nat) (zs : List Int) (hwf : ∀ z ∈ zs, (Lit.int .i64 z).wf = true) (w : World) (h : StoreAt w b mb s) (hz : IntsR w (.slice (some ad) n c) zs) (hn : n ≤ 1000) :
    Calls Try.prog 21 #[.pointer (some ⟨b, 0, none⟩), .slice (some ad) n c] w fun e w' => ∃ g cap, e = .returned (.slice (some ⟨g, 0, none⟩) (missing s zs).length cap) ∧ w.heap.size ≤ g ∧ HoldsL w' g (missing s zs) ∧ Fr [] w w' ∧ n ≤ cap := by
  have hl : zs.length = n := by obtain ⟨_, _, e, _⟩ := hz; injection e with _ e2 _; exact e2.symm
  have hf1 : Fr [] w (w.alloc (.cells #[.pointer (some ⟨b, 0, none⟩)] 25)) := (Fr.refl [] w).alloc _
  have H1 : StoreAt (w.alloc (.cells #[.pointer (some ⟨b, 0, none⟩)] 25)) b mb s := h.fr hf1 (by simp) (by simp)
  have hz1 := hz.fr hf1 (by simp)
  have hB : (w.alloc (.cells #[.pointer (some ⟨b, 0, none⟩)] 25)).cell? ⟨w.heap.size, 0, none⟩ = some (.pointer (some ⟨b, 0, none⟩)) := by simp
  have hBs : w.heap.size < (w.alloc (.cells #[.pointer (some ⟨b, 0, none⟩)] 25)).heap.size := by simp
  have c0 := H1.c0
  have hbl := h.lt
  have hml := h.map.lt
  have C1 := hid (clone_ints ad n c zs _ hz1 hn)
  have HF := hid hf1
  have HH := hid H1
  have HW := hid hwf
  have HL := hid hl
  have HBC := hid hB
  have HBS := hid hBs
  clear hz hz1 h H1 hf1 hwf hl hB hBs
  go_enter Try.func21, Try.ntmps21
  go_wp2_with fail
  refine (made_yes _ _ _ c0).mono ?_
  rintro e w' ⟨rfl, rfl⟩
  go_wp2_with fail
  refine C1.out.mono ?_
  rintro e w1 ⟨g, cap, rfl, hcap, hg, hgl, hH, f1⟩
  have S1 := HH.out.fr f1 (by simp) (by simp)
  have hB1 := (f1.cell (p := ⟨w.heap.size, 0, none⟩) HBS.out (by simp)).trans HBC.out
  have F1 := hid (HF.out.then f1)
  have hgw : w.heap.size < g := Nat.lt_of_lt_of_le HBS.out hg
  have C2 := hid (delete_ints b mb s w.heap.size g cap zs HW.out w1 S1 hB1 (by omega) (by rw [HL.out]; exact hn) (by rw [HL.out]; exact hcap) hH)
  rw [HL.out] at C2
  clear S1 hB1 hH f1 C1 HH HF c0 hg
  go_wp2_with fail
  refine C2.out.mono ?_
  rintro e w2 ⟨rfl, hH2, f2⟩
  have hlen := missL_len s zs
  rw [HL.out] at hlen
  have F2 := hid (F1.out.trans f2 (fun z hz => .inr (by simp at hz; omega)))
  have hgl2 := Nat.lt_of_lt_of_le hgl f2.size
  have C3 := hid (sort_ints g cap (missL s zs) w2 hH2 hgl2 (by omega))
  clear hH2 f2 C2 F1 hgl2
  go_wp2_with fail
  refine C3.out.mono ?_
  rintro e w3 ⟨rfl, hH3, f3⟩
  have F3 := hid (F2.out.trans f3 (fun z hz => .inr (by simp at hz; omega)))
  have e3 : (missL s zs).length = ((missL s zs).mergeSort fun x y => decide (x ≤ y)).length := by simp
  have C4 := hid (compact_ints g cap ((missL s zs).mergeSort fun x y => decide (x ≤ y)) w3 hH3 (by omega) (by omega))
  rw [← e3] at C4
  clear e3 hH3 f3 C3 F2
  go_wp2_with fail
  refine C4.out.mono ?_
  rintro e w4 ⟨rfl, hH4, f4⟩
  have F4 := hid (F3.out.trans f4 (fun z hz => .inr (by simp at hz; omega)))
  have HH4 := hid hH4
  clear hH4 f4 C4 F3
  go_wp2_with fail
  go_ret
  exact ⟨g, cap, rfl, by omega, HH4.out, F4.out, by omega⟩

theorem missing_len (s : St) (zs : List Int) : (missing s zs).length ≤ zs.length := by
  rw [← miss_eq]
  have := missFold_len s zs zs.length
  rwa [List.take_length] at this
theorem missing_ints (b mb : Nat) (s : St) (A : Option Addr) (n c : Nat) (zs : List Int) (hwf : ∀ z ∈ zs, (Lit.int .i64 z).wf = true) (w : World) (h : StoreAt w b mb s) (hz : IntsR w (.slice A n c) zs) (hn : n ≤ 1000) :
    Calls Try.prog 21 #[.pointer (some ⟨b, 0, none⟩), .slice A n c] w fun e w' => ∃ v, e = .returned v ∧ IntsR w' v (missing s zs) ∧ Fr [] w w' := by
  have hl : zs.length = n := by obtain ⟨_, _, e, _⟩ := hz; injection e with _ e2 _; exact e2.symm
  have hm := missing_len s zs
  cases A with
  | none =>
    have h0 : n = 0 := by
      obtain ⟨a, c', e, _, _, h3⟩ := hz
      injection e with e1 e2 _
      subst e1
      rcases Nat.eq_zero_or_pos n with h0 | h0
      · exact h0
      · obtain ⟨_, _, e, _⟩ := h3 (by omega); cases e
    subst h0
    have he : missing s zs = [] := List.eq_nil_of_length_eq_zero (by omega)
    refine (missing_nil b mb s c w h).mono fun e w' ⟨h1, h2⟩ => ⟨_, h1, ?_, h2⟩
    rw [he]
    exact ⟨none, 0, rfl, by simp, by simp, fun h => absurd h (by simp)⟩
  | some ad =>
    refine (missing_cap b mb s ad n c zs hwf w h hz hn).mono fun e w' ⟨g, cap, h1, _, h2, h3, h4⟩ => ⟨_, h1, h2.reads (by omega) (by omega), h3⟩
def zeros (n : Nat) : ByteArray := strOfNums (List.replicate n 0)
theorem zeros_size (n : Nat) : (zeros n).size = n := by rw [zeros, strOfNums_size, List.length_replicate]
theorem make_bytes (n : Nat) (h : n ≤ 8388609) (w : World) : ∃ w1, (Instr.makeSlice 61 (.int .i64 (n : Int)) (.int .i64 (n : Int))).run Try.prog w = .ok (.slice (some ⟨w.heap.size, 0, none⟩) n n) w1 ∧
    (convert 61 9 (.slice (some ⟨w.heap.size, 0, none⟩) n n)).run Try.prog w1 = .ok (.string (zeros n)) w1 ∧ Fr [] w w1 := by
  refine ⟨_, run_make_row' 61 5 (.int .u8 0) 1 Try.underlying61 (by kernel_rfl) rfl .i64 .i64 n (by omega) (by omega) w, ?_, (Fr.refl [] w).alloc _⟩
  refine run_convert_bytes_arg _ 61 5 Try.underlying61 Try.underlying5 w.heap.size 0 n n (List.replicate n 0) (by simp) (fun i hi => ?_) 9 Try.underlying9
  rw [cell_of_row _ _ _ _ _ _ (heap_alloc_new w _)]
  simp [madeCells, hi, List.getD_eq_getElem?_getD, Nat.mod_one]

section
variable {op bytes : ByteArray} {sec : Bool} {file at_ by_ : Int} {la A2 : Option Addr} {ln lc n2 c2 b mb b2 mb2 rb : Nat} {w : World} {s t : St} {nums : List Int}

set_option maxRecDepth 100000 in
set_option maxHeartbeats 2000000 in
theorem done_many (g0 : (op.toList == [112, 117, 116]) = false) (g1 : (op.toList == [108, 97, 114, 103, 101]) = false) (g2 : (op.toList == [109, 97, 110, 121]) = true) (hk : (Lit.int .i64 file).wf = true) (h : Pair w b mb rb s) :
    Calls Try.prog 18 #[.agg #[.string op, .bool sec, .string bytes, .int .i64 file, .int .i64 at_, .int .i64 by_, .slice la ln lc], .pointer (some ⟨b, 0, none⟩), .pointer (some ⟨b2, 0, none⟩), .pointer (some ⟨rb, 0, none⟩), .agg #[.slice A2 n2 c2, .int .i64 t.most]] w (DoneSays w b mb rb (putMany file.toNat s)) := by
  have Z := hid (at0 (op := op) (bytes := bytes) (sec := sec) (file := file) (at_ := at_) (by_ := by_) (la := la) (A2 := A2) (ln := ln) (lc := lc) (n2 := n2) (c2 := c2) (t := t) h)
  have HK := hid hk
  clear hk
  clear h
  go_enter Try.func18, Try.ntmps18
  go_wp2_with fail
  generalize ((w.alloc (.cells #[.string op, .bool sec, .string bytes, .int .i64 file, .int .i64 at_, .int .i64 by_, .slice la ln lc] 34)).alloc (.cells #[.slice A2 n2 c2, .int .i64 t.most] 43)) = w0 at Z ⊢
  have HB : Hid (b < w0.heap.size ∧ rb < w0.heap.size) := ⟨Z.out.p.st.lt, Z.out.p.rf.lt⟩
  have wf := bd64 HK.out
  go_loopw [16] (fun j w3 => ∃ m : Nat, j = .int .i64 m ∧ (m : Int) ≤ max 0 file ∧ Pair w3 b mb rb (putMany m s) ∧ Fr [b, mb, rb] w0 w3) (fun j _ => file.toNat - (intOf j).toNat)
  case atStart => exact ⟨0, rfl, by omega, Z.out.p, Fr.refl _ _⟩
  case round =>
    obtain ⟨m, rfl, hm, hp, hf⟩ := hrel
    obtain ⟨z2, z3, z4, z5, z6⟩ := Z.out.c _ hf
    have P := hid hp
    have F := hid hf
    clear hp hf
    by_cases hmf : (m : Int) < file
    · go_wp2_with fail
      refine (put_any b mb (putMany m s) ⟨#[]⟩ _ P.out.st (by decide)).mono ?_
      rintro e w1 ⟨rfl, p1, f1⟩
      have P1 := hid (And.intro p1 f1)
      clear p1 f1
      go_wp2_with fail
      refine (rput_any rb (putMany m s) ⟨#[]⟩ _ (P.out.mid P1.out.2) (by decide)).mono ?_
      rintro e w2 ⟨rfl, p2, f2⟩
      have P2 := hid (And.intro p2 f2)
      clear p2 f2
      go_wp2
      go_roundw
      case rel => exact ⟨m + 1, by go_num, by omega, P.out.next P1.out.1 P2.out.1 P2.out.2, F.out.then (Fr.two P1.out.2 P2.out.2)⟩
      case measure => simp [intOf]; omega
    · go_wp2
      go_ret
      have e : file.toNat = m := by omega
      rw [e]
      exact ⟨rfl, P.out, (Z.out.f.mono (by simp)).then F.out⟩

set_option maxRecDepth 100000 in
set_option maxHeartbeats 2000000 in
theorem done_large (g0 : (op.toList == [112, 117, 116]) = false) (g1 : (op.toList == [108, 97, 114, 103, 101]) = true) (hx : at_ ≤ 8388609) (h : Pair w b mb rb s) :
    Calls Try.prog 18 #[.agg #[.string op, .bool sec, .string bytes, .int .i64 file, .int .i64 at_, .int .i64 by_, .slice la ln lc], .pointer (some ⟨b, 0, none⟩), .pointer (some ⟨b2, 0, none⟩), .pointer (some ⟨rb, 0, none⟩), .agg #[.slice A2 n2 c2, .int .i64 t.most]] w (DoneSays w b mb rb (s.put (zeros at_.toNat))) := by
  have Z := hid (at0 (op := op) (bytes := bytes) (sec := sec) (file := file) (at_ := at_) (by_ := by_) (la := la) (A2 := A2) (ln := ln) (lc := lc) (n2 := n2) (c2 := c2) (t := t) h)
  clear h
  go_enter Try.func18, Try.ntmps18
  go_wp2_with fail
  generalize ((w.alloc (.cells #[.string op, .bool sec, .string bytes, .int .i64 file, .int .i64 at_, .int .i64 by_, .slice la ln lc] 34)).alloc (.cells #[.slice A2 n2 c2, .int .i64 t.most] 43)) = w0 at Z ⊢
  obtain ⟨w00, m1, m2, m3⟩ := make_bytes at_.toNat (by omega) w0
  have hmx : max at_ 0 = (at_.toNat : Int) := by omega
  rw [← hmx] at m1
  have P0 := hid m3
  have HX : Hid ((zeros at_.toNat).size ≤ maxLen) := by show (zeros at_.toNat).size ≤ _; rw [zeros_size]; unfold maxLen; omega
  have Y0 : Hid (Pair w00 b mb rb s) := Z.out.p.fr m3 (by simp) (by simp) (by simp) (by simp)
  have YF : Hid (Fr [] w w00) := Z.out.f.then m3
  clear m3 hmx
  rw [m1]
  go_wp2_with fail
  refine (put_any b mb s (zeros at_.toNat) _ Y0.out.st HX.out).mono ?_
  rintro e w1 ⟨rfl, p1, f1⟩
  have P1 := hid (And.intro p1 f1)
  clear p1 f1
  go_wp2_with fail
  refine (rput_any rb s (zeros at_.toNat) _ (Y0.out.mid P1.out.2) HX.out).mono ?_
  rintro e w2 ⟨rfl, p2, f2⟩
  have P2 := hid (And.intro p2 f2)
  clear p2 f2
  go_wp2
  go_ret
  exact ⟨rfl, Y0.out.next P1.out.1 P2.out.1 P2.out.2, (YF.out.mono (by simp)).trans (Fr.two P1.out.2 P2.out.2) (fun x hx => .inl hx)⟩

set_option maxRecDepth 100000 in
set_option maxHeartbeats 2000000 in
theorem done_long (g0 : (op.toList == [112, 117, 116]) = false) (g1 : (op.toList == [108, 97, 114, 103, 101]) = false) (g2 : (op.toList == [109, 97, 110, 121]) = false) (g3 : (op.toList == [100, 114, 111, 112]) = false) (g4 : (op.toList == [99, 111, 112, 121]) = false) (g5 : (op.toList == [111, 119, 110]) = false) (g6 : (op.toList == [100, 97, 109, 97, 103, 101]) = false) (g7 : (op.toList == [109, 105, 115, 115, 105, 110, 103]) = true) (hl : 200 < ln) (h : Pair w b mb rb s) :
    Calls Try.prog 18 #[.agg #[.string op, .bool sec, .string bytes, .int .i64 file, .int .i64 at_, .int .i64 by_, .slice la ln lc], .pointer (some ⟨b, 0, none⟩), .pointer (some ⟨b2, 0, none⟩), .pointer (some ⟨rb, 0, none⟩), .agg #[.slice A2 n2 c2, .int .i64 t.most]] w (DoneSays w b mb rb s) := by
  have Z := hid (at0 (op := op) (bytes := bytes) (sec := sec) (file := file) (at_ := at_) (by_ := by_) (la := la) (A2 := A2) (ln := ln) (lc := lc) (n2 := n2) (c2 := c2) (t := t) h)
  clear h
  go_enter Try.func18, Try.ntmps18
  go_wp2_with fail
  generalize ((w.alloc (.cells #[.string op, .bool sec, .string bytes, .int .i64 file, .int .i64 at_, .int .i64 by_, .slice la ln lc] 34)).alloc (.cells #[.slice A2 n2 c2, .int .i64 t.most] 43)) = w0 at Z ⊢
  obtain ⟨z2, z3, z4, z5, z6⟩ := Z.out.c _ (Fr.refl _ _)
  have hl2 : (200 : Int) < (ln : Int) := by omega
  have hl3 : decide ((200 : Int) < (ln : Int)) = true := decide_eq_true hl2
  go_region
  all_goals go_wp2
  all_goals go_ret
  all_goals exact ⟨rfl, Z.out.p.fr (Fr.refl [] w0).drew (by simp) (by simp) (by simp) (by simp), (Z.out.f.drew).mono (by simp)⟩

set_option maxRecDepth 100000 in
set_option maxHeartbeats 2000000 in
theorem done_missing (g0 : (op.toList == [112, 117, 116]) = false) (g1 : (op.toList == [108, 97, 114, 103, 101]) = false) (g2 : (op.toList == [109, 97, 110, 121]) = false) (g3 : (op.toList == [100, 114, 111, 112]) = false) (g4 : (op.toList == [99, 111, 112, 121]) = false) (g5 : (op.toList == [111, 119, 110]) = false) (g6 : (op.toList == [100, 97, 109, 97, 103, 101]) = false) (g7 : (op.toList == [109, 105, 115, 115, 105, 110, 103]) = true) (hz : IntsR w (.slice la ln lc) nums) (hwf : ∀ z ∈ nums, (Lit.int .i64 z).wf = true) (hl : ln ≤ 200) (h : Pair w b mb rb s) :
    Calls Try.prog 18 #[.agg #[.string op, .bool sec, .string bytes, .int .i64 file, .int .i64 at_, .int .i64 by_, .slice la ln lc], .pointer (some ⟨b, 0, none⟩), .pointer (some ⟨b2, 0, none⟩), .pointer (some ⟨rb, 0, none⟩), .agg #[.slice A2 n2 c2, .int .i64 t.most]] w (DoneSays w b mb rb s) := by
  have Z := hid (at0 (op := op) (bytes := bytes) (sec := sec) (file := file) (at_ := at_) (by_ := by_) (la := la) (A2 := A2) (ln := ln) (lc := lc) (n2 := n2) (c2 := c2) (t := t) h)
  have HZ := hid hz
  have HWF := hid hwf
  clear hz hwf
  clear h
  go_enter Try.func18, Try.ntmps18
  go_wp2_with fail
  generalize ((w.alloc (.cells #[.string op, .bool sec, .string bytes, .int .i64 file, .int .i64 at_, .int .i64 by_, .slice la ln lc] 34)).alloc (.cells #[.slice A2 n2 c2, .int .i64 t.most] 43)) = w0 at Z ⊢
  obtain ⟨vv, hb, hv⟩ := Z.out.p.rf.blk
  obtain ⟨A, c, rfl, -, -⟩ := hv.reads
  have HN := hid (Z.out.p.rf.ne Z.out.p.st)
  have HRB : Hid (∀ w', Fr [b, mb] w0 w' → w'.cell? ⟨rb, 0, none⟩ = some (.slice A (FS s.files).length c) ∧ w'.cell? ⟨rb, 1, none⟩ = some (.int .i64 s.most) ∧ RefV w' (.slice A (FS s.files).length c) s.files) := fun w' f => by
    have hn := HN.out
    have e := (f.block rb Z.out.p.rf.lt (by simp; omega)).trans hb
    exact ⟨cell_of_row w' _ 0 _ _ _ e, cell_of_row w' _ 1 _ _ _ e, hv.fr f (fun k hk => by obtain ⟨k1, k2⟩ := Z.out.p.st.no64; simp at hk; rcases hk with rfl | rfl <;> assumption)⟩
  clear hb hv
  have HL := hid hl
  have hl2 : ¬ 200 < (ln : Int) := by omega
  have I0 : Hid (∀ w', Fr [] w w' → IntsR w' (.slice la ln lc) nums) := fun w' f => HZ.out.fr f (by simp)
  have HN1 : Hid (nums.length ≤ 1000) := by
    obtain ⟨_, _, e, _⟩ := HZ.out
    injection e with _ e2 _
    show nums.length ≤ 1000
    omega
  clear hl
  have HS : Hid (∀ w', Fr [] w0 w' → (fun w' => w'.cell? ⟨w.heap.size, 6, none⟩ = some (.slice la ln lc) ∧ w'.cell? ⟨rb, 0, none⟩ = some (.slice A (FS s.files).length c) ∧ w'.cell? ⟨rb, 1, none⟩ = some (.int .i64 s.most)) w') := fun w' f => by
    obtain ⟨z2, z3, z4, z5, z6⟩ := Z.out.c w' (f.mono (by simp))
    obtain ⟨r0, r1, -⟩ := HRB.out w' (f.mono (by simp))
    exact ⟨z6, r0, r1⟩
  have S0 : (fun w' => w'.cell? ⟨w.heap.size, 6, none⟩ = some (.slice la ln lc) ∧ w'.cell? ⟨rb, 0, none⟩ = some (.slice A (FS s.files).length c) ∧ w'.cell? ⟨rb, 1, none⟩ = some (.int .i64 s.most)) w0.drew := HS.out _ (Fr.refl [] w0).drew
  have FD := hid (Fr.refl [] w0).drew
  go_region_held3 (fun w' => w'.cell? ⟨w.heap.size, 6, none⟩ = some (.slice la ln lc) ∧ w'.cell? ⟨rb, 0, none⟩ = some (.slice A (FS s.files).length c) ∧ w'.cell? ⟨rb, 1, none⟩ = some (.int .i64 s.most)) (first | assumption | trivial) (first
    | (go_at_call 21; refine (missing_ints b mb s la ln lc nums HWF.out _ (Z.out.p.st.fr FD.out (by simp) (by simp)) (I0.out _ (Z.out.f.drew)) (Nat.le_trans HL.out (by omega))).mono ?_; rintro e w1 ⟨v1, rfl, i1, f1⟩; have F1 := hid (FD.out.then f1); have I1 := hid i1; have S1 := HS.out _ F1.out; clear i1 f1)
    | (go_at_call 33; refine (rmiss (HRB.out _ (F1.out.mono (by simp))).2.2 Z.out.p.st.ok s.most (I0.out _ (Z.out.f.then F1.out)) HN1.out).mono ?_; rintro e w2 ⟨v2, rfl, i2, f2⟩; have F2 := hid (F1.out.then f2); have I2 := hid i2; have I1' := hid (I1.out.fr f2 (by simp)); have S2 := HS.out _ F2.out; clear i2 f2)
    | (go_at_call 16; refine (same_self v1 v2 (missing s nums) _ I1'.out (by have := I2.out; rw [miss_eq] at this; exact this)).mono ?_; rintro e w3 ⟨rfl, f3⟩; have F3 := hid (F2.out.then f3); have S3 := HS.out _ F3.out; clear f3))
  all_goals go_wp2
  all_goals go_ret
  all_goals exact ⟨rfl, Z.out.p.fr F3.out (by simp) (by simp) (by simp) (by simp), (Z.out.f.then F3.out).mono (by simp)⟩

end
end Go.Proofs.Ytggkhgpdnjkfcaa
