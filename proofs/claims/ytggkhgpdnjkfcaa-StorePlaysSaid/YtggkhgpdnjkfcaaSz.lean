/-
  The printed functions of the reference, said with RefV; the walk of its Copy.
-/
import Derived.Test.YtggkhgpdnjkfcaaSy
namespace Go.Proofs.Ytggkhgpdnjkfcaa
open Go.RowKit Go.Maps Go.Proofs.Ytggkhgpdnjkfcaa.PStorePlays Go.Proofs.YtggkhgpdnjkfcaaW.PrintWords Go.Proofs.YtggkhgpdnjkfcaaW.PrintLast Go.Proofs.YtggkhgpdnjkfcaaW.PrintMore

theorem RefV.len {w : World} {A : Option Addr} {n c : Nat} {l : FL} (h : RefV w (.slice A n c) l) : n = (FS l).length ∧ n ≤ c ∧ Kd.C k64 w A (FS l).length (FS l) := Kd.R_reads' h
theorem rplace {w : World} {A : Option Addr} {n c : Nat} {l : FL} (h : RefV w (.slice A n c) l) (hl : l.length ≤ 4000) (g k : Int) :
    Calls Try.prog 46 #[.agg #[.slice A n c, .int .i64 g], .int .i64 k] w fun e w' => e = .returned (.tuple #[.int .i64 (pos l k), .bool (isAt l k)]) ∧ Fr [] w w' := by
  obtain ⟨rfl, h1, h2⟩ := h.len
  exact (cirrusref08_Store_place.calls 5000 A c (FS l) g k _ _ w h2 h1 (place_is l k g hl)).mono fun e w' h => ⟨h.1, Fr.of_below h.2⟩
theorem rhas {w : World} {A : Option Addr} {n c : Nat} {l : FL} (h : RefV w (.slice A n c) l) (hl : l.length ≤ 4000) (hr : Rise l) (g k : Int) :
    Calls Try.prog 47 #[.agg #[.slice A n c, .int .i64 g], .int .i64 k] w fun e w' => e = .returned (.bool (lget l k).isSome) ∧ Fr [] w w' := by
  obtain ⟨rfl, h1, h2⟩ := h.len
  exact (cirrusref08_Store_Has.calls 5000 A c (FS l) g k _ w h2 h1 (has_is l k g hl hr)).mono fun e w' h => ⟨h.1, Fr.of_below h.2⟩
theorem rwith {w : World} {A : Option Addr} {n c : Nat} {l : FL} (h : RefV w (.slice A n c) l) (hl : l.length ≤ 4000) (hr : Rise l) (g k : Int) (v : ByteArray) (hg : lget l k = none) :
    Calls Try.prog 45 #[.agg #[.slice A n c, .int .i64 g], .agg #[.int .i64 k, .string v]] w fun e w' => ∃ A' n' c', e = .returned (.agg #[.slice A' n' c', .int .i64 (max g k)]) ∧ RefV w' (.slice A' n' c') (lput l k v) ∧ Fr [] w w' := by
  obtain ⟨rfl, h1, h2⟩ := h.len
  refine (cirrusref08_Store_with.calls 5000 A c (FS l) g k v _ _ w h2 h1 (with_is l k g v hl hr hg)).mono fun e w' h => ?_
  obtain ⟨v0, rfl, hR, hB⟩ := h
  have hR1 := RefV.of_new hR
  obtain ⟨A1, c1, rfl, -, -⟩ := hR1.reads
  exact ⟨A1, _, c1, rfl, hR1, Fr.of_below hB⟩
theorem rget {w : World} {A : Option Addr} {n c : Nat} {s : St} (h : RefV w (.slice A n c) s.files) (ok : s.Ok) (g k : Int) :
    Calls Try.prog 34 #[.agg #[.slice A n c, .int .i64 g], .int .i64 k] w fun e w' => e = .returned (.tuple #[.string (s.getB k), .int .i64 (s.getE k)]) ∧ Fr [] w w' := by
  obtain ⟨rfl, h1, h2⟩ := h.len
  exact (cirrusref08_Store_Get.calls 5000 A c (FS s.files) g k _ _ w h2 h1 (get_is s ok k g)).mono fun e w' h => ⟨h.1, Fr.of_below h.2⟩
theorem rused {w : World} {A : Option Addr} {n c : Nat} {s : St} (h : RefV w (.slice A n c) s.files) (ok : s.Ok) (g : Int) :
    Calls Try.prog 35 #[.agg #[.slice A n c, .int .i64 g]] w fun e w' => e = .returned (.int .i64 s.used) ∧ Fr [] w w' := by
  obtain ⟨rfl, h1, h2⟩ := h.len
  exact (cirrusref08_Store_Used.calls 5000 A c (FS s.files) g _ w h2 h1 (used_is s ok g)).mono fun e w' h => ⟨h.1, Fr.of_below h.2⟩
theorem ints_of_R {w : World} {base : Nat} {v : Value} {xs : List Int} (h : Kd.R (Kd.int .i64) 3 w base (fun _ => True) v xs) : IntsR w v xs := by
  have h1 := Kd.own_of_R h
  obtain ⟨A, c, rfl, h2, h3⟩ := Kd.R_reads h
  exact IntsR.of_own (n := xs.length) h1 rfl (Kd.C_max h3)
theorem C_of_ints {w : World} {A : Option Addr} {n c : Nat} {xs : List Int} (h : IntsR w (.slice A n c) xs) : n = xs.length ∧ n ≤ c ∧ Kd.C (Kd.int .i64) w A xs.length xs := by
  obtain ⟨a, c', e, h1, h2, h3⟩ := h
  injection e with e1 e2 e3
  subst e1; subst e2; subst e3
  refine ⟨rfl, h2, Kd.C_of_reads (d := (0 : Int)) ⟨rfl, h1, fun h0 => ?_⟩⟩
  obtain ⟨b, off, rfl, hc⟩ := h3 h0
  refine ⟨_, rfl, fun j hj => ?_⟩
  have ha : (⟨b, off, none⟩ : Addr).add j = ⟨b, off + j, none⟩ := by unfold Addr.add; split <;> simp_all
  rw [ha]; exact hc j hj
theorem rfiles {w : World} {A : Option Addr} {n c : Nat} {s : St} (h : RefV w (.slice A n c) s.files) (ok : s.Ok) (g : Int) :
    Calls Try.prog 36 #[.agg #[.slice A n c, .int .i64 g]] w fun e w' => ∃ v, e = .returned v ∧ IntsR w' v s.nums ∧ Fr [] w w' := by
  obtain ⟨rfl, h1, h2⟩ := h.len
  refine (cirrusref08_Store_Files.calls 5000 A c (FS s.files) g _ w h2 h1 (files_is s ok g)).mono fun e w' h => ?_
  obtain ⟨v0, rfl, hR, hB⟩ := h
  exact ⟨v0, rfl, ints_of_R hR, Fr.of_below hB⟩
theorem rmiss {w : World} {A : Option Addr} {n c : Nat} {s : St} (h : RefV w (.slice A n c) s.files) (ok : s.Ok) (g : Int) {B : Option Addr} {m d : Nat} {zs : List Int} (hz : IntsR w (.slice B m d) zs) (hl : zs.length ≤ 1000) :
    Calls Try.prog 33 #[.agg #[.slice A n c, .int .i64 g], .slice B m d] w fun e w' => ∃ v, e = .returned v ∧ IntsR w' v (missFold s zs) ∧ Fr [] w w' := by
  obtain ⟨rfl, h1, h2⟩ := h.len
  obtain ⟨rfl, i1, i2⟩ := C_of_ints hz
  refine (cirrusref08_Store_Missing.calls 9000 A c (FS s.files) g B d zs _ w h2 h1 i2 i1 (miss_is s ok g zs hl)).mono fun e w' h => ?_
  obtain ⟨v0, rfl, hR, hB⟩ := h
  exact ⟨v0, rfl, ints_of_R hR, Fr.of_below hB⟩

theorem RefV.at {w : World} {A : Option Addr} {n c : Nat} {l : FL} (h : RefV w (.slice A n c) l) {i : Nat} {p : Int × ByteArray} (hp : l[i]? = some p) :
    ∃ g, A = some ⟨g, 0, none⟩ ∧ g < w.heap.size ∧ i < n ∧ w.cell? ⟨g, i * 2, none⟩ = some (.int .i64 p.1) ∧ w.cell? ⟨g, i * 2 + 1, none⟩ = some (.string p.2) := by
  obtain ⟨hi, -⟩ := List.getElem?_eq_some_iff.1 hp
  obtain ⟨e, h1, h2⟩ := h.len
  subst e
  obtain ⟨g, cap, e, -, hlt, -⟩ := Kd.R_form h (by rw [FS_len]; omega)
  injection e with e1 e2 e3
  subst e1; subst e3
  obtain ⟨ad, e, k1, k2⟩ := at_T64 h2 (i : Int) (by omega) (by rw [FS_len]; omega)
  cases e
  rw [rd_FS hp] at k1 k2
  have ha : ∀ j, (⟨g, 0, none⟩ : Addr).add j = ⟨g, j, none⟩ := fun j => by unfold Addr.add; split <;> simp_all
  simp only [ha, Int.toNat_natCast] at k1 k2
  exact ⟨g, rfl, hlt, by rw [FS_len]; omega, k1, k2⟩

set_option maxRecDepth 100000 in
set_option maxHeartbeats 1000000 in
theorem rcopy_any (rb : Nat) (s t : St) (A2 : Option Addr) (n2 c2 : Nat) (k : Int) (w : World) (h : RefAt w rb s) (ht : RefV w (.slice A2 n2 c2) t.files) (ok2 : t.Ok) :
    Calls Try.prog 31 #[.pointer (some ⟨rb, 0, none⟩), .agg #[.slice A2 n2 c2, .int .i64 t.most], .int .i64 k] w fun e w' => e = .returned (.int .i64 (s.copyE t k)) ∧ RefAt w' rb (s.copy t k) ∧ Fr [rb] w w' := by
  have HT : Hid (∀ w', Fr [] w w' → RefV w' (.slice A2 n2 c2) t.files) := fun w' hf => ht.fr hf (by simp)
  have H := hid h
  have HC : Hid (∃ A c, RefV w (.slice A (FS s.files).length c) s.files ∧ w.heap[rb]? = some (.cells #[.slice A (FS s.files).length c, .int .i64 s.most] 43 (0, 0))) := by
    obtain ⟨v, hb, hv⟩ := h.blk
    obtain ⟨A, c, rfl, -, -⟩ := hv.reads
    exact ⟨A, c, hv, hb⟩
  have OK2 := hid ok2
  clear ht ok2 h
  have HI := hid (isAt_lget t.files k OK2.out.rise)
  go_enter Try.func31, Try.ntmps31
  go_wp2_with fail
  refine (rplace (HT.out _ ((Fr.refl [] w).alloc _)) OK2.out.len _ _).mono ?_
  rintro e w1 ⟨rfl, f1⟩
  have F1 := hid (((Fr.refl [] w).alloc (.cells #[.slice A2 n2 c2, .int .i64 t.most] 43)).then f1)
  have b0 : w1.cell? ⟨w.heap.size, 0, none⟩ = some (.slice A2 n2 c2) := by rw [f1.cell (p := ⟨w.heap.size, 0, none⟩) (by simp) (by simp)]; simp
  clear f1
  cases hg : lget t.files k with
  | none =>
    have hi : isAt t.files k = false := by rw [HI.out, hg]; rfl
    rw [hi]
    have e1 : s.copyE t k = 6 ∧ s.copy t k = s := by simp [St.copyE, St.copy, hg]
    go_wp2
    go_ret
    rw [e1.1, e1.2]
    exact ⟨rfl, H.out.fr F1.out (by simp) (by simp), F1.out.mono (by simp)⟩
  | some v =>
    have hi : isAt t.files k = true := by rw [HI.out, hg]; rfl
    rw [hi]
    obtain ⟨A, c, hv, hb⟩ := HC.out
    have c0 : w1.cell? ⟨rb, 0, none⟩ = some (.slice A (FS s.files).length c) := (F1.out.cell (p := ⟨rb, 0, none⟩) H.out.lt (by simp)).trans (cell_of_row w rb 0 _ _ _ hb)
    have c1 : w1.cell? ⟨rb, 1, none⟩ = some (.int .i64 s.most) := (F1.out.cell (p := ⟨rb, 1, none⟩) H.out.lt (by simp)).trans (cell_of_row w rb 1 _ _ _ hb)
    have HV : Hid (∀ w', Fr [] w w' → RefV w' (.slice A (FS s.files).length c) s.files) := fun w' hf => hv.fr hf (by simp)
    have HB := hid hb
    clear hv hb
    go_wp2_with fail
    refine (rhas (HV.out _ F1.out) H.out.ok.len H.out.ok.rise _ _).mono ?_
    rintro e w2 ⟨rfl, f2⟩
    have F2 := hid (F1.out.then f2)
    have b02 := (f2.cell (p := ⟨w.heap.size, 0, none⟩) (World.block_lt_of_cell? _ _ b0) (by simp)).trans b0
    clear b0 c0 c1
    cases hs : (lget s.files k).isSome with
    | true =>
      have e1 : s.copyE t k = 5 ∧ s.copy t k = s := by simp [St.copyE, St.copy, hg, hs]
      go_wp2
      go_ret
      rw [e1.1, e1.2]
      exact ⟨rfl, H.out.fr F2.out (by simp) (by simp), F2.out.mono (by simp)⟩
    | false =>
      have e1 : s.copyE t k = 0 ∧ s.copy t k = ⟨lput s.files k v, max s.most k⟩ := by simp [St.copyE, St.copy, hg, hs]
      have ok3 := H.out.ok.copy OK2.out k
      rw [e1.2] at ok3
      have hn : lget s.files k = none := by simpa using hs
      obtain ⟨g, rfl, hgl, hpi, p1, p2⟩ := (HT.out w2 F2.out).at (pos_at OK2.out.rise hg)
      have c0 : w2.cell? ⟨rb, 0, none⟩ = some (.slice A (FS s.files).length c) := (F2.out.cell (p := ⟨rb, 0, none⟩) H.out.lt (by simp)).trans (cell_of_row w rb 0 _ _ _ HB.out)
      have c1 : w2.cell? ⟨rb, 1, none⟩ = some (.int .i64 s.most) := (F2.out.cell (p := ⟨rb, 1, none⟩) H.out.lt (by simp)).trans (cell_of_row w rb 1 _ _ _ HB.out)
      have m0 : (0 : Int) ≤ (pos t.files k : Int) := by omega
      have m1 : (pos t.files k : Int) < (n2 : Int) := by omega
      go_wp2_with fail
      go_region_with (go_at_call 45; refine (rwith (HV.out _ F2.out.drew) H.out.ok.len H.out.ok.rise s.most k v hn).mono ?_; rintro e w3 ⟨A3, n3, c3, rfl, hv3, f3⟩; have F3 := hid (F2.out.drew.then f3); have V3 := hid hv3; have k0 : w3.cell? ⟨rb, 0, none⟩ = some (.slice A (FS s.files).length c) := (F3.out.cell (p := ⟨rb, 0, none⟩) H.out.lt (by simp)).trans (cell_of_row w rb 0 _ _ _ HB.out); have k1 : w3.cell? ⟨rb, 1, none⟩ = some (.int .i64 s.most) := (F3.out.cell (p := ⟨rb, 1, none⟩) H.out.lt (by simp)).trans (cell_of_row w rb 1 _ _ _ HB.out); have kf : ∀ i, w3.frozen? ⟨rb, i, none⟩ = false := (fun i => by simp [World.frozen?, F3.out.block rb H.out.lt (by simp), HB.out]); clear f3 hv3)
      all_goals go_wp2
      all_goals go_ret
      all_goals rw [e1.1, e1.2]
      all_goals exact ⟨rfl, (H.out.fr F3.out (by simp) (by simp)).put (s' := ⟨lput s.files k v, max s.most k⟩) V3.out ok3, ((F3.out.mono (by simp)).setCell (.inl (by simp)) _).setCell (.inl (by simp)) _⟩

end Go.Proofs.Ytggkhgpdnjkfcaa
