/-
  The walk of the reference's Damage.
-/
import Derived.Test.YtggkhgpdnjkfcaaTa
namespace Go.Proofs.Ytggkhgpdnjkfcaa
open Go.RowKit Go.Maps Go.Proofs.Ytggkhgpdnjkfcaa.PStorePlays Go.Proofs.YtggkhgpdnjkfcaaW.PrintWords Go.Proofs.YtggkhgpdnjkfcaaW.PrintLast Go.Proofs.YtggkhgpdnjkfcaaW.PrintMore

theorem RefV.setB {W : World} {g n c : Nat} {l : FL} (h : RefV W (.slice (some ⟨g, 0, none⟩) n c) l) {i : Nat} {p : Int × ByteArray} (hp : l[i]? = some p) (u : ByteArray) :
    W.cell? ⟨g, i * 2 + 1, none⟩ = some (.string p.2) ∧ W.frozen? ⟨g, i * 2 + 1, none⟩ = false ∧ RefV (W.setCell ⟨g, i * 2 + 1, none⟩ (.string u)) (.slice (some ⟨g, 0, none⟩) n c) (l.set i (p.1, u)) := by
  obtain ⟨g', hA, -, hin, k1, k2⟩ := h.at hp
  cases hA
  obtain ⟨cc, hcl, hM, hcc, hfz⟩ := Kd.R_elem h z64 (i : Int) (by omega) (by omega)
  have hFS : (FS l).getD i z64 = toS p := by unfold FS; simp [List.getD_eq_getElem?_getD, hp]
  simp only [Int.toNat_natCast] at hM hcc hfz
  rw [hFS] at hM
  have hM := k64_openM hM
  subst hM
  have := (Kd.R_seg h (i : Int) (by omega) (by omega) (seg := [.string u]) (j := 1) (okp := fun k => True ∧ k ≠ g) hcl (by simp only [Int.toNat_natCast]; exact hcc) (by show 1 + 1 ≤ 2; omega) (x' := toS (p.1, u)) (k64_mkM _ _ _ _) (fun _ hk => hk)).1
  simp only [Int.toNat_natCast] at this
  refine ⟨k2, hfz 1, ?_⟩
  have e : (FS l).set i (toS (p.1, u)) = FS (l.set i (p.1, u)) := by unfold FS; rw [List.map_set]
  rw [e] at this
  exact this
/-- What the reference's Damage finds. -/
theorem rdmg_none (rb : Nat) (s : St) (k x y : Int) (w : World) (h : RefAt w rb s) (hg : lget s.files k = none) :
    Calls Try.prog 32 #[.pointer (some ⟨rb, 0, none⟩), .int .i64 k, .int .i64 x, .int .i64 y] w fun e w' => e = .returned (.int .i64 6) ∧ Fr [] w w' := by
  have H := hid h
  obtain ⟨v0, hb, hv⟩ := h.blk
  obtain ⟨A, c, rfl, hlc, -⟩ := hv.reads
  have c0 : w.cell? ⟨rb, 0, none⟩ = some (.slice A (FS s.files).length c) := cell_of_row w rb 0 _ _ _ hb
  have c1 : w.cell? ⟨rb, 1, none⟩ = some (.int .i64 s.most) := cell_of_row w rb 1 _ _ _ hb
  have hi : isAt s.files k = false := by rw [isAt_lget s.files k h.ok.rise, hg]; rfl
  have HV := hid hv
  clear h hb hv
  go_enter Try.func32, Try.ntmps32
  go_wp2_with fail
  refine (rplace HV.out H.out.ok.len _ _).mono ?_
  rintro e w1 ⟨rfl, f1⟩
  rw [hi]
  go_wp2
  go_ret
  exact ⟨rfl, f1⟩
set_option maxRecDepth 100000 in
theorem rdmg_arg (rb : Nat) (s : St) (k x y : Int) (w : World) (h : RefAt w rb s) (v : ByteArray) (hg : lget s.files k = some v) (ha : dmgArg v x y = true) :
    Calls Try.prog 32 #[.pointer (some ⟨rb, 0, none⟩), .int .i64 k, .int .i64 x, .int .i64 y] w fun e w' => e = .returned (.int .i64 3) ∧ Fr [] w w' := by
  have H := hid h
  obtain ⟨v0, hb, hv⟩ := h.blk
  obtain ⟨A, c, rfl, hlc, -⟩ := hv.reads
  have c0 : w.cell? ⟨rb, 0, none⟩ = some (.slice A (FS s.files).length c) := cell_of_row w rb 0 _ _ _ hb
  have c1 : w.cell? ⟨rb, 1, none⟩ = some (.int .i64 s.most) := cell_of_row w rb 1 _ _ _ hb
  have hi : isAt s.files k = true := by rw [isAt_lget s.files k h.ok.rise, hg]; rfl
  have hvs : v.size ≤ 8388608 := h.ok.sizes _ (lget_mem hg)
  have hp := pos_at h.ok.rise hg
  have HV := hid hv
  have HB := hid hb
  simp only [dmgArg, Bool.or_eq_true, decide_eq_true_eq] at ha
  have ha' : x < 0 ∨ (0 ≤ x ∧ (v.size : Int) ≤ x) ∨ (0 ≤ x ∧ x < (v.size : Int) ∧ y < 1) ∨ (0 ≤ x ∧ x < (v.size : Int) ∧ 1 ≤ y ∧ 255 < y) := by omega
  clear h hb hv ha hlc hg
  have HP : Hid (∀ w1, Fr [] w w1 → ∃ g, A = some ⟨g, 0, none⟩ ∧ pos s.files k < (FS s.files).length ∧ w1.cell? ⟨g, pos s.files k * 2 + 1, none⟩ = some (.string v) ∧ w1.cell? ⟨rb, 0, none⟩ = some (.slice A (FS s.files).length c)) := fun w1 f1 => by
    obtain ⟨g, e, _, h2, _, h4⟩ := (HV.out.fr f1 (by simp)).at hp
    exact ⟨g, e, h2, h4, (f1.cell (p := ⟨rb, 0, none⟩) H.out.lt (by simp)).trans (cell_of_row w rb 0 _ _ _ HB.out)⟩
  clear hp
  rcases ha' with ha | ⟨h1, h2⟩ | ⟨h1, h2, h3⟩ | ⟨h1, h2, h3, h4⟩
  all_goals
    go_enter Try.func32, Try.ntmps32
    go_wp2_with fail
    refine (rplace HV.out H.out.ok.len _ _).mono ?_
    rintro e w1 ⟨rfl, f1⟩
    rw [hi]
    clear c0 c1
    obtain ⟨g, rfl, hpl, p1, c0⟩ := HP.out w1 f1
    have hm0 : (0 : Int) ≤ (pos s.files k : Int) := by omega
    have hm1 : (pos s.files k : Int) < ((FS s.files).length : Int) := by omega
    go_wp2
    go_ret
    exact ⟨rfl, f1⟩

end Go.Proofs.Ytggkhgpdnjkfcaa
