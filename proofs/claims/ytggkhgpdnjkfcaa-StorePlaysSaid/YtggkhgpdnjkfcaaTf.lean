/-
  The walk of done: put, drop, copy, own, damage, many.
-/
import Derived.Test.YtggkhgpdnjkfcaaTe
namespace Go.Proofs.Ytggkhgpdnjkfcaa
open Go.RowKit Go.Maps Go.Proofs.Ytggkhgpdnjkfcaa.PStorePlays Go.Proofs.YtggkhgpdnjkfcaaW.PrintWords Go.Proofs.YtggkhgpdnjkfcaaW.PrintLast Go.Proofs.YtggkhgpdnjkfcaaW.PrintMore

section
variable {op bytes : ByteArray} {sec : Bool} {file at_ by_ : Int} {la A2 : Option Addr} {ln lc n2 c2 b mb b2 mb2 rb : Nat} {w : World} {s t : St}

set_option maxRecDepth 100000 in
set_option maxHeartbeats 2000000 in
theorem done_copy (g0 : (op.toList == [112, 117, 116]) = false) (g1 : (op.toList == [108, 97, 114, 103, 101]) = false) (g2 : (op.toList == [109, 97, 110, 121]) = false) (g3 : (op.toList == [100, 114, 111, 112]) = false) (g4 : (op.toList == [99, 111, 112, 121]) = true) (hk : (Lit.int .i64 file).wf = true) (h2 : StoreAt w b2 mb2 t) (hv : RefV w (.slice A2 n2 c2) t.files) (h : Pair w b mb rb s) :
    Calls Try.prog 18 #[.agg #[.string op, .bool sec, .string bytes, .int .i64 file, .int .i64 at_, .int .i64 by_, .slice la ln lc], .pointer (some ⟨b, 0, none⟩), .pointer (some ⟨b2, 0, none⟩), .pointer (some ⟨rb, 0, none⟩), .agg #[.slice A2 n2 c2, .int .i64 t.most]] w (DoneSays w b mb rb (s.copy t file)) := by
  have Z := hid (at0 (op := op) (bytes := bytes) (sec := sec) (file := file) (at_ := at_) (by_ := by_) (la := la) (A2 := A2) (ln := ln) (lc := lc) (n2 := n2) (c2 := c2) (t := t) h)
  have HK := hid hk
  clear hk
  have HT : Hid (∀ w', Fr [] w w' → StoreAt w' b2 mb2 t) := fun w' f => h2.fr f (by simp) (by simp)
  have HR : Hid (∀ w', Fr [b, mb] w w' → RefV w' (.slice A2 n2 c2) t.files) := fun w' f => hv.fr f (fun k hk => by obtain ⟨k1, k2⟩ := h.st.no64; simp at hk; rcases hk with rfl | rfl <;> assumption)
  have HO := hid h2.ok
  clear h2 hv
  clear h
  go_enter Try.func18, Try.ntmps18
  go_wp2_with fail
  generalize ((w.alloc (.cells #[.string op, .bool sec, .string bytes, .int .i64 file, .int .i64 at_, .int .i64 by_, .slice la ln lc] 34)).alloc (.cells #[.slice A2 n2 c2, .int .i64 t.most] 43)) = w0 at Z ⊢
  have HS : Hid (∀ w', Fr [b, mb, rb] w0 w' → (fun w' => w'.cell? ⟨w.heap.size, 3, none⟩ = some (.int .i64 file) ∧ w'.cell? ⟨w.heap.size + 1, 0, none⟩ = some (.slice A2 n2 c2) ∧ w'.cell? ⟨w.heap.size + 1, 1, none⟩ = some (.int .i64 t.most)) w') := fun w' f => by
    obtain ⟨z2, z3, z4, z5, z6⟩ := Z.out.c w' f
    obtain ⟨k0, k1⟩ := Z.out.q w' f
    exact ⟨z3, k0, k1⟩
  have S0 : (fun w' => w'.cell? ⟨w.heap.size, 3, none⟩ = some (.int .i64 file) ∧ w'.cell? ⟨w.heap.size + 1, 0, none⟩ = some (.slice A2 n2 c2) ∧ w'.cell? ⟨w.heap.size + 1, 1, none⟩ = some (.int .i64 t.most)) w0.drew := HS.out _ (Fr.refl [b, mb, rb] w0).drew
  have FD := hid (Fr.refl [b, mb] w0).drew
  go_region_held3 (fun w' => w'.cell? ⟨w.heap.size, 3, none⟩ = some (.int .i64 file) ∧ w'.cell? ⟨w.heap.size + 1, 0, none⟩ = some (.slice A2 n2 c2) ∧ w'.cell? ⟨w.heap.size + 1, 1, none⟩ = some (.int .i64 t.most)) (first | assumption | trivial) (first
    | (go_at_call 15; refine (copy_any b mb s b2 mb2 t file HK.out _ (Z.out.p.st.fr (Fr.refl [] w0).drew (by simp) (by simp)) (HT.out _ (Z.out.f.drew))).mono ?_; rintro e w1 ⟨rfl, p1, f1⟩; have P1 := hid (And.intro p1 (FD.out.then f1)); have S1 := HS.out _ P1.out.2.up; clear p1 f1)
    | (go_at_call 31; refine (rcopy_any rb s t A2 n2 c2 file _ (Z.out.p.mid P1.out.2) (HR.out _ ((Z.out.f.mono (by simp)).then P1.out.2)) HO.out).mono ?_; rintro e w2 ⟨rfl, p2, f2⟩; have P2 := hid (And.intro p2 f2); have S2 := HS.out _ (Fr.two P1.out.2 P2.out.2); clear p2 f2))
  all_goals go_wp2
  all_goals go_ret
  all_goals exact ⟨rfl, Z.out.p.next P1.out.1 P2.out.1 P2.out.2, (Z.out.f.mono (by simp)).trans (Fr.two P1.out.2 P2.out.2) (fun x hx => .inl hx)⟩

set_option maxRecDepth 100000 in
set_option maxHeartbeats 2000000 in
theorem done_own (g0 : (op.toList == [112, 117, 116]) = false) (g1 : (op.toList == [108, 97, 114, 103, 101]) = false) (g2 : (op.toList == [109, 97, 110, 121]) = false) (g3 : (op.toList == [100, 114, 111, 112]) = false) (g4 : (op.toList == [99, 111, 112, 121]) = false) (g5 : (op.toList == [111, 119, 110]) = true) (hk : (Lit.int .i64 file).wf = true) (h : Pair w b mb rb s) :
    Calls Try.prog 18 #[.agg #[.string op, .bool sec, .string bytes, .int .i64 file, .int .i64 at_, .int .i64 by_, .slice la ln lc], .pointer (some ⟨b, 0, none⟩), .pointer (some ⟨b2, 0, none⟩), .pointer (some ⟨rb, 0, none⟩), .agg #[.slice A2 n2 c2, .int .i64 t.most]] w (DoneSays w b mb rb (s.copy s file)) := by
  have Z := hid (at0 (op := op) (bytes := bytes) (sec := sec) (file := file) (at_ := at_) (by_ := by_) (la := la) (A2 := A2) (ln := ln) (lc := lc) (n2 := n2) (c2 := c2) (t := t) h)
  have HK := hid hk
  clear hk
  clear h
  go_enter Try.func18, Try.ntmps18
  go_wp2_with fail
  generalize ((w.alloc (.cells #[.string op, .bool sec, .string bytes, .int .i64 file, .int .i64 at_, .int .i64 by_, .slice la ln lc] 34)).alloc (.cells #[.slice A2 n2 c2, .int .i64 t.most] 43)) = w0 at Z ⊢
  obtain ⟨vv, hb, hv⟩ := Z.out.p.rf.blk
  obtain ⟨A, c, rfl, -, -⟩ := hv.reads
  have HN := hid (Z.out.p.rf.ne Z.out.p.st)
  have HRB : Hid (∀ w', Fr [b, mb] w0 w' → w'.cell? ⟨rb, 0, none⟩ = some (.slice A (FS s.files).length c) ∧ w'.cell? ⟨rb, 1, none⟩ = some (.int .i64 s.most) ∧ RefV w' (.slice A (FS s.files).length c) s.files) := fun w' f => by
    have hn := HN.out
    have e := (f.block rb Z.out.p.rf.lt (by simp; omega)).trans hb
    exact ⟨cell_of_row w' _ 0 _ _ _ e, cell_of_row w' _ 1 _ _ _ e, hv.fr f (fun k hk => by obtain ⟨k1, k2⟩ := Z.out.p.st.no64; simp at hk; rcases hk with rfl | rfl <;> assumption)⟩
  clear hb hv
  obtain ⟨z2, z3, z4, z5, z6⟩ := Z.out.c _ (Fr.refl _ _)
  obtain ⟨r0, r1, -⟩ := HRB.out _ (Fr.refl _ _)
  go_region_with (first
    | (go_at_call 15; refine (copy_any b mb s b mb s file HK.out _ (Z.out.p.st.fr (Fr.refl [] w0).drew (by simp) (by simp)) (Z.out.p.st.fr (Fr.refl [] w0).drew (by simp) (by simp))).mono ?_; rintro e w1 ⟨rfl, p1, f1⟩; have P1 := hid (And.intro p1 (((Fr.refl [b, mb] w0).drew).then f1)); obtain ⟨y2, y3, y4, y5, y6⟩ := Z.out.c _ P1.out.2.up; obtain ⟨y9, y10, -⟩ := HRB.out _ P1.out.2; clear p1 f1)
    | (go_at_call 31; refine (rcopy_any rb s s A (FS s.files).length c file _ (Z.out.p.mid P1.out.2) (HRB.out _ P1.out.2).2.2 Z.out.p.st.ok).mono ?_; rintro e w2 ⟨rfl, p2, f2⟩; have P2 := hid (And.intro p2 f2); clear p2 f2))
  all_goals go_wp2
  all_goals go_ret
  all_goals exact ⟨rfl, Z.out.p.next P1.out.1 P2.out.1 P2.out.2, (Z.out.f.mono (by simp)).trans (Fr.two P1.out.2 P2.out.2) (fun x hx => .inl hx)⟩

set_option maxRecDepth 100000 in
set_option maxHeartbeats 2000000 in
theorem done_get (g0 : (op.toList == [112, 117, 116]) = false) (g1 : (op.toList == [108, 97, 114, 103, 101]) = false) (g2 : (op.toList == [109, 97, 110, 121]) = false) (g3 : (op.toList == [100, 114, 111, 112]) = false) (g4 : (op.toList == [99, 111, 112, 121]) = false) (g5 : (op.toList == [111, 119, 110]) = false) (g6 : (op.toList == [100, 97, 109, 97, 103, 101]) = false) (g7 : (op.toList == [109, 105, 115, 115, 105, 110, 103]) = false) (hk : (Lit.int .i64 file).wf = true) (h : Pair w b mb rb s) :
    Calls Try.prog 18 #[.agg #[.string op, .bool sec, .string bytes, .int .i64 file, .int .i64 at_, .int .i64 by_, .slice la ln lc], .pointer (some ⟨b, 0, none⟩), .pointer (some ⟨b2, 0, none⟩), .pointer (some ⟨rb, 0, none⟩), .agg #[.slice A2 n2 c2, .int .i64 t.most]] w (DoneSays w b mb rb s) := by
  have Z := hid (at0 (op := op) (bytes := bytes) (sec := sec) (file := file) (at_ := at_) (by_ := by_) (la := la) (A2 := A2) (ln := ln) (lc := lc) (n2 := n2) (c2 := c2) (t := t) h)
  have HK := hid hk
  clear hk
  clear h
  go_enter Try.func18, Try.ntmps18
  go_wp2_with fail
  generalize ((w.alloc (.cells #[.string op, .bool sec, .string bytes, .int .i64 file, .int .i64 at_, .int .i64 by_, .slice la ln lc] 34)).alloc (.cells #[.slice A2 n2 c2, .int .i64 t.most] 43)) = w0 at Z ⊢
  obtain ⟨vv, hb, hv⟩ := Z.out.p.rf.blk
  obtain ⟨A, c, rfl, -, -⟩ := hv.reads
  have HN := hid (Z.out.p.rf.ne Z.out.p.st)
  have HRB : Hid (∀ w', Fr [b, mb] w0 w' → w'.cell? ⟨rb, 0, none⟩ = some (.slice A (FS s.files).length c) ∧ w'.cell? ⟨rb, 1, none⟩ = some (.int .i64 s.most) ∧ RefV w' (.slice A (FS s.files).length c) s.files) := fun w' f => by
    have hn := HN.out
    have e := (f.block rb Z.out.p.rf.lt (by simp; omega)).trans hb
    exact ⟨cell_of_row w' _ 0 _ _ _ e, cell_of_row w' _ 1 _ _ _ e, hv.fr f (fun k hk => by obtain ⟨k1, k2⟩ := Z.out.p.st.no64; simp at hk; rcases hk with rfl | rfl <;> assumption)⟩
  clear hb hv
  refine (get_any b mb s file HK.out _ Z.out.p.st).mono ?_
  rintro e w' ⟨rfl, rfl⟩
  go_wp2_with fail
  obtain ⟨z2, z3, z4, z5, z6⟩ := Z.out.c _ (Fr.refl _ _)
  obtain ⟨r0, r1, -⟩ := HRB.out _ (Fr.refl _ _)
  go_region_with (first
    | (go_at_call 34; refine (rget (HRB.out _ ((Fr.refl [b, mb] w0).drew)).2.2 Z.out.p.st.ok s.most file).mono ?_; rintro e w2 ⟨rfl, f2⟩; have P2 := hid f2; clear f2))
  all_goals go_wp2
  all_goals go_ret
  all_goals exact ⟨rfl, Z.out.p.fr ((Fr.refl [] w0).drew.then P2.out) (by simp) (by simp) (by simp) (by simp), ((Z.out.f.drew).then P2.out).mono (by simp)⟩

end
end Go.Proofs.Ytggkhgpdnjkfcaa
