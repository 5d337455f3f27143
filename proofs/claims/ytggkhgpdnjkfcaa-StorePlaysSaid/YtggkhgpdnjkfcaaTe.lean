/-
  The walk of done: put, drop, copy, own, damage, many.
-/
import Derived.Test.YtggkhgpdnjkfcaaTd
import Derived.Test.YtggkhgpdnjkfcaaSi
import Derived.Deep.RegionHeld3
namespace Go.Proofs.Ytggkhgpdnjkfcaa
open Go.RowKit Go.Maps Go.Proofs.Ytggkhgpdnjkfcaa.PStorePlays Go.Proofs.YtggkhgpdnjkfcaaW.PrintWords Go.Proofs.YtggkhgpdnjkfcaaW.PrintLast Go.Proofs.YtggkhgpdnjkfcaaW.PrintMore

/-- Both kinds hold the same store. -/
structure Pair (w : World) (b mb rb : Nat) (s : St) : Prop where
  st : StoreAt w b mb s
  rf : RefAt w rb s
theorem Pair.next {w w1 w2 : World} {b mb rb : Nat} {s s1 : St} (h : Pair w b mb rb s) (h1 : StoreAt w1 b mb s1) (h2 : RefAt w2 rb s1) (f2 : Fr [rb] w1 w2) : Pair w2 b mb rb s1 := by
  obtain ⟨n1, n2⟩ := h.rf.ne h.st
  exact ⟨h1.fr f2 (by simp; omega) (by simp; omega), h2⟩
theorem Pair.mid {w w1 : World} {b mb rb : Nat} {s : St} (h : Pair w b mb rb s) (f1 : Fr [b, mb] w w1) : RefAt w1 rb s := by
  obtain ⟨n1, n2⟩ := h.rf.ne h.st
  obtain ⟨k1, k2⟩ := h.st.no64
  refine h.rf.fr f1 (by simp; omega) ?_
  intro k hk; simp at hk; rcases hk with rfl | rfl <;> assumption
theorem Pair.fr {S : List Nat} {w w1 : World} {b mb rb : Nat} {s : St} (h : Pair w b mb rb s) (f : Fr S w w1) (h1 : b ∉ S) (h2 : mb ∉ S) (h3 : rb ∉ S) (hS : ∀ k ∈ S, No64 w k) : Pair w1 b mb rb s :=
  ⟨h.st.fr f h1 h2, h.rf.fr f h3 hS⟩
theorem Fr.two {b mb rb : Nat} {w w1 w2 : World} (f1 : Fr [b, mb] w w1) (f2 : Fr [rb] w1 w2) : Fr [b, mb, rb] w w2 :=
  (f1.mono (fun x hx => .inl (by simp at hx ⊢; omega))).trans f2 (fun x hx => .inl (by simp at hx ⊢; omega))
theorem Fr.up {b mb rb : Nat} {w w1 : World} (f : Fr [b, mb] w w1) : Fr [b, mb, rb] w w1 := f.mono (fun x hx => .inl (by simp at hx ⊢; omega))
def DoneSays (w : World) (b mb rb : Nat) (s : St) (e : Ending) (w' : World) : Prop := e = .returned (.bool true) ∧ Pair w' b mb rb s ∧ Fr [b, mb, rb] w w'

section
variable {op bytes : ByteArray} {sec : Bool} {file at_ by_ : Int} {la A2 : Option Addr} {ln lc n2 c2 b mb b2 mb2 rb : Nat} {w : World} {s t : St}

structure At0 (op bytes : ByteArray) (sec : Bool) (file at_ by_ : Int) (la A2 : Option Addr) (ln lc n2 c2 b mb rb : Nat) (s t : St) (w w0 : World) : Prop where
  p : Pair w0 b mb rb s
  f : Fr [] w w0
  c : ∀ w', Fr [b, mb, rb] w0 w' → w'.cell? ⟨w.heap.size, 2, none⟩ = some (.string bytes) ∧ w'.cell? ⟨w.heap.size, 3, none⟩ = some (.int .i64 file) ∧ w'.cell? ⟨w.heap.size, 4, none⟩ = some (.int .i64 at_) ∧ w'.cell? ⟨w.heap.size, 5, none⟩ = some (.int .i64 by_) ∧ w'.cell? ⟨w.heap.size, 6, none⟩ = some (.slice la ln lc)
  q : ∀ w', Fr [b, mb, rb] w0 w' → w'.cell? ⟨w.heap.size + 1, 0, none⟩ = some (.slice A2 n2 c2) ∧ w'.cell? ⟨w.heap.size + 1, 1, none⟩ = some (.int .i64 t.most)
theorem at0 (h : Pair w b mb rb s) : At0 op bytes sec file at_ by_ la A2 ln lc n2 c2 b mb rb s t w ((w.alloc (.cells #[.string op, .bool sec, .string bytes, .int .i64 file, .int .i64 at_, .int .i64 by_, .slice la ln lc] 34)).alloc (.cells #[.slice A2 n2 c2, .int .i64 t.most] 43)) := by
  have k1 : ((w.alloc (.cells #[.string op, .bool sec, .string bytes, .int .i64 file, .int .i64 at_, .int .i64 by_, .slice la ln lc] 34)).alloc (.cells #[.slice A2 n2 c2, .int .i64 t.most] 43)).heap[w.heap.size]? = some (.cells #[.string op, .bool sec, .string bytes, .int .i64 file, .int .i64 at_, .int .i64 by_, .slice la ln lc] 34 (0, 0)) :=
    (Below.heap_alloc _ _ _ (by simp)).trans (heap_alloc_new w _)
  have k2 : ((w.alloc (.cells #[.string op, .bool sec, .string bytes, .int .i64 file, .int .i64 at_, .int .i64 by_, .slice la ln lc] 34)).alloc (.cells #[.slice A2 n2 c2, .int .i64 t.most] 43)).heap[w.heap.size + 1]? = some (.cells #[.slice A2 n2 c2, .int .i64 t.most] 43 (0, 0)) := by
    have := heap_alloc_new (w.alloc (.cells #[.string op, .bool sec, .string bytes, .int .i64 file, .int .i64 at_, .int .i64 by_, .slice la ln lc] 34)) (.cells #[.slice A2 n2 c2, .int .i64 t.most] 43)
    simpa using this
  have l1 := h.st.lt
  have l2 := h.st.map.lt
  have l3 := h.rf.lt
  refine ⟨h.fr (((Fr.refl [] w).alloc _).alloc _) (by simp) (by simp) (by simp) (by simp), ((Fr.refl [] w).alloc _).alloc _, fun w' f => ?_, fun w' f => ?_⟩
  · have := (f.block _ (Array.getElem?_eq_some_iff.1 k1).1 (by simp; omega)).trans k1
    exact ⟨cell_of_row w' _ 2 _ _ _ this, cell_of_row w' _ 3 _ _ _ this, cell_of_row w' _ 4 _ _ _ this, cell_of_row w' _ 5 _ _ _ this, cell_of_row w' _ 6 _ _ _ this⟩
  · have := (f.block _ (Array.getElem?_eq_some_iff.1 k2).1 (by simp; omega)).trans k2
    exact ⟨cell_of_row w' _ 0 _ _ _ this, cell_of_row w' _ 1 _ _ _ this⟩

set_option maxRecDepth 100000 in
set_option maxHeartbeats 2000000 in
theorem done_put (g0 : (op.toList == [112, 117, 116]) = true) (g1 : (op.toList == [108, 97, 114, 103, 101]) = false) (hx : bytes.size ≤ maxLen) (h : Pair w b mb rb s) :
    Calls Try.prog 18 #[.agg #[.string op, .bool sec, .string bytes, .int .i64 file, .int .i64 at_, .int .i64 by_, .slice la ln lc], .pointer (some ⟨b, 0, none⟩), .pointer (some ⟨b2, 0, none⟩), .pointer (some ⟨rb, 0, none⟩), .agg #[.slice A2 n2 c2, .int .i64 t.most]] w (DoneSays w b mb rb (s.put bytes)) := by
  have Z := hid (at0 (op := op) (bytes := bytes) (sec := sec) (file := file) (at_ := at_) (by_ := by_) (la := la) (A2 := A2) (ln := ln) (lc := lc) (n2 := n2) (c2 := c2) (t := t) h)
  have HX := hid hx
  clear hx
  clear h
  go_enter Try.func18, Try.ntmps18
  go_wp2_with fail
  generalize ((w.alloc (.cells #[.string op, .bool sec, .string bytes, .int .i64 file, .int .i64 at_, .int .i64 by_, .slice la ln lc] 34)).alloc (.cells #[.slice A2 n2 c2, .int .i64 t.most] 43)) = w0 at Z ⊢
  refine (put_any b mb s bytes _ Z.out.p.st HX.out).mono ?_
  rintro e w1 ⟨rfl, p1, f1⟩
  have P1 := hid (And.intro p1 f1)
  clear p1 f1
  go_wp2_with fail
  refine (rput_any rb s bytes _ (Z.out.p.mid P1.out.2) HX.out).mono ?_
  rintro e w2 ⟨rfl, p2, f2⟩
  have P2 := hid (And.intro p2 f2)
  clear p2 f2
  go_wp2
  go_ret
  exact ⟨rfl, Z.out.p.next P1.out.1 P2.out.1 P2.out.2, (Z.out.f.mono (by simp)).trans (Fr.two P1.out.2 P2.out.2) (fun x hx => .inl hx)⟩

set_option maxRecDepth 100000 in
set_option maxHeartbeats 2000000 in
theorem done_drop (g0 : (op.toList == [112, 117, 116]) = false) (g1 : (op.toList == [108, 97, 114, 103, 101]) = false) (g2 : (op.toList == [109, 97, 110, 121]) = false) (g3 : (op.toList == [100, 114, 111, 112]) = true) (hk : (Lit.int .i64 file).wf = true) (h : Pair w b mb rb s) :
    Calls Try.prog 18 #[.agg #[.string op, .bool sec, .string bytes, .int .i64 file, .int .i64 at_, .int .i64 by_, .slice la ln lc], .pointer (some ⟨b, 0, none⟩), .pointer (some ⟨b2, 0, none⟩), .pointer (some ⟨rb, 0, none⟩), .agg #[.slice A2 n2 c2, .int .i64 t.most]] w (DoneSays w b mb rb (s.drop file)) := by
  have Z := hid (at0 (op := op) (bytes := bytes) (sec := sec) (file := file) (at_ := at_) (by_ := by_) (la := la) (A2 := A2) (ln := ln) (lc := lc) (n2 := n2) (c2 := c2) (t := t) h)
  have HK := hid hk
  clear hk
  clear h
  go_enter Try.func18, Try.ntmps18
  go_wp2_with fail
  generalize ((w.alloc (.cells #[.string op, .bool sec, .string bytes, .int .i64 file, .int .i64 at_, .int .i64 by_, .slice la ln lc] 34)).alloc (.cells #[.slice A2 n2 c2, .int .i64 t.most] 43)) = w0 at Z ⊢
  have HS : Hid (∀ w', Fr [b, mb, rb] w0 w' → (fun w' => w'.cell? ⟨w.heap.size, 3, none⟩ = some (.int .i64 file) ∧ True) w') := fun w' f => by
    obtain ⟨z2, z3, z4, z5, z6⟩ := Z.out.c w' f
    obtain ⟨k0, k1⟩ := Z.out.q w' f
    exact ⟨z3, trivial⟩
  have S0 : (fun w' => w'.cell? ⟨w.heap.size, 3, none⟩ = some (.int .i64 file) ∧ True) w0.drew := HS.out _ (Fr.refl [b, mb, rb] w0).drew
  have FD := hid (Fr.refl [b, mb] w0).drew
  go_region_held3 (fun w' => w'.cell? ⟨w.heap.size, 3, none⟩ = some (.int .i64 file) ∧ True) (first | assumption | trivial) (first
    | (go_at_call 23; refine (drop_any b mb s file HK.out _ (Z.out.p.st.fr (Fr.refl [] w0).drew (by simp) (by simp))).mono ?_; rintro e w1 ⟨rfl, p1, f1⟩; have P1 := hid (And.intro p1 (FD.out.then f1)); have S1 := HS.out _ P1.out.2.up; clear p1 f1)
    | (go_at_call 30; refine (rdrop_any rb s file _ (Z.out.p.mid P1.out.2)).mono ?_; rintro e w2 ⟨rfl, p2, f2⟩; have P2 := hid (And.intro p2 f2); have S2 := HS.out _ (Fr.two P1.out.2 P2.out.2); clear p2 f2))
  all_goals go_wp2
  all_goals go_ret
  all_goals exact ⟨rfl, Z.out.p.next P1.out.1 P2.out.1 P2.out.2, (Z.out.f.mono (by simp)).trans (Fr.two P1.out.2 P2.out.2) (fun x hx => .inl hx)⟩

set_option maxRecDepth 100000 in
set_option maxHeartbeats 2000000 in
theorem done_damage (g0 : (op.toList == [112, 117, 116]) = false) (g1 : (op.toList == [108, 97, 114, 103, 101]) = false) (g2 : (op.toList == [109, 97, 110, 121]) = false) (g3 : (op.toList == [100, 114, 111, 112]) = false) (g4 : (op.toList == [99, 111, 112, 121]) = false) (g5 : (op.toList == [111, 119, 110]) = false) (g6 : (op.toList == [100, 97, 109, 97, 103, 101]) = true) (hk : (Lit.int .i64 file).wf = true) (h : Pair w b mb rb s) :
    Calls Try.prog 18 #[.agg #[.string op, .bool sec, .string bytes, .int .i64 file, .int .i64 at_, .int .i64 by_, .slice la ln lc], .pointer (some ⟨b, 0, none⟩), .pointer (some ⟨b2, 0, none⟩), .pointer (some ⟨rb, 0, none⟩), .agg #[.slice A2 n2 c2, .int .i64 t.most]] w (DoneSays w b mb rb (s.dmg file at_ by_)) := by
  have Z := hid (at0 (op := op) (bytes := bytes) (sec := sec) (file := file) (at_ := at_) (by_ := by_) (la := la) (A2 := A2) (ln := ln) (lc := lc) (n2 := n2) (c2 := c2) (t := t) h)
  have HK := hid hk
  clear hk
  clear h
  go_enter Try.func18, Try.ntmps18
  go_wp2_with fail
  generalize ((w.alloc (.cells #[.string op, .bool sec, .string bytes, .int .i64 file, .int .i64 at_, .int .i64 by_, .slice la ln lc] 34)).alloc (.cells #[.slice A2 n2 c2, .int .i64 t.most] 43)) = w0 at Z ⊢
  have HS : Hid (∀ w', Fr [b, mb, rb] w0 w' → (fun w' => w'.cell? ⟨w.heap.size, 3, none⟩ = some (.int .i64 file) ∧ w'.cell? ⟨w.heap.size, 4, none⟩ = some (.int .i64 at_) ∧ w'.cell? ⟨w.heap.size, 5, none⟩ = some (.int .i64 by_)) w') := fun w' f => by
    obtain ⟨z2, z3, z4, z5, z6⟩ := Z.out.c w' f
    obtain ⟨k0, k1⟩ := Z.out.q w' f
    exact ⟨z3, z4, z5⟩
  have S0 : (fun w' => w'.cell? ⟨w.heap.size, 3, none⟩ = some (.int .i64 file) ∧ w'.cell? ⟨w.heap.size, 4, none⟩ = some (.int .i64 at_) ∧ w'.cell? ⟨w.heap.size, 5, none⟩ = some (.int .i64 by_)) w0.drew := HS.out _ (Fr.refl [b, mb, rb] w0).drew
  have FD := hid (Fr.refl [b, mb] w0).drew
  go_region_held3 (fun w' => w'.cell? ⟨w.heap.size, 3, none⟩ = some (.int .i64 file) ∧ w'.cell? ⟨w.heap.size, 4, none⟩ = some (.int .i64 at_) ∧ w'.cell? ⟨w.heap.size, 5, none⟩ = some (.int .i64 by_)) (first | assumption | trivial) (first
    | (go_at_call 22; refine (dmg_any b mb s file at_ by_ HK.out _ (Z.out.p.st.fr (Fr.refl [] w0).drew (by simp) (by simp))).mono ?_; rintro e w1 ⟨rfl, p1, f1⟩; have P1 := hid (And.intro p1 (FD.out.then f1)); have S1 := HS.out _ P1.out.2.up; clear p1 f1)
    | (go_at_call 32; refine (rdmg_any rb s file at_ by_ _ (Z.out.p.mid P1.out.2)).mono ?_; rintro e w2 ⟨rfl, p2, f2⟩; have P2 := hid (And.intro p2 f2); have S2 := HS.out _ (Fr.two P1.out.2 P2.out.2); clear p2 f2))
  all_goals go_wp2
  all_goals go_ret
  all_goals exact ⟨rfl, Z.out.p.next P1.out.1 P2.out.1 P2.out.2, (Z.out.f.mono (by simp)).trans (Fr.two P1.out.2 P2.out.2) (fun x hx => .inl hx)⟩

end
end Go.Proofs.Ytggkhgpdnjkfcaa
