/-
  The reference store as it lies in memory; the walk of its Put.
-/
import Derived.Test.YtggkhgpdnjkfcaaSx
namespace Go.Proofs.Ytggkhgpdnjkfcaa
open Go.RowKit Go.Maps Go.Proofs.Ytggkhgpdnjkfcaa.PStorePlays Go.Proofs.YtggkhgpdnjkfcaaW.PrintWords Go.Proofs.YtggkhgpdnjkfcaaW.PrintLast Go.Proofs.YtggkhgpdnjkfcaaW.PrintMore

/-- A list of files, as a slice in w. -/
def RefV (w : World) (v : Value) (l : FL) : Prop := Kd.R k64 64 w 0 (fun _ => True) v (FS l)
def No64 (w : World) (k : Nat) : Prop := ∀ cells, w.heap[k]? ≠ some (.cells cells 64 (0, 0))
theorem RefV.fr {S : List Nat} {w w' : World} {v : Value} {l : FL} (h : RefV w v l) (hf : Fr S w w') (hS : ∀ k ∈ S, No64 w k) : RefV w' v l := by
  refine Kd.R_mono (Kd.R_move (Kd.R_bound h) (fun k hk => ?_)) (fun _ _ => trivial)
  obtain ⟨_, _, hlt, q, hq, cells, hc⟩ := hk
  refine hf.block k hlt (fun hm => hS k hm cells ?_)
  have : q = 64 := by
    rcases List.mem_cons.1 hq with h | h
    · exact h
    · exact absurd h (by simp [k64, Kd.iso, Kd.pair, Kd.int, Kd.string, Kd.scalar])
  rw [← this]; exact hc
theorem RefV.of_new {w : World} {base : Nat} {v : Value} {l : FL} (h : Kd.R k64 64 w base (fun _ => True) v (FS l)) : RefV w v l := Kd.R_lower h (Nat.zero_le _)
theorem RefV.nil (w : World) : RefV w (.slice none 0 0) [] := Kd.R_nil _ _ _ _ _
theorem RefV.reads {w : World} {v : Value} {l : FL} (h : RefV w v l) : ∃ A c, v = .slice A (FS l).length c ∧ (FS l).length ≤ c ∧ Kd.C k64 w A (FS l).length (FS l) := Kd.R_reads h

/-- A reference store, boxed. -/
structure RefAt (w : World) (rb : Nat) (s : St) : Prop where
  blk : ∃ v, w.heap[rb]? = some (.cells #[v, .int .i64 s.most] 43 (0, 0)) ∧ RefV w v s.files
  ok : s.Ok
theorem StoreAt.no64 {w : World} {b mb : Nat} {s : St} (h : StoreAt w b mb s) : No64 w b ∧ No64 w mb := by
  obtain ⟨es, clock, e⟩ := h.map.isMap
  constructor
  · intro cells hc; rw [h.blk] at hc
    injection hc with hc; injection hc with _ hc; exact absurd hc (by decide)
  · intro cells hc; rw [e] at hc; cases hc
theorem RefAt.no64 {w : World} {rb : Nat} {s : St} (h : RefAt w rb s) : No64 w rb := by
  obtain ⟨v, hb, _⟩ := h.blk
  intro cells hc; rw [hb] at hc
  injection hc with hc; injection hc with _ hc; exact absurd hc (by decide)
theorem RefAt.lt {w : World} {rb : Nat} {s : St} (h : RefAt w rb s) : rb < w.heap.size := by
  obtain ⟨v, hb, _⟩ := h.blk
  exact (Array.getElem?_eq_some_iff.1 hb).1
theorem RefAt.ne {w : World} {rb b mb : Nat} {s t : St} (h : RefAt w rb s) (h' : StoreAt w b mb t) : rb ≠ b ∧ rb ≠ mb := by
  obtain ⟨v, hb, _⟩ := h.blk
  obtain ⟨es, clock, e⟩ := h'.map.isMap
  constructor
  · rintro rfl; rw [h'.blk] at hb
    injection hb with hc; injection hc with _ hc; exact absurd hc (by decide)
  · rintro rfl; rw [e] at hb; cases hb
theorem RefAt.fr {S : List Nat} {w w' : World} {rb : Nat} {s : St} (h : RefAt w rb s) (hf : Fr S w w') (h1 : rb ∉ S) (hS : ∀ k ∈ S, No64 w k) : RefAt w' rb s := by
  obtain ⟨v, hb, hv⟩ := h.blk
  exact ⟨⟨v, (hf.block rb h.lt h1).trans hb, hv.fr hf hS⟩, h.ok⟩
theorem lget_big {s : St} (h : s.Ok) {n : Int} (hn : s.most < n) : lget s.files n = none := lget_absent (fun p hp e => by have := h.keys p hp; omega)
theorem rput_with (s : St) (h : s.Ok) (x : ByteArray) : cirrusref08_Store_with.f 5000 (FS s.files) s.most (s.most + 1) x = some (FS (lput s.files (s.most + 1) x), s.most + 1) := by
  rw [with_is s.files _ _ x h.len h.rise (lget_big h (by omega))]
  congr 2; omega
/-- The two cells of a reference store are written anew. -/
theorem RefAt.put {w : World} {rb : Nat} {s s' : St} {v : Value} (h : RefAt w rb s) (hv : RefV w v s'.files) (ok : s'.Ok) : RefAt ((w.setCell ⟨rb, 0, none⟩ v).setCell ⟨rb, 1, none⟩ (.int .i64 s'.most)) rb s' := by
  obtain ⟨u, hb, hu⟩ := h.blk
  refine ⟨⟨v, blk_setCell (blk_setCell hb 0 v) 1 _, ?_⟩, ok⟩
  refine hv.fr (((Fr.refl [rb] w).setCell (.inl (by simp)) _).setCell (.inl (by simp)) _) ?_
  intro k hk; simp at hk; subst hk; exact h.no64
theorem RefAt.put0 {w : World} {rb : Nat} {s s' : St} {v : Value} (h : RefAt w rb s) (hv : RefV w v s'.files) (ok : s'.Ok) (hm : s'.most = s.most) : RefAt (w.setCell ⟨rb, 0, none⟩ v) rb s' := by
  obtain ⟨u, hb, hu⟩ := h.blk
  refine ⟨⟨v, by rw [hm]; exact blk_setCell hb 0 v, ?_⟩, ok⟩
  refine hv.fr ((Fr.refl [rb] w).setCell (.inl (by simp)) _) ?_
  intro k hk; simp at hk; subst hk; exact h.no64

set_option maxRecDepth 100000 in
set_option maxHeartbeats 1000000 in
theorem rput_any (rb : Nat) (s : St) (x : ByteArray) (w : World) (h : RefAt w rb s) (hx : x.size ≤ maxLen) :
    Calls Try.prog 29 #[.pointer (some ⟨rb, 0, none⟩), .string x] w fun e w' => e = .returned (.tuple #[.int .i64 (s.putN x), .int .i64 (s.putE x)]) ∧ RefAt w' rb (s.put x) ∧ Fr [rb] w w' := by
  obtain ⟨v, hb, hv⟩ := h.blk
  obtain ⟨A, c, rfl, hc, hC⟩ := hv.reads
  have c0 : w.cell? ⟨rb, 0, none⟩ = some (.slice A (FS s.files).length c) := cell_of_row w rb 0 _ _ _ hb
  have c1 : w.cell? ⟨rb, 1, none⟩ = some (.int .i64 s.most) := cell_of_row w rb 1 _ _ _ hb
  have f1 : ∀ i, w.frozen? ⟨rb, i, none⟩ = false := fun i => by simp [World.frozen?, hb]
  have m0 := h.ok.m0
  have m1 := h.ok.m1
  have H := hid h
  have cW := fun w' (hC' : Kd.C k64 w' A (FS s.files).length (FS s.files)) => cirrusref08_Store_with.calls 5000 A c (FS s.files) s.most (s.most + 1) x _ _ w' hC' hc (rput_with s h.ok x)
  have HC := hid hC
  clear h hb hv hC hc
  unfold maxLen at hx
  by_cases hz : 8388608 < x.size
  · have hf : s.full x = true := by simp [St.full, hz]
    have e1 : s.putN x = 0 ∧ s.putE x = 2 ∧ s.put x = s := by simp [St.putN, St.putE, St.put, hf]
    rw [e1.1, e1.2.1, e1.2.2]
    go_enter Try.func29, Try.ntmps29
    go_wp2
    go_ret2
    exact ⟨rfl, H.out, Fr.refl _ _⟩
  · by_cases hm : 4000 ≤ s.most
    · have hf : s.full x = true := by simp [St.full, hm]
      have e1 : s.putN x = 0 ∧ s.putE x = 2 ∧ s.put x = s := by simp [St.putN, St.putE, St.put, hf]
      rw [e1.1, e1.2.1, e1.2.2]
      go_enter Try.func29, Try.ntmps29
      go_wp2
      go_ret2
      exact ⟨rfl, H.out, Fr.refl _ _⟩
    · have hf : s.full x = false := by simp [St.full, hz, hm]
      have e1 : s.putN x = s.most + 1 ∧ s.putE x = 0 ∧ s.put x = ⟨lput s.files (s.most + 1) x, s.most + 1⟩ := by simp [St.putN, St.putE, St.put, hf]
      have ok2 := H.out.ok.put x
      rw [e1.2.2] at ok2
      rw [e1.1, e1.2.1, e1.2.2]
      have HW := hid cW
      clear cW
      go_enter Try.func29, Try.ntmps29
      go_wp2_with fail
      refine (HW.out _ HC.out).mono ?_
      rintro e w1 ⟨v1, rfl, hR, hB⟩
      have hR1 := RefV.of_new hR
      obtain ⟨A1, ca1, rfl, -, -⟩ := hR1.reads
      have F1 : Fr [] w w1 := Fr.of_below hB
      have f2 : ∀ i, w1.frozen? ⟨rb, i, none⟩ = false := fun i => by
        have := f1 i
        unfold World.frozen? at this ⊢
        rw [F1.block rb H.out.lt (by simp)]; exact this
      have k0 : w1.cell? ⟨rb, 0, none⟩ = some (.slice A (FS s.files).length c) := (F1.cell H.out.lt (by simp)).trans c0
      have k1 : w1.cell? ⟨rb, 1, none⟩ = some (.int .i64 s.most) := (F1.cell H.out.lt (by simp)).trans c1
      have HR1 := hid hR1
      have HF1 := hid F1
      clear hR hB hR1 F1 c0 c1
      go_wp2
      go_ret2
      exact ⟨rfl, (H.out.fr HF1.out (by simp) (by simp)).put (s' := ⟨lput s.files (s.most + 1) x, s.most + 1⟩) HR1.out ok2, ((HF1.out.mono (by simp)).setCell (.inl (by simp)) _).setCell (.inl (by simp)) _⟩

end Go.Proofs.Ytggkhgpdnjkfcaa
