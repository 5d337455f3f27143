/-
  Appending files to a list of one's own; the walk of the reference's Drop.
-/
import Derived.Test.YtggkhgpdnjkfcaaSz
import Derived.Maps.AppendAt
namespace Go.Proofs.Ytggkhgpdnjkfcaa
open Go.RowKit Go.Maps Go.Proofs.Ytggkhgpdnjkfcaa.PStorePlays Go.Proofs.YtggkhgpdnjkfcaaW.PrintWords Go.Proofs.YtggkhgpdnjkfcaaW.PrintLast Go.Proofs.YtggkhgpdnjkfcaaW.PrintMore

theorem step_append {P : Program} {ops : Array Oper} {rest : List Oper} {o : Oper} {a : Act} {Q : Exit → Act → World → Prop} {W w1 : World} {v y v1 : Value} (hgd : o.guard = none) (s x : Operand) (t : TypeId)
    (ho : o.op = .call { callee := .builtin .append, args := #[s, x], argTypes := #[t, t] }) (hs : a.eval s = v) (hx : a.eval x = y) (hr1 : (Builtin.append_ #[t, t] o.type #[v, y]).run P W = .ok v1 w1)
    (h : wpList P ops Q rest (a.put o.dst v1) w1) : wpList P ops Q (o :: rest) a W := by
  refine wpList_plain hgd fun K hK => ?_
  unfold Oper.wp execOp
  simp only [ho, resolve, invoke, builtin, Sem.run_bind, Sem.run_pure, Result.andThen_ok, List.map_toArray, List.map_cons, List.map_nil, hs, hx, hr1]
  exact hK _ _ h
def rowF (x : S64) (cs : List Value) : Prop := cs = [.int .i64 x.f0, .string x.f1]
theorem RefV.mk {w : World} {v : Value} {l : FL} {inner : List Value} (ho : w.ownsRow 0 64 2 v l.length inner) (hr : Reps rowF 2 (FS l) inner) : RefV w v l :=
  ⟨fun _ _ => trivial, inner, by rw [FS_len]; exact ho, hr.imp_ (fun p c h => by rw [show c = _ from h]; exact k64_mkM _ _ _ _)⟩
theorem RefV.open {w : World} {v : Value} {l : FL} (h : RefV w v l) : ∃ inner, w.ownsRow 0 64 2 v l.length inner ∧ Reps rowF 2 (FS l) inner := by
  obtain ⟨-, inner, ho, hr⟩ := h
  rw [FS_len] at ho
  exact ⟨inner, ho, hr.imp_ (fun p c h => k64_openM h)⟩
/-- append of a list that is not empty. -/
theorem RefV.append {W : World} {v : Value} {l l2 : FL} {ad : Addr} {m c : Nat} (h : RefV W v l) (hC : Kd.C k64 W (some ad) m (FS l2)) (hl : l.length + m ≤ 10000) :
    ∃ A1 n1 c1 W1, (Builtin.append_ #[41, 41] 41 #[v, .slice (some ad) m c]).run Try.prog W = .ok (.slice A1 n1 c1) W1 ∧ RefV W1 (.slice A1 n1 c1) (l ++ l2) ∧ W.grownBy W1 v.ownBlock ∧
      ((Value.slice A1 n1 c1).ownBlock = v.ownBlock ∨ (Value.slice A1 n1 c1).ownBlock = some W.heap.size) := by
  obtain ⟨inner, ho, hr⟩ := h.open
  have hm : l2.length = m := by have := hC.1; rw [FS_len] at this; exact this
  obtain ⟨news, hnr, hnc⟩ := ReadsRow.inner_ hC
  have hnr : Reps rowF 2 (FS l2) news := hnr.imp_ (fun p c h => k64_open h)
  have hone : ∀ u ∈ news, u.oneCell' = true := by
    intro u hu
    obtain ⟨q, hq, rfl⟩ := List.mem_iff_getElem.1 hu
    have hlen := hnr.1
    have hql : q / 2 < (FS l2).length := by omega
    have hc := hnr.2 (q / 2) _ (List.getElem?_eq_getElem hql)
    have hmem : news[q] ∈ ((news.drop (q / 2 * 2)).take 2) := by
      rw [List.mem_iff_getElem?]
      refine ⟨q % 2, ?_⟩
      rw [List.getElem?_take, if_pos (Nat.mod_lt _ (by omega)), List.getElem?_drop, show q / 2 * 2 + q % 2 = q by omega, List.getElem?_eq_getElem hq]
    rw [show _ = _ from hc] at hmem
    rcases List.mem_cons.1 hmem with e | hmem
    · rw [e]; rfl
    · rw [List.mem_singleton.1 hmem]; rfl
  obtain ⟨i0, hi, hz0, hz1, hz2⟩ := info_parts info64
  obtain ⟨v1, W1, hrun, h2, hg, _, hat⟩ := run_append_own_at (P := Try.prog) W 0 41 41 64 i0 _ 2 24 Try.underlying41 hi hz0 hz1 hz2 (by rfl) (by omega) v l.length inner ho ad m c news (by rw [hnr.1, FS_len, hm]) hnc hone (by simp only [maxLen]; omega) (by omega) (Nat.zero_le _)
  have hR : RefV W1 v1 (l ++ l2) := RefV.mk (by rw [List.length_append, hm]; exact h2) (by unfold FS; rw [List.map_append]; exact Kd.reps_append hr hnr)
  obtain ⟨A1, c1, rfl, -, -⟩ := hR.reads
  exact ⟨A1, _, c1, W1, hrun, hR, hg, hat⟩

theorem RefV.litEmpty (w1 : World) : RefV (w1.alloc (.cells #[] 64)) (.slice (some ⟨w1.heap.size, 0, none⟩) 0 0) [] :=
  RefV.mk (inner := []) ⟨rfl, .inr ⟨w1.heap.size, 0, #[], rfl, Nat.zero_le _, heap_alloc_new w1 _, Nat.le_refl _, by simp, rfl, rfl⟩⟩ (Reps.none _ _)
theorem sl_to {A : Option Addr} {n c j : Nat} (hm : j ≤ n) (hc : n ≤ c) : ∀ W : World, (Instr.slice 41 (.slice A n c) none (some (.int .i64 (j : Int))) none).run Try.prog W = .ok (.slice A j c) W := by
  obtain ⟨i0, hi, hz0, hz1, hz2⟩ := info_parts info64
  have := cut_to (P := Try.prog) 41 64 .i64 Try.underlying41 hi A n c (j : Int) (by omega) (by omega) hc
  simpa using this
theorem sl_from {b : Nat} {n c j : Nat} (hm : j ≤ n) : ∃ ad, ((if c = j then some (⟨b, 0, none⟩ : Addr) else (some (⟨b, 0, none⟩ : Addr)).map (·.add (j * 2))) = some ad) ∧ ∀ W : World, (Instr.slice 41 (.slice (some ⟨b, 0, none⟩) n c) (some (.int .i64 (j : Int))) none none).run Try.prog W = .ok (.slice (some ad) (n - j) (c - j)) W := by
  obtain ⟨i0, hi, hz0, hz1, hz2⟩ := info_parts info64
  have := cut_from (P := Try.prog) 41 64 .i64 Try.underlying41 hi 2 hz1 (some ⟨b, 0, none⟩) n c (j : Int) (by omega) (by omega)
  simp only [Int.toNat_natCast] at this
  by_cases e : c = j
  · refine ⟨⟨b, 0, none⟩, by rw [if_pos e], fun W => ?_⟩
    rw [this W, if_pos e]
  · refine ⟨(⟨b, 0, none⟩ : Addr).add (j * 2), by rw [if_neg e]; rfl, fun W => ?_⟩
    rw [this W, if_neg e]; rfl
theorem FS_take (l : FL) (j : Nat) : (FS l).take j = FS (l.take j) := by unfold FS; rw [List.map_take]
theorem FS_drop (l : FL) (j : Nat) : (FS l).drop j = FS (l.drop j) := by unfold FS; rw [List.map_drop]

set_option maxRecDepth 100000 in
set_option maxHeartbeats 1000000 in
theorem rdrop_any (rb : Nat) (s : St) (k : Int) (w : World) (h : RefAt w rb s) :
    Calls Try.prog 30 #[.pointer (some ⟨rb, 0, none⟩), .int .i64 k] w fun e w' => e = .returned (.int .i64 (s.getE k)) ∧ RefAt w' rb (s.drop k) ∧ Fr [rb] w w' := by
  have H := hid h
  obtain ⟨v0, hb, hv⟩ := h.blk
  obtain ⟨A, c, rfl, hlc, -⟩ := hv.reads
  have c0 : w.cell? ⟨rb, 0, none⟩ = some (.slice A (FS s.files).length c) := cell_of_row w rb 0 _ _ _ hb
  have c1 : w.cell? ⟨rb, 1, none⟩ = some (.int .i64 s.most) := cell_of_row w rb 1 _ _ _ hb
  have HB := hid hb
  have HV := hid hv
  clear h hb hv
  go_enter Try.func30, Try.ntmps30
  go_wp2_with fail
  refine (rplace HV.out H.out.ok.len _ _).mono ?_
  rintro e w1 ⟨rfl, f1⟩
  have F1 := hid f1
  have HI := hid (isAt_lget s.files k H.out.ok.rise)
  clear f1 c0 c1
  cases hg : lget s.files k with
  | none =>
    have hi : isAt s.files k = false := by rw [HI.out, hg]; rfl
    rw [hi]
    have e1 : s.getE k = 6 ∧ s.drop k = s := by
      refine ⟨by simp [St.getE, hg], ?_⟩
      have : ldel s.files k = s.files := ldel_none (fun p hp e => by
        have := lget_of_mem H.out.ok.rise (k := p.1) (v := p.2) hp
        rw [e, hg] at this; cases this)
      simp [St.drop, this]
    go_wp2
    go_ret
    rw [e1.1, e1.2]
    exact ⟨rfl, H.out.fr F1.out (by simp) (by simp), F1.out.mono (by simp)⟩
  | some v =>
    have hi : isAt s.files k = true := by rw [HI.out, hg]; rfl
    rw [hi]
    have c0 : w1.cell? ⟨rb, 0, none⟩ = some (.slice A (FS s.files).length c) := (F1.out.cell (p := ⟨rb, 0, none⟩) H.out.lt (by simp)).trans (cell_of_row w rb 0 _ _ _ HB.out)
    have hp := pos_at H.out.ok.rise hg
    have hpl := (List.getElem?_eq_some_iff.1 hp).1
    obtain ⟨b, rfl, hbl, -, -, -⟩ := HV.out.at hp
    have hlc2 : s.files.length ≤ c := by rw [FS_len] at hlc; exact hlc
    have hlen := H.out.ok.len
    have x1 := sl_to (A := some ⟨b, 0, none⟩) (n := (FS s.files).length) (c := c) (j := pos s.files k) (by rw [FS_len]; omega) hlc
    have d0 : (w1.alloc (.cells #[] 64)).cell? ⟨rb, 0, none⟩ = some (.slice (some ⟨b, 0, none⟩) (FS s.files).length c) := ((F1.out.alloc _).cell (p := ⟨rb, 0, none⟩) H.out.lt (by simp)).trans (cell_of_row w rb 0 _ _ _ HB.out)
    have FA := F1.out.alloc (.cells #[] 64)
    have hC1 : Kd.C k64 (w1.alloc (.cells #[] 64)) (some ⟨b, 0, none⟩) (pos s.files k) (FS (s.files.take (pos s.files k))) := by
      have h1 := (HV.out.fr FA (by simp)).len.2.2
      have := Kd.C_take h1 (m := pos s.files k) (by rw [FS_len]; omega)
      rw [FS_take, FS_len, List.length_take, Nat.min_eq_left (by omega)] at this
      exact this
    obtain ⟨A1, n1, c1, w2, run1, v1, gr1, at1⟩ := (RefV.litEmpty w1).append (c := c) hC1 (by simp; omega)
    have s1 := FA.size
    have s2 := F1.out.size
    have o1 : ∀ q, (Value.slice A1 n1 c1).ownBlock = some q → w.heap.size ≤ q := fun q hq => by
      rcases at1 with e | e
      · rw [e] at hq; simp [Value.ownBlock] at hq; omega
      · rw [e] at hq; cases hq; exact s1
    have F2 : Fr [] w w2 := FA.grown gr1 (fun q hq => by simp [Value.ownBlock] at hq; exact .inr (by omega))
    have c2 : w2.cell? ⟨rb, 0, none⟩ = some (.slice (some ⟨b, 0, none⟩) (FS s.files).length c) := (F2.cell (p := ⟨rb, 0, none⟩) H.out.lt (by simp)).trans (cell_of_row w rb 0 _ _ _ HB.out)
    obtain ⟨ad, hae, x2⟩ := sl_from (b := b) (n := (FS s.files).length) (c := c) (j := pos s.files k + 1) (by rw [FS_len]; omega)
    have hC2 : Kd.C k64 w2 (some ad) ((FS s.files).length - (pos s.files k + 1)) (FS (s.files.drop (pos s.files k + 1))) := by
      have h1 := (HV.out.fr F2 (by simp)).len.2.2
      have := Kd.C_drop h1 (m := pos s.files k + 1) (c := c) (by rw [FS_len]; omega) hlc
      rw [FS_drop, FS_len, List.length_drop] at this
      rw [FS_len, ← hae]
      exact this
    obtain ⟨A2, n2, c2', w3, run2, v2, gr2, at2⟩ := v1.append (c := c - (pos s.files k + 1)) hC2 (by simp [FS_len]; omega)
    have F3 : Fr [] w w3 := F2.grown gr2 (fun q hq => .inr (o1 q hq))
    have k0 : w3.cell? ⟨rb, 0, none⟩ = some (.slice (some ⟨b, 0, none⟩) (FS s.files).length c) := (F3.cell (p := ⟨rb, 0, none⟩) H.out.lt (by simp)).trans (cell_of_row w rb 0 _ _ _ HB.out)
    have kf : ∀ i, w3.frozen? ⟨rb, i, none⟩ = false := fun i => by simp [World.frozen?, F3.block rb H.out.lt (by simp), HB.out]
    have hwr : IntKind.i64.wrap ((pos s.files k : Int) + 1) = ((pos s.files k + 1 : Nat) : Int) := by rw [IntWalk.i64_in _ (by omega)]; omega
    have x2 : ∀ W : World, (Instr.slice 41 (.slice (some ⟨b, 0, none⟩) (FS s.files).length c) (some (.int .i64 ((pos s.files k : Int) + 1))) none none).run Try.prog W = .ok (.slice (some ad) ((FS s.files).length - (pos s.files k + 1)) (c - (pos s.files k + 1))) W := fun W => x2 W
    have HF3 := hid F3
    have HV2 := hid v2
    have e1 : s.getE k = 0 := by simp [St.getE, hg]
    have HL := hid (ldel_there H.out.ok.rise hg)
    clear c0 FA hC1 hC2 s1 s2 o1 F2 F3 at1 at2 gr1 gr2 v1 v2 hae hlen hpl hp hbl hlc hlc2
    go_wp2_with (first
      | ((with_reducible refine gate_dst (N := 25) rfl ?_); refine step_append (v := .slice (some ⟨w1.heap.size, 0, none⟩) 0 0) (y := .slice (some ⟨b, 0, none⟩) (pos s.files k) c) (v1 := .slice A1 n1 c1) (w1 := w2) rfl (.tmp 18) (.tmp 24) 41 rfl rfl rfl run1 ?_)
      | ((with_reducible refine gate_dst (N := 35) rfl ?_); refine step_append (v := .slice A1 n1 c1) (y := .slice (some ad) ((FS s.files).length - (pos s.files k + 1)) (c - (pos s.files k + 1))) (v1 := .slice A2 n2 c2') (w1 := w3) rfl (.tmp 27) (.tmp 34) 41 rfl rfl rfl run2 ?_))
    go_ret
    have ok2 := H.out.ok.drop k
    have v2 : RefV w3 (.slice A2 n2 c2') (s.drop k).files := by
      have := HV2.out
      rw [List.nil_append, ← HL.out] at this
      exact this
    rw [e1]
    exact ⟨rfl, (H.out.fr HF3.out (by simp) (by simp)).put0 v2 ok2 rfl, (HF3.out.mono (by simp)).setCell (.inl (by simp)) _⟩

end Go.Proofs.Ytggkhgpdnjkfcaa
