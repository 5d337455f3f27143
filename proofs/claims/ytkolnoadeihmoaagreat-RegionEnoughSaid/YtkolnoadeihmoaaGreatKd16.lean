/-
  Regions: a range over their map; acknowledge.
  Regions: acknowledge.
  Regions: an entry copied.
-/
import Derived.Maps.RangeWalk
import Derived.Maps.RangeRun
import Derived.StillTailTactics
import Derived.Deep.RegionHeld3
import Derived.BigRegion
import Derived.Test.YtkolnoadeihmoaaGreatKd8
import Derived.Test.YtkolnoadeihmoaaGreatKd13
import Derived.Test.YtkolnoadeihmoaaGreatKd7
import Derived.Test.YtkolnoadeihmoaaGreatKd11
namespace Go.Proofs.YtkolnoadeihmoaaGreat
open Go.RowKit Go.Proofs.YtkolnoadeihmoaaGreatW.PrintWords
open Go.ChangeMaps (setBlock)
theorem rows_get : ∀ {l : List (ByteArray × RP)} {us : List (Nat × Value)} {i j : Nat} {x : ByteArray × RP} {a : Nat × Value}, l[j]? = some x → us[j]? = some a → (rowsM i l us)[j]? = some { key := .string x.1, val := .pointer (some ⟨a.1, 0, none⟩), born := i + j }
  | [], _, _, _, _, _, h, _ => by simp at h
  | _ :: _, [], _, _, _, _, _, h => by simp at h
  | y :: r, b :: s, i, 0, x, a, h, h2 => by
    simp at h h2
    subst h h2
    rfl
  | y :: r, b :: s, i, j + 1, x, a, h, h2 => by
    simp only [rowsM, List.getElem?_cons_succ]
    rw [rows_get (i := i + 1) (by simpa using h) (by simpa using h2)]
    congr 2
    omega
theorem rows_len : ∀ {l : List (ByteArray × RP)} {us : List (Nat × Value)} (i : Nat), us.length = l.length → (rowsM i l us).length = l.length
  | [], [], _, _ => rfl
  | [], _ :: _, _, h => by simp at h
  | _ :: _, [], _, h => by simp at h
  | _ :: r, _ :: s, i, h => by simp only [rowsM, List.length_cons]; rw [rows_len (i + 1) (by simpa using h)]
theorem rows_mem {l : List (ByteArray × RP)} {us : List (Nat × Value)} (hl : us.length = l.length) {e : MapEntry} (h : e ∈ (rowsM 0 l us)) : ∃ j x a, l[j]? = some x ∧ us[j]? = some a ∧ e = { key := .string x.1, val := .pointer (some ⟨a.1, 0, none⟩), born := j } := by
  obtain ⟨j, hj⟩ := List.mem_iff_getElem?.1 h
  have hjl := (List.getElem?_eq_some_iff.1 hj).1
  rw [rows_len 0 hl] at hjl
  obtain ⟨x, hx⟩ : ∃ x, l[j]? = some x := ⟨_, List.getElem?_eq_getElem hjl⟩
  obtain ⟨a, ha⟩ : ∃ a, us[j]? = some a := ⟨_, List.getElem?_eq_getElem (by omega)⟩
  rw [rows_get hx ha] at hj
  cases hj
  exact ⟨j, x, a, hx, ha, by simp⟩
theorem rows_born : ∀ {l : List (ByteArray × RP)} {us : List (Nat × Value)} (i : Nat), (rowsM i l us).map (·.born) = List.range' i (rowsM i l us).length
  | [], [], _ => rfl
  | [], _ :: _, _ => rfl
  | _ :: _, [], _ => rfl
  | _ :: r, _ :: s, i => by
    simp only [rowsM, List.map_cons, List.length_cons, List.range'_succ]
    rw [rows_born (i + 1)]
theorem rows_nodup (l : List (ByteArray × RP)) (us : List (Nat × Value)) : (((rowsM 0 l us).toArray).toList.map (·.born)).Nodup := by
  show ((rowsM 0 l us).map (·.born)).Nodup
  rw [rows_born]
  exact List.nodup_range'
structure IterAt (w : World) (ib mb n : Nat) (S : List Nat) : Prop where
  blk : w.heap[ib]? = some (.mapIter (some mb) n S.toArray n)
  nodup : S.Nodup
  lt : ∀ j ∈ S, j < n
theorem IterAt.len {w : World} {ib mb n : Nat} {S : List Nat} (h : IterAt w ib mb n S) : S.length ≤ n := by
  have h1 : S.Perm S := List.Perm.refl _
  have := List.Nodup.length_le_of_subset (l₁ := S) (l₂ := List.range n) h.nodup (fun j hj => List.mem_range.2 (h.lt j hj))
  simpa using this
theorem IterAt.full {w : World} {ib mb n : Nat} {S : List Nat} (h : IterAt w ib mb n S) (hall : ∀ j, j < n → j ∈ S) : S.Perm (List.range n) := by
  rw [List.perm_ext_iff_of_nodup h.nodup List.nodup_range]
  intro j
  exact ⟨fun hj => List.mem_range.2 (h.lt j hj), fun hj => hall j (List.mem_range.1 hj)⟩
theorem IterAt.fr {w w' : World} {ib mb n : Nat} {S : List Nat} {T : List Nat} (h : IterAt w ib mb n S) (f : Fr T w w') (hT : ib ∉ T) : IterAt w' ib mb n S := ⟨f.blk h.blk hT, h.nodup, h.lt⟩
theorem IterAt.seen {w : World} {ib mb n : Nat} {S : List Nat} (h : IterAt w ib mb n S) : (w.iterSeen ib).size = S.length := by
  unfold World.iterSeen
  rw [h.blk]
  simp
theorem fr_setBlock {w : World} {ib : Nat} {o : Obj} : Fr [ib] w (setBlock w ib o) := ⟨rfl, rfl, rfl, by simp [setBlock], fun k hk hS => by
  simp at hS
  simp [setBlock, Ne.symm hS]⟩
section
variable {P : Program} {ops : Array Oper} {rest : List Oper} {o : Oper} {a : Act} {Q : Exit → Act → World → Prop}
theorem wpList_next_place (w : World) {ib mb : Nat} {l : List (ByteArray × RP)} {us : List (Nat × Value)} {S : List Nat} (hg : o.guard = none) (it : Operand) (hop : o.op = Op.next it false) (hit : a.eval it = .pointer (some ⟨ib, 0, none⟩))
    (hl : us.length = l.length) (hI : IterAt w ib mb l.length S) (hm : w.heap[mb]? = some (.map (rowsM 0 l us).toArray l.length))
    (hDone : S.Perm (List.range l.length) → wpList P ops Q rest (a.put o.dst (.tuple #[.bool false])) w)
    (hMore : ∀ (j : Nat) (x : ByteArray × RP) (u : Nat × Value) (w' : World), l[j]? = some x → us[j]? = some u → IterAt w' ib mb l.length (S ++ [j]) → Fr [ib] w w' →
      (Instr.entry (.pointer (some ⟨ib, 0, none⟩))).run P w' = .ok (.tuple #[.string x.1, .pointer (some ⟨u.1, 0, none⟩)]) w' → wpList P ops Q rest (a.put o.dst (.tuple #[.bool true, .string x.1, .pointer (some ⟨u.1, 0, none⟩)])) w') :
    wpList P ops Q (o :: rest) a w := by
  refine wpList_plain hg fun K' hK' => ?_
  have hold : ∀ x ∈ (rowsM 0 l us).toArray.toList, x.born < l.length := fun x hx => by
    obtain ⟨j, y, b, h1, -, rfl⟩ := rows_mem hl (by simpa using hx)
    exact (List.getElem?_eq_some_iff.1 h1).1
  have hmi : mb ≠ ib := fun e => by rw [e, hI.blk] at hm; cases hm
  unfold Oper.wp
  rcases run_next_at (P := P) w o.type ib mb l.length l.length S.toArray (rowsM 0 l us).toArray l.length hI.blk hm hold (Nat.le_refl _) with ⟨h0, hrun⟩ | ⟨e, he, w1, hw1, hrun⟩
  · simp [execOp, hop, hit, hrun, Result.andThen]
    refine hK' _ _ (hDone (hI.full fun j hj => ?_))
    obtain ⟨x, hx⟩ : ∃ x, l[j]? = some x := ⟨_, List.getElem?_eq_getElem hj⟩
    obtain ⟨b, hb⟩ : ∃ b, us[j]? = some b := ⟨_, List.getElem?_eq_getElem (by omega)⟩
    have := all_seen _ _ h0 _ (show _ ∈ (rowsM 0 l us).toArray.toList from List.mem_iff_getElem?.2 ⟨j, rows_get hx hb⟩)
    simpa using this
  · obtain ⟨hm1, hns⟩ := mem_left he
    obtain ⟨j, x, u, hx, hu, rfl⟩ := rows_mem hl (by simpa using hm1)
    have epush : S.toArray.push j = (S ++ [j]).toArray := by simp
    have hf : Fr [ib] w (setBlock w1 ib (.mapIter (some mb) l.length (S ++ [j]).toArray l.length)) := by
      rcases hw1 with rfl | rfl
      · exact fr_setBlock
      · exact (Fr.refl [ib] w).drew.then fr_setBlock
    have hsz : ib < w1.heap.size := by
      have := blk_lt hI.blk
      rcases hw1 with rfl | rfl
      · exact this
      · exact this
    have hblk : (setBlock w1 ib (.mapIter (some mb) l.length (S ++ [j]).toArray l.length)).heap[ib]? = some (.mapIter (some mb) l.length (S ++ [j]).toArray l.length) := by simp [setBlock, hsz]
    have hmb := hf.blk hm (by simpa using hmi)
    have hit' : IterAt (setBlock w1 ib (.mapIter (some mb) l.length (S ++ [j]).toArray l.length)) ib mb l.length (S ++ [j]) := by
      refine ⟨hblk, ?_, ?_⟩
      · rw [List.nodup_append]
        refine ⟨hI.nodup, by simp, fun y hy z hz => ?_⟩
        simp at hz
        subst hz
        rintro rfl
        simp at hns
        exact hns hy
      · intro y hy
        rcases List.mem_append.1 hy with h1 | h1
        · exact hI.lt y h1
        · rw [List.mem_singleton.1 h1]
          exact (List.getElem?_eq_some_iff.1 hx).1
    have hen := run_entry_at (P := P) (setBlock w1 ib (.mapIter (some mb) l.length (S ++ [j]).toArray l.length)) ib mb l.length S.toArray (rowsM 0 l us).toArray l.length _ (by rw [epush]; exact hblk) hmb hm1 (rows_nodup l us)
    simp [execOp, hop, hit, hrun, Result.andThen]
    exact hK' _ _ (hMore j x u _ hx hu hit' hf hen)
end
theorem int_append {w : World} {v : Value} {xs : List Int} (R : kI.R 3 w 0 (fun _ => True) v xs) (hl : xs.length ≤ 1000000) (x : Int) :
    ∃ A1 c1 w1, (Builtin.append_ #[122, 122] 122 #[v, .slice (some ⟨w.heap.size, 0, none⟩) 1 1]).run Tryz.prog (w.alloc (.cells #[.int .i64 x] 3)) = .ok (.slice A1 (xs.length + 1) c1) w1 ∧
      kI.R 3 w1 0 (fun _ => True) (.slice A1 (xs.length + 1) c1) (xs ++ [x]) ∧ w.grownBy w1 v.ownBlock ∧ ((Value.slice A1 (xs.length + 1) c1).ownBlock = v.ownBlock ∨ ∃ b, (Value.slice A1 (xs.length + 1) c1).ownBlock = some b ∧ w.heap.size ≤ b) := by
  obtain ⟨v1, w1, hrun, r5, g5, a5⟩ := R_run (P := Tryz.prog) kI (W := w) 122 122 3 (.int .i64 0) 8 Tryz.underlying122 info_int rfl (by decide) (by decide) v xs x [.int .i64 x] (fun _ => False) rfl (fun _ h => h.elim) R (by omega)
  obtain ⟨A1, c1, e⟩ := Kd.R_slice r5
  rw [List.length_append, List.length_singleton] at e
  subst e
  exact ⟨A1, c1, w1, hrun, r5, g5, a5⟩
def agr (R : RG) (j : Nat) : Int := match R.places[j]? with
  | some x => (Reg.pre R.first x.2.log : Int)
  | none => 0
theorem agr_all (R : RG) : (List.range R.places.length).map (agr R) = R.agreed := by
  unfold Reg.Rg.agreed
  apply List.ext_getElem?
  intro j
  simp only [List.getElem?_map]
  by_cases hj : j < R.places.length
  · rw [List.getElem?_range hj, List.getElem?_eq_getElem hj]
    simp [agr, hj]
  · rw [List.getElem?_eq_none (by simpa using hj), List.getElem?_eq_none (by omega)]
    rfl
theorem agr_perm {R : RG} {S : List Nat} (h : S.Perm (List.range R.places.length)) : (S.map (agr R)).mergeSort (fun x y => decide (x ≤ y)) = Reg.sortI R.agreed := by
  have hp : (S.map (agr R)).Perm R.agreed := by rw [← agr_all]; exact h.map _
  have h1 : (Reg.sortI (S.map (agr R))).Perm (Reg.sortI R.agreed) := ((Reg.sort_perm _).trans hp).trans (Reg.sort_perm _).symm
  exact h1.eq_of_pairwise (le := (· ≤ ·)) (fun a b _ _ h1 h2 => Int.le_antisymm h1 h2) (Reg.sort_sorted _) (Reg.sort_sorted _)
theorem drawn_fr {w w' : World} (h : Drawn0 w w') : Fr [] w w' := by obtain ⟨q, hq⟩ := h.out; rw [hq]; exact (Fr.refl [] w).drewN q
structure Inv0 (R : RG) : Prop where
  prim : ∃ p, R.look R.primary = some p
  need : 1 ≤ R.need ∧ R.need ≤ R.places.length
  long : ∀ x ∈ R.places, x.2.log.length ≤ 4000
theorem inv0_put {R : RG} (h : Reg.Inv R) {n : ByteArray} {p q : RP} (hl : R.look n = some p) (hq : q.log.length ≤ 4000) : Inv0 (R.put n q) := by
  refine ⟨?_, ?_, ?_⟩
  · obtain ⟨f, hf⟩ := h.prim
    have e : (R.put n q).look (R.put n q).primary = if R.primary = n then some q else R.look R.primary := Reg.put_look n q hl R.primary
    rw [e, hf]
    split
    · exact ⟨_, rfl⟩
    · exact ⟨_, rfl⟩
  · have e : (R.put n q).places.length = R.places.length := Reg.put_len n q R.places
    rw [e]
    exact h.need
  · intro x hx
    rcases Reg.put_mem h.names hx with ⟨-, e⟩ | ⟨-, hm⟩
    · rw [e]; exact hq
    · exact h.long x hm
theorem ack_end {rb mb : Nat} {us : List (Nat × Value)} {R : RG} {w : World} (h : RegAt w rb mb us R) {v : Int} (hv : R.ack.acked = v) : RegAt (w.setCell ⟨rb, 4, none⟩ (.int .i64 v)) rb mb us R.ack ∧ Fr [rb] w (w.setCell ⟨rb, 4, none⟩ (.int .i64 v)) := by
  have f : Fr [rb] w (w.setCell ⟨rb, 4, none⟩ (.int .i64 v)) := (Fr.refl [rb] w).setCell (.inl (by simp)) _
  refine ⟨h.head f ?_ rfl, f⟩
  have := blk_setCell h.blk 4 (.int .i64 v)
  simp only [List.setIfInBounds_toArray, List.set_cons_succ, List.set_cons_zero] at this
  rw [this, ← hv]
  rfl
set_option maxRecDepth 100000 in
set_option maxHeartbeats 4000000 in
theorem ack_any (rb mb : Nat) (us : List (Nat × Value)) (R : RG) (w : World) (h : RegAt w rb mb us R) (hi : Inv0 R) (hpl : R.places.length ≤ 1000) :
    Calls Tryz.prog 51 #[.pointer (some ⟨rb, 0, none⟩)] w fun e w' => e = .returned (.tuple #[]) ∧ RegAt w' rb mb us R.ack ∧ Fr [rb] w w' := by
  obtain ⟨f, hf⟩ := hi.prim
  obtain ⟨i0, a0, hp0, ha0, hlk⟩ := rlook_at hf h.len (rb := rb) (mb := mb)
  have hfirst := Reg.first_of hf
  obtain ⟨c0, c1, -⟩ := h.c
  have hP0 := h.pl i0 _ a0 hp0 ha0
  have d1 := cell_of_row w a0.1 1 _ _ _ hP0.blk
  simp at d1
  have hlkq := fun q => hlk (w.drewN q) (h.fr0 ((Fr.refl [] w).drewN q))
  obtain ⟨v0, hv0, -, -, hcount, -⟩ := Reg.nth_ack hi.need
  have hneed := hi.need
  obtain ⟨nd, hnd⟩ : ∃ nd : Nat, R.need = nd := ⟨R.need.toNat, by omega⟩
  have H := hid h
  have HP0 := hid hP0
  have HI := hid hi
  have HFST := hid hfirst
  have hl4 : f.log.length ≤ 4000 := hi.long _ (Reg.look_mem hf)
  have hlen := hid h.len
  have HND := hid hnd
  have HV0 := hid hv0
  clear h hi hf hlk hp0 ha0 hP0 hv0 hfirst hnd
  go_enter Tryz.func51, Tryz.ntmps51
  go_wp2_with fail
  go_quiet (fail)
  rename_i nq
  generalize hw1 : w.drewN nq = w1
  have F1 : Hid (Fr [] w w1) := hid (by rw [← hw1]; exact (Fr.refl [] w).drewN nq)
  have c0 := F1.out.cell0 c0
  clear hw1 hlkq d1 c1
  have hmap := (H.out.fr0 F1.out).map
  have hrange := run_range_map (P := Tryz.prog) w1 85 9 92 mb _ _ Tryz.underlying85 hmap
  go_wp2
  clear hrange
  obtain ⟨w2, hw2⟩ : ∃ w2, w2 = w1.alloc (.mapIter (some mb) R.places.length #[] R.places.length) := ⟨_, rfl⟩
  have IT2 : Hid (IterAt w2 w1.heap.size mb R.places.length []) := hid ⟨by rw [hw2]; exact heap_alloc_new w1 _, by simp, by simp⟩
  have F2 : Hid (Fr [] w w2) := hid (by rw [hw2]; exact F1.out.alloc _)
  rw [← hw2]
  obtain ⟨ib, hib⟩ : ∃ ib, ib = w1.heap.size := ⟨_, rfl⟩
  have hibw : w.heap.size ≤ ib := by rw [hib]; exact F1.out.size
  rw [← hib] at IT2 ⊢
  clear hw2 hib
  go_loopw [3] (fun l wr => ∃ (S : List Nat), IterAt wr ib mb R.places.length S ∧ kI.R 3 wr 0 (fun _ => True) l (S.map (agr R)) ∧ (∀ k, l.ownBlock = some k → w.heap.size ≤ k) ∧ Fr [] w wr) (fun _ wr => R.places.length - (wr.iterSeen ib).size)
  case atStart => exact ⟨[], IT2.out, Kd.R_nil _ _ _ _ _, fun k hk => by simp [Value.ownBlock] at hk, F2.out⟩
  case round =>
    obtain ⟨S, hI, hR, hO, hF⟩ := hrel
    obtain ⟨L, hL⟩ : ∃ L, L = S.map (agr R) := ⟨_, rfl⟩
    rw [← hL] at hR
    have hLl : L.length = S.length := by rw [hL]; simp
    obtain ⟨A7, c7, e7⟩ := Kd.R_slice hR
    subst e7
    have HL := hid hL
    have HLL := hid hLl
    clear hL hLl
    have HIT := hid hI
    have HR := hid hR
    have HO := hid hO
    have HF := hid hF
    have hSl := hI.len
    have hseen := hid hI.seen
    have hmr := hid ((H.out.fr0 hF).map)
    clear hI hR hO hF
    go_wp2_with (at_next; refine wpList_next_place _ rfl _ rfl rfl hlen.out HIT.out hmr.out ?_ ?_)
    · intro hperm
      have HPM := hid hperm
      clear hperm
      have hzl : L.length = R.places.length := by
        rw [HLL.out, HPM.out.length_eq, List.length_range]
      obtain ⟨g, cap, e, hcap, hgl, hH⟩ := holds_R HR.out (by rw [hzl]; omega)
      injection e with e1 e2 e3
      subst e1 e3
      clear e2
      have HH := hid hH
      have SRT := hid (sort_ints g c7 L wr HH.out hgl (by rw [hzl]; omega))
      obtain ⟨Z, hZ⟩ : ∃ Z, Z = L.mergeSort fun x y => decide (x ≤ y) := ⟨_, rfl⟩
      rw [← hZ] at SRT
      have hZ2 := hZ
      rw [HL.out, agr_perm HPM.out] at hZ2
      have HZ := hid hZ2
      have hZl : Z.length = R.places.length := by rw [hZ, List.length_mergeSort, hzl]
      have hgw := HO.out g rfl
      rw [hzl] at SRT ⊢
      have HZL := hid hZl
      clear hZ hZ2 hH hzl hZl
      go_wp2_with (go_at_call 86; refine SRT.out.mono ?_; rintro e w3 ⟨rfl, hz, f3⟩; have HZ3 := hid hz; have F3 := hid (HF.out.trans f3 (fun k hk => by simp at hk; subst hk; exact .inr hgw)); clear hz f3)
      have R3 := hid (H.out.fr0 F3.out)
      obtain ⟨-, -, -, k3, k4, -⟩ := R3.out.c
      obtain ⟨ix, hix⟩ : ∃ ix : Nat, (R.places.length : Int) - R.need = ix := ⟨((R.places.length : Int) - R.need).toNat, by omega⟩
      have hixn : ix < R.places.length := by omega
      have hel := (HZ3.out ix (by rw [HZL.out]; exact hixn)).1
      have hval : Z.getD ix 0 = v0 := by
        rw [HZ.out, ← HV0.out, hix]
        simp
      rw [hval, Nat.zero_add] at hel
      have hw1 : IntKind.i64.wrap ((R.places.length : Int) - R.need) = (ix : Int) := by rw [IntWalk.i64_in _ (by omega)]; exact hix
      have hx0 : (0 : Int) ≤ (ix : Int) := by omega
      have hx1 : (ix : Int) < (R.places.length : Int) := by omega
      have hfz := blk_free R3.out.blk 4
      have HIX := hid hix
      have hrbw : rb < w.heap.size := blk_lt H.out.blk
      clear hix hval
      have hack : R.ack.acked = max R.acked v0 := by
        unfold Reg.Rg.ack
        dsimp only
        rw [HV0.out]
      have HE := hid (ack_end R3.out hack)
      clear hack
      go_wp2_with fail
      go_still_tail 18, (by kernel_rfl)
      change wpList _ _ _ _ _ w3.drew
      go_wp2
      go_end0
      exact ⟨rfl, HE.out.1.fr0 (Fr.refl [] _).drew, ((F3.out.mono (fun _ hx => absurd hx (by simp))).then HE.out.2).drew⟩
    · intro j xn xp ua uv w3 hx hu hI3 f3 hen
      have F3 := hid (HF.out.trans f3 (fun k hk => by simp at hk; subst hk; exact .inr hibw))
      have IT3 := hid hI3
      have HX := hid hx
      have hPJ := (H.out.fr0 F3.out).pl j _ _ hx hu
      have PJ := hid hPJ
      have e1 := cell_of_row w3 ua 1 _ _ _ hPJ.blk
      simp at e1
      have P0 := hid (HP0.out.fr0 F3.out)
      have hlx : xp.log.length ≤ 4000 := HI.out.long _ (List.mem_iff_getElem?.2 ⟨j, hx⟩)
      have hne : ∀ k, (Value.slice A7 L.length c7).ownBlock = some k → k ≠ ib := fun k hk e => by
        obtain ⟨cells, hc⟩ := Kd.R_typed HR.out k hk
        rw [e, HIT.out.blk] at hc
        cases hc
      have R3 := hid (R_fr2 HR.out f3 (fun k hk q hq cells hc => by
        have e : k = ib := by simpa using hk
        rw [e, HIT.out.blk] at hc
        cases hc) (fun k hk hm => hne k hk (by simpa using hm)))
      clear hx hu hI3 f3 hPJ hne
      go_wp2_with fail
      refine (agree_any a0.2 uv f.log xp.log w3 P0.out.row PJ.out.row (by omega) (by omega)).mono ?_
      rintro e w4 ⟨rfl, hd⟩
      have f4 := drawn_fr hd
      obtain ⟨A9, c9, w5, hrun, r9, g9, a9⟩ := int_append (R_fr0 R3.out f4) (by have := HLL.out; omega) ((Reg.pre f.log xp.log : Nat) : Int)
      have HRUN := hid hrun
      have R9 := hid r9
      have F5 := hid ((F3.out.then f4).grown g9 (fun k hk => .inr (HO.out k hk)))
      have O9 : Hid (∀ k, (Value.slice A9 (L.length + 1) c9).ownBlock = some k → w.heap.size ≤ k) := hid (fun k hk => by
        rcases a9 with e | ⟨b, hb, hle⟩
        · rw [e] at hk; exact HO.out k hk
        · rw [hb] at hk; cases hk
          have := (F3.out.then f4).size
          omega)
      have IT5 : Hid (IterAt w5 ib mb R.places.length (S ++ [j])) := hid (by
        refine (IT3.out.fr f4 (by simp)).fr (T := (Value.slice A7 L.length c7).ownBlock.toList) ((Fr.refl _ w4).grown g9 (fun k hk => .inl (by rw [hk]; simp))) ?_
        intro hm
        have hk : (Value.slice A7 L.length c7).ownBlock = some ib := by simpa using hm
        obtain ⟨cells, hc⟩ := Kd.R_typed R3.out ib hk
        rw [IT3.out.blk] at hc
        cases hc)
      have hagr : agr R j = ((Reg.pre f.log xp.log : Nat) : Int) := by
        unfold agr
        rw [HX.out, HFST.out]
      have hslb : S.length < R.places.length := by
        have := IT3.out.len
        simp at this
        omega
      clear hrun r9 g9 a9 hd e1
      go_wp2_with ((with_reducible refine gate_dst (N := 35) rfl ?_); refine step_append (v := .slice A7 L.length c7) (y := .slice (some ⟨w4.heap.size, 0, none⟩) 1 1) (v1 := .slice A9 (L.length + 1) c9) (w1 := w5) rfl (.tmp 27) (.tmp 34) 122 rfl rfl rfl HRUN.out ?_)
      go_roundw
      case rel => exact ⟨S ++ [j], IT5.out, by rw [List.map_append, ← HL.out]; simp only [List.map_cons, List.map_nil]; rw [hagr]; exact R9.out, O9.out, F5.out⟩
      case measure => rw [IT5.out.seen, hseen.out]; simp; omega
theorem nilB (w : World) (a : Option Addr) (n c : Nat) : (binOp .eql 38 (.slice a n c) (.slice none 0 0)).run Tryz.prog w = .ok (.bool a.isNone) w := Lib.run_eql_slice_nil w _ _ a n c 0 0 Tryz.underlying38
theorem nilR (w : World) (a : Option Addr) (n c : Nat) : (binOp .eql 93 (.slice a n c) (.slice none 0 0)).run Tryz.prog w = .ok (.bool a.isNone) w := Lib.run_eql_slice_nil w _ _ a n c 0 0 Tryz.underlying93
attribute [local go_sem] nilB nilR
theorem infoB : (Tryz.prog.info? 112).map (fun i => (i.zero, i.size, i.bytes)) = some (some (.agg #[.int .i64 0, .string ⟨#[]⟩]), 2, 24) := by kernel_rfl
def zRc : Value := .agg #[.slice none 0 0, .int .i64 0, .slice none 0 0, .int .i64 0, .int .i64 0]
theorem infoR : (Tryz.prog.info? 108).map (fun i => (i.zero, i.size, i.bytes)) = some (some zRc, 5, 72) := by kernel_rfl
section
variable (A : Option Addr) (c : Nat) (w : World)
set_option maxRecDepth 100000 in
theorem clone_blobs (xs : List BL) (h : kB.C w A xs.length xs) (hl : xs.length ≤ 1000000) :
    Calls Tryz.prog 88 #[.slice A xs.length c] w (Cloned kB 112 A xs w) := by
  have H := hid h
  clear h
  cases A with
  | none =>
    obtain rfl : xs = [] := nil_of_C H.out
    go_enter Tryz.func88, Tryz.ntmps88
    go_wp2
    go_ret
    exact ⟨_, rfl, Kd.R_nil _ _ _ _ _, Fr.refl _ _, fun k hk => by simp [Value.ownBlock] at hk, fun _ => rfl⟩
  | some ad =>
    go_enter Tryz.func88, Tryz.ntmps88
    go_wp2_with (at_builtin; refine Kd.R_append_rows kB (w0 := w) 0 rfl _ _ 38 112 _ 24 rfl Tryz.underlying38 infoB rfl (by decide) (by decide) _ [] xs (some ad) xs.length c (fun _ => True) (fun k => some k ≠ (Value.slice (some ⟨w.heap.size, 0, none⟩) 0 0).ownBlock) rfl rfl (lit_empty _ _ _) (Kd.C_alloc H.out _) (fun _ _ h => h) (fun _ hk => ⟨trivial, hk⟩) (fun _ _ => trivial) ?c1 (Nat.zero_le _) ?c2 ?_)
    case c1 => exact (((Fr.refl [] w).alloc _).below (Nat.zero_le _) (by simp))
    case c2 => simp; omega
    intro v1 w1 r1 b1 g1 a1
    go_wp2
    go_ret
    have := Cloned.mk (ad := ad) (v := v1) r1 b1 g1 a1
    exact this
end
def logV (x : LO) (v0 v2 : Value) : Value := .agg #[v0, .int .i64 x.f1, v2, .int .i64 x.f3]
structure LogOk (x : LO) : Prop where
  d : ∀ y ∈ x.f0, DeedOk y
  l0 : x.f0.length ≤ 100000
  l2 : x.f2.length ≤ 1000000
def Copied (x : LO) (w : World) (e : Ending) (w' : World) : Prop :=
  ∃ v0 v2, e = .returned (logV x v0 v2) ∧ kD.R 135 w' 0 (fun _ => True) v0 x.f0 ∧ kB.R 112 w' 0 (fun _ => True) v2 x.f2 ∧ Fr [] w w' ∧ (∀ k, v0.ownBlock = some k → w.heap.size ≤ k) ∧ ∀ k, v2.ownBlock = some k → w.heap.size ≤ k
theorem results_row1 {P : Program} {fn : Func} {p : Tmp} {ty : TypeId} (h : fn.results = #[.cell p ty]) (tmps : Array Value) (w : World) (g : Nat) (t : TypeId) (cs : Array Value) (fr : Nat × Nat) (d : TypeDesc)
    (hp : tmps.getD p undef = .pointer (some ⟨g, 0, none⟩)) (hg : w.heap[g]? = some (.cells cs t fr))
    (hu : P.underlying ty = some d) (hd : (match d with | .struct _ | .array _ _ => true | _ => false) = true) (hi : (P.info? ty).map (·.size) = some cs.size) :
    (results fn tmps).run P w = .ok (.agg cs) w := by
  have hl := run_loadVar_row w g t ty cs fr d hg hu hd hi
  simp only [results, h]
  simp only [Array.getD_eq_getD_getElem?] at hp
  simp [hp, asAddr, hl]
theorem logBox {w : World} {b : Nat} {o0 o1 o2 o3 : Value} (h : w.heap[b]? = some (.cells #[o0, o1, o2, o3] 40 (0, 0))) (v0 v1 v2 v3 : Value) :
    ((((w.setCell ⟨b, 0, none⟩ v0).setCell ⟨b, 1, none⟩ v1).setCell ⟨b, 2, none⟩ v2).setCell ⟨b, 3, none⟩ v3).heap[b]? = some (.cells #[v0, v1, v2, v3] 40 (0, 0)) ∧
    Fr [b] w ((((w.setCell ⟨b, 0, none⟩ v0).setCell ⟨b, 1, none⟩ v1).setCell ⟨b, 2, none⟩ v2).setCell ⟨b, 3, none⟩ v3) := by
  constructor
  · have p := blk_setCell (blk_setCell (blk_setCell (blk_setCell h 0 v0) 1 v1) 2 v2) 3 v3
    simp only [List.setIfInBounds_toArray, List.set_cons_succ, List.set_cons_zero] at p
    exact p
  · exact ((((Fr.refl [b] w).setCell (p := ⟨b, 0, none⟩) (.inl (List.mem_singleton.2 rfl)) v0).setCell (p := ⟨b, 1, none⟩) (.inl (List.mem_singleton.2 rfl)) v1).setCell (p := ⟨b, 2, none⟩) (.inl (List.mem_singleton.2 rfl)) v2).setCell (p := ⟨b, 3, none⟩) (.inl (List.mem_singleton.2 rfl)) v3
theorem log_apart {w w' : World} {b : Nat} {cs : Array Value} {v0 v2 : Value} {x : LO} (B : w.heap[b]? = some (.cells cs 40 (0, 0))) (r0 : kD.R 135 w 0 (fun _ => True) v0 x.f0) (r2 : kB.R 112 w 0 (fun _ => True) v2 x.f2) (g : Fr [b] w w') :
    kD.R 135 w' 0 (fun _ => True) v0 x.f0 ∧ kB.R 112 w' 0 (fun _ => True) v2 x.f2 := by
  have hE : ∀ q ∈ kRc.E, q ≠ 40 := fun q hq => by
    have := kRc_E hq
    simp at this
    rcases this with rfl | rfl | rfl | rfl <;> decide
  have hD : ∀ q ∈ kD.E, q ∈ kRc.E := fun q hq => by simp [kRc, kLo, kD, Kd.iso, Kd.pair, Kd.int, Kd.string, Kd.scalar, ros, k192, k112] at hq ⊢; omega
  refine ⟨R_fr2 r0 g (NoT.one B fun q hq => hE q (hD q hq)) ?_, R_fr2 r2 g (NoT.one B (by
    intro q hq
    simp [k112, Kd.iso, Kd.pair, Kd.int, Kd.string, Kd.scalar] at hq)) ?_⟩
  · intro k hk hm
    obtain ⟨cells, hc⟩ := Kd.R_typed r0 k hk
    simp at hm
    subst hm
    rw [B] at hc
    injection hc with hc; injection hc with _ hc; exact absurd hc (by decide)
  · intro k hk hm
    obtain ⟨cells, hc⟩ := Kd.R_typed r2 k hk
    simp at hm
    subst hm
    rw [B] at hc
    injection hc with hc; injection hc with _ hc; exact absurd hc (by decide)
theorem logbox_end {wr w3 : World} {b : Nat} {x : LO} {v0 v2 u0 u2 : Value} (B : w3.heap[b]? = some (.cells #[v0, .int .i64 x.f1, v2, .int .i64 x.f3] 40 (0, 0)))
    (r0 : kD.R 135 w3 0 (fun _ => True) u0 x.f0) (r2 : kB.R 112 w3 0 (fun _ => True) u2 x.f2) (f : Fr [] wr w3) (hb : wr.heap.size ≤ b) :
    Fr [] wr ((w3.setCell ⟨b, 0, none⟩ u0).setCell ⟨b, 2, none⟩ u2) ∧
    kD.R 135 ((w3.setCell ⟨b, 0, none⟩ u0).setCell ⟨b, 2, none⟩ u2) 0 (fun _ => True) u0 x.f0 ∧
    kB.R 112 ((w3.setCell ⟨b, 0, none⟩ u0).setCell ⟨b, 2, none⟩ u2) 0 (fun _ => True) u2 x.f2 ∧
    ((w3.setCell ⟨b, 0, none⟩ u0).setCell ⟨b, 2, none⟩ u2).heap[b]? = some (.cells #[u0, .int .i64 x.f1, u2, .int .i64 x.f3] 40 (0, 0)) := by
  have g : Fr [b] w3 ((w3.setCell ⟨b, 0, none⟩ u0).setCell ⟨b, 2, none⟩ u2) := ((Fr.refl _ _).setCell (.inl (by simp)) _).setCell (.inl (by simp)) _
  obtain ⟨e0, e2⟩ := log_apart B r0 r2 g
  refine ⟨f.trans g (fun z hz => .inr (by simp at hz; omega)), e0, e2, ?_⟩
  · have h1 := blk_setCell B 0 u0
    simp only [List.setIfInBounds_toArray, List.set_cons_zero] at h1
    have h2 := blk_setCell h1 2 u2
    simp only [List.setIfInBounds_toArray, List.set_cons_succ, List.set_cons_zero] at h2
    exact h2
set_option maxRecDepth 100000 in
set_option maxHeartbeats 4000000 in
theorem copied_any (x : LO) (A0 : Option Addr) (c0 : Nat) (A2 : Option Addr) (c2 : Nat) (w : World) (h0 : Kd.C k135 w A0 x.f0.length x.f0) (h2 : kB.C w A2 x.f2.length x.f2) (hok : LogOk x) :
    Calls Tryz.prog 52 #[logV x (.slice A0 x.f0.length c0) (.slice A2 x.f2.length c2)] w (Copied x w) := by
  have H0 := hid h0
  have H2 := hid h2
  have OK := hid hok
  have F0 := hid (((Fr.refl [] w).alloc (.cells #[.slice A0 x.f0.length c0, .int .i64 x.f1, .slice A2 x.f2.length c2, .int .i64 x.f3] 40)).alloc (.cells #[.slice none 0 0, .int .i64 0, .slice none 0 0, .int .i64 0] 40))
  clear h0 h2 hok
  unfold logV
  go_enter Tryz.func52, Tryz.ntmps52
  go_wp2_with fail
  have b0 : (((w.alloc (.cells #[.slice A0 x.f0.length c0, .int .i64 x.f1, .slice A2 x.f2.length c2, .int .i64 x.f3] 40)).alloc (.cells #[.slice none 0 0, .int .i64 0, .slice none 0 0, .int .i64 0] 40)).heap[w.heap.size]? = some (.cells #[.slice A0 x.f0.length c0, .int .i64 x.f1, .slice A2 x.f2.length c2, .int .i64 x.f3] 40 (0, 0))) := ((Fr.refl [] _).alloc _).blk (heap_alloc_new w _) (by simp)
  have b1 : (((w.alloc (.cells #[.slice A0 x.f0.length c0, .int .i64 x.f1, .slice A2 x.f2.length c2, .int .i64 x.f3] 40)).alloc (.cells #[.slice none 0 0, .int .i64 0, .slice none 0 0, .int .i64 0] 40)).heap[w.heap.size + 1]? = some (.cells #[.slice none 0 0, .int .i64 0, .slice none 0 0, .int .i64 0] 40 (0, 0))) := by
    have := heap_alloc_new (w.alloc (.cells #[.slice A0 x.f0.length c0, .int .i64 x.f1, .slice A2 x.f2.length c2, .int .i64 x.f3] 40)) (.cells #[.slice none 0 0, .int .i64 0, .slice none 0 0, .int .i64 0] 40)
    simpa using this
  generalize ((w.alloc (.cells #[.slice A0 x.f0.length c0, .int .i64 x.f1, .slice A2 x.f2.length c2, .int .i64 x.f3] 40)).alloc (.cells #[.slice none 0 0, .int .i64 0, .slice none 0 0, .int .i64 0] 40)) = w1 at F0 b0 b1 ⊢
  have a0 := cell_of_row w1 w.heap.size 0 _ _ _ b0
  have a2 := cell_of_row w1 w.heap.size 2 _ _ _ b0
  simp at a0 a2
  have B0 := hid b0
  have B1 := hid b1
  clear b0 b1
  refine (fun (KEY : Hid (∀ w4 A5 c5 A7 c7, Fr [] w w4 → kD.R 135 w4 0 (fun _ => True) (.slice A5 x.f0.length c5) x.f0 → kB.R 112 w4 0 (fun _ => True) (.slice A7 x.f2.length c7) x.f2 → (∀ k, (Value.slice A5 x.f0.length c5).ownBlock = some k → w.heap.size ≤ k) → (∀ k, (Value.slice A7 x.f2.length c7).ownBlock = some k → w.heap.size ≤ k) → w4.heap[w.heap.size]? = some (.cells #[(.slice A5 x.f0.length c5), .int .i64 x.f1, (.slice A7 x.f2.length c7), .int .i64 x.f3] 40 (0, 0)) → w4.heap[w.heap.size + 1]? = some (.cells #[.slice none 0 0, .int .i64 0, .slice none 0 0, .int .i64 0] 40 (0, 0)) → (?KEYP : World → Option Addr → Nat → Option Addr → Nat → Prop) w4 A5 c5 A7 c7)) => ?main) ?key
  case main =>
    go_region_with (first
      | (go_at_call 87; refine (copyDeeds_any A0 c0 x.f0 _ (Kd.C_below H0.out F0.out.drew.below0) OK.out.d OK.out.l0).mono ?_; rintro e w2 ⟨u0, rfl, r0, f2, o0⟩; obtain ⟨A5, c5, rfl⟩ := Kd.R_slice r0; have F2 := hid (F0.out.drew.then f2); have R0 := hid r0; have O0 := hid (fun k hk => Nat.le_trans F0.out.drew.size (o0 k hk)); have c2' := (Fr.refl [] w1).drew.blk B0.out (by simp); have d2 := f2.blk c2' (by simp); have D2 := hid d2; have E2 := hid (f2.blk ((Fr.refl [] w1).drew.blk B1.out (by simp)) (by simp)); have t2 := cell_of_row w2 w.heap.size 2 _ _ _ d2; simp at t2; clear f2 r0 o0 d2 c2')
      | (go_at_call 88; refine (clone_blobs A2 c2 _ x.f2 (Kd.C_below H2.out F2.out.below0) OK.out.l2).mono ?_; rintro e w3 ⟨u2, rfl, r2, f3, o2, -⟩; obtain ⟨A7, c7, rfl⟩ := Kd.R_slice r2; have F3 := hid (F2.out.then f3); have R0' := hid (R_fr0 R0.out f3); have R2 := hid r2; have O2 := hid (fun k hk => Nat.le_trans F2.out.size (o2 k hk)); have b3 := f3.blk D2.out (by simp); have B3 := hid b3; have E3 := hid (f3.blk E2.out (by simp)); have s0 := cell_of_row w3 w.heap.size 0 _ _ _ b3; have s2 := cell_of_row w3 w.heap.size 2 _ _ _ b3; have z0 := blk_free b3 0; have z2 := blk_free b3 2; simp at s0 s2; clear f3 r2 o2 b3))
    all_goals
      obtain ⟨e1, e2, e3, e4⟩ := logbox_end B3.out R0'.out R2.out F3.out (Nat.le_refl _)
      have e5 : ((w3.setCell ⟨w.heap.size, 0, none⟩ (.slice A5 x.f0.length c5)).setCell ⟨w.heap.size, 2, none⟩ (.slice A7 x.f2.length c7)).heap[w.heap.size + 1]? = some (.cells #[.slice none 0 0, .int .i64 0, .slice none 0 0, .int .i64 0] 40 (0, 0)) := (((Fr.refl [w.heap.size] w3).setCell (.inl (by simp)) _).setCell (.inl (by simp)) _).blk E3.out (by simp)
      generalize (w3.setCell ⟨w.heap.size, 0, none⟩ (.slice A5 x.f0.length c5)).setCell ⟨w.heap.size, 2, none⟩ (.slice A7 x.f2.length c7) = w4 at e1 e2 e3 e4 e5
      exact KEY.out w4 A5 c5 A7 c7 e1 e2 e3 O0.out O2.out e4 e5
  refine hid (fun w4 A5 c5 A7 c7 f4 r0 r2 o0 o2 b4 b5 => ?_)
  have n0 := cell_of_row w4 w.heap.size 0 _ _ _ b4
  have n1 := cell_of_row w4 w.heap.size 1 _ _ _ b4
  have n2 := cell_of_row w4 w.heap.size 2 _ _ _ b4
  have n3 := cell_of_row w4 w.heap.size 3 _ _ _ b4
  have m0 := cell_of_row w4 (w.heap.size + 1) 0 _ _ _ b5
  have m1 := cell_of_row w4 (w.heap.size + 1) 1 _ _ _ b5
  have m2 := cell_of_row w4 (w.heap.size + 1) 2 _ _ _ b5
  have m3 := cell_of_row w4 (w.heap.size + 1) 3 _ _ _ b5
  have z0 := blk_free b5 0
  have z1 := blk_free b5 1
  have z2 := blk_free b5 2
  have z3 := blk_free b5 3
  have F4 := hid f4
  have R0 := hid r0
  have R2 := hid r2
  have O0 := hid o0
  have O2 := hid o2
  have B5 := hid b5
  simp at n0 n1 n2 n3 m0 m1 m2 m3
  clear r0 r2 f4 o0 o2 b4 b5
  go_wp2
  obtain ⟨b6, g6⟩ := logBox B5.out (.slice A5 x.f0.length c5) (.int .i64 x.f1) (.slice A7 x.f2.length c7) (.int .i64 x.f3)
  obtain ⟨r6, r7⟩ := log_apart (x := x) B5.out R0.out R2.out g6
  have f6 : Fr [] w _ := F4.out.trans g6 (fun z hz => .inr (by simp at hz; omega))
  refine bodyPost_ret (results_row1 (fn := Tryz.f52) (p := 2) rfl _ _ (w.heap.size + 1) 40 _ (0, 0) _ rfl b6 Tryz.underlying40 rfl (by kernel_rfl)) rfl ?_
  exact ⟨_, _, rfl, r6, r7, f6, O0.out, O2.out⟩
end Go.Proofs.YtkolnoadeihmoaaGreat
