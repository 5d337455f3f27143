/-
  Regions cloned.
-/
import Derived.Test.YtkolnoadeihmoaaGreatKd16
import Derived.Test.YtkolnoadeihmoaaGreatKd17
import Derived.Test.YtkolnoadeihmoaaGreatKd18
namespace Go.Proofs.YtkolnoadeihmoaaGreat
open Go.RowKit Go.Proofs.YtkolnoadeihmoaaGreatW.PrintWords
theorem PlAt.frm {w w' : World} {pb mb n : Nat} {v : Value} {p : RP} {es : Array MapEntry} (h : PlAt w pb v p) (f : Fr [mb] w w') (hm : w.heap[mb]? = some (.map es n)) : PlAt w' pb v p := by
  refine ⟨f.blk h.blk (fun hx => ?_), R_fr2 h.row f ?_ (fun k hk hx => ?_)⟩
  · obtain rfl : pb = mb := by simpa using hx
    rw [h.blk] at hm
    cases hm
  · intro b hb q hq cs hc
    obtain rfl : b = mb := by simpa using hb
    rw [hm] at hc
    cases hc
  · obtain rfl : k = mb := by simpa using hx
    obtain ⟨cells, hc⟩ := Kd.R_typed h.row k hk
    rw [hm] at hc
    cases hc
theorem PlAt.lt {w : World} {pb : Nat} {v : Value} {p : RP} (h : PlAt w pb v p) : pb < w.heap.size ∧ ∀ k, v.ownBlock = some k → k < w.heap.size :=
  ⟨blk_lt h.blk, fun k hk => by obtain ⟨cells, hc⟩ := Kd.R_typed h.row k hk; exact blk_lt hc⟩
structure CopyAt (w0 : Nat) (w : World) (mb : Nat) (acc : List (ByteArray × RP)) (us : List (Nat × Value)) : Prop where
  map : w.heap[mb]? = some (.map (rowsM 0 acc us).toArray acc.length)
  len : us.length = acc.length
  pl : ∀ (i : Nat) (x : ByteArray × RP) (a : Nat × Value), acc[i]? = some x → us[i]? = some a → PlAt w a.1 a.2 x.2
  ne : ∀ (i j : Nat) (a b : Nat × Value), us[i]? = some a → us[j]? = some b → i ≠ j → a.1 ≠ b.1
  own : ∀ (i j : Nat) (a b : Nat × Value) (k : Nat), us[i]? = some a → us[j]? = some b → i ≠ j → a.2.ownBlock = some k → b.2.ownBlock ≠ some k
  low : ∀ (i : Nat) (a : Nat × Value), us[i]? = some a → w0 ≤ a.1 ∧ ∀ k, a.2.ownBlock = some k → w0 ≤ k
theorem CopyAt.fr0 {w0 : Nat} {w w' : World} {mb : Nat} {acc : List (ByteArray × RP)} {us : List (Nat × Value)} (h : CopyAt w0 w mb acc us) (f : Fr [] w w') : CopyAt w0 w' mb acc us :=
  ⟨f.blk h.map (by simp), h.len, fun i x a hx ha => (h.pl i x a hx ha).fr0 f, h.ne, h.own, h.low⟩
theorem CopyAt.iter {w0 : Nat} {w w' : World} {mb ib n : Nat} {m : Option Nat} {S : Array Nat} {k : Nat} {acc : List (ByteArray × RP)} {us : List (Nat × Value)} (h : CopyAt w0 w mb acc us) (f : Fr [ib] w w') (hi : w.heap[ib]? = some (.mapIter m n S k)) : CopyAt w0 w' mb acc us := by
  refine ⟨f.blk h.map (fun hx => ?_), h.len, fun i x a hx ha => ?_, h.ne, h.own, h.low⟩
  · obtain rfl : mb = ib := by simpa using hx
    have := h.map
    rw [hi] at this
    cases this
  · have hp := h.pl i x a hx ha
    refine ⟨f.blk hp.blk (fun hx => ?_), R_fr2 hp.row f ?_ (fun k hk hx => ?_)⟩
    · have e : a.1 = ib := by simpa using hx
      have := hp.blk
      rw [e, hi] at this
      cases this
    · intro b hb q hq cs hc
      have e : b = ib := by simpa using hb
      rw [e, hi] at hc
      cases hc
    · have e : k = ib := by simpa using hx
      obtain ⟨cells, hc⟩ := Kd.R_typed hp.row k hk
      rw [e, hi] at hc
      cases hc
theorem CopyAt.put {w0 : Nat} {w w2 : World} {mb : Nat} {acc : List (ByteArray × RP)} {us : List (Nat × Value)} {s : ByteArray} {p : RP} {v : Value} (h : CopyAt w0 w mb acc us) (hl : Reg.lookIn acc s = none) (f : Fr [] w w2) (hw : w0 ≤ w.heap.size)
    (hr : kRc.R 108 w2 0 (fun _ => True) v p.log) (ho : ∀ k, v.ownBlock = some k → w.heap.size ≤ k) :
    ∃ w', (Instr.mapUpdate 85 (.map (some mb)) (.string s) (.pointer (some ⟨w2.heap.size, 0, none⟩))).run Tryz.prog (w2.alloc (.cells #[.bool p.up, v] 95)) = .ok () w' ∧ CopyAt w0 w' mb (acc ++ [(s, p)]) (us ++ [(w2.heap.size, v)]) ∧ Fr [mb] w2 w' := by
  have f0 : Fr [] w2 (w2.alloc (.cells #[.bool p.up, v] 95)) := (Fr.refl [] w2).alloc _
  have h2 := h.fr0 f
  have h0 := h2.fr0 f0
  have hb := heap_alloc_new w2 (.cells #[.bool p.up, v] 95)
  have hml := blk_lt h2.map
  have f1 : Fr [mb] (w2.alloc (.cells #[.bool p.up, v] 95)) { (w2.alloc (.cells #[.bool p.up, v] 95)) with heap := (w2.alloc (.cells #[.bool p.up, v] 95)).heap.setIfInBounds mb (.map ((rowsM 0 acc us).toArray.push { key := .string s, val := .pointer (some ⟨w2.heap.size, 0, none⟩), born := acc.length }) (acc.length + 1)) } :=
    ⟨rfl, rfl, rfl, by simp, fun k hk hS => by
      simp only [List.mem_singleton] at hS
      simp [Ne.symm hS]⟩
  have hs := f.size
  have hd : ∀ (i : Nat) (a : Nat × Value), (us ++ [(w2.heap.size, v)])[i]? = some a → (i < us.length ∧ us[i]? = some a ∧ a.1 < w.heap.size ∧ ∀ k, a.2.ownBlock = some k → k < w.heap.size) ∨ (i = us.length ∧ a = (w2.heap.size, v)) := by
    intro i a ha
    by_cases hi : i < us.length
    · rw [List.getElem?_append_left hi] at ha
      obtain ⟨x, hx⟩ : ∃ x, acc[i]? = some x := ⟨_, List.getElem?_eq_getElem (by rw [← h.len]; exact hi)⟩
      exact .inl ⟨hi, ha, (h.pl i x a hx ha).lt⟩
    · have hl1 := (List.getElem?_eq_some_iff.1 ha).1
      simp at hl1
      obtain rfl : i = us.length := by omega
      simp at ha
      exact .inr ⟨rfl, ha.symm⟩
  refine ⟨_, run_insert _ _ 9 92 mb _ _ s _ Tryz.underlying85 Tryz.underlying9 h0.map (rows_none 0 0 hl), ⟨?_, ?_, ?_, ?_, ?_, ?_⟩, (f0.mono (by simp)).then f1⟩
  · have hlt : mb < (w2.alloc (.cells #[.bool p.up, v] 95)).heap.size := blk_lt h0.map
    rw [heap_set hlt, rows_append 0 h.len]
    simp
  · simp [h.len]
  · intro i x a hx ha
    have e : us.length = acc.length := h.len
    rcases hd i a ha with ⟨h1, h2', -, -⟩ | ⟨h1, rfl⟩
    · rw [List.getElem?_append_left (by omega)] at hx
      exact (h0.pl i x a hx h2').frm f1 h0.map
    · rw [h1, e] at hx
      simp at hx
      subst hx
      exact PlAt.frm ⟨hb, R_fr0 hr f0⟩ f1 h0.map
  · intro i j a b ha hb' hij
    rcases hd i a ha with ⟨h1, h2', h3, -⟩ | ⟨h1, rfl⟩ <;> rcases hd j b hb' with ⟨g1, g2, g3, -⟩ | ⟨g1, rfl⟩
    · exact h.ne i j a b h2' g2 hij
    · simp; omega
    · simp; omega
    · omega
  · intro i j a b k ha hb' hij hk hkb
    rcases hd i a ha with ⟨h1, h2', -, h4⟩ | ⟨h1, rfl⟩ <;> rcases hd j b hb' with ⟨g1, g2, -, g4⟩ | ⟨g1, rfl⟩
    · exact h.own i j a b k h2' g2 hij hk hkb
    · have := h4 k hk
      have := ho k hkb
      omega
    · have := g4 k hkb
      have := ho k hk
      omega
    · omega
  · intro i a ha
    rcases hd i a ha with ⟨-, h2', -⟩ | ⟨-, rfl⟩
    · exact h.low i a h2'
    · exact ⟨by simp; omega, fun k hk => Nat.le_trans hw (ho k hk)⟩
def metBy (R : RG) (S : List Nat) : List (ByteArray × RP) := S.filterMap (R.places[·]?)
theorem met_snoc {R : RG} {S : List Nat} {j : Nat} {x : ByteArray × RP} (hx : R.places[j]? = some x) : metBy R (S ++ [j]) = metBy R S ++ [x] := by
  unfold metBy
  rw [List.filterMap_append]
  simp [hx]
theorem met_all {R : RG} {S : List Nat} (h : S.Perm (List.range R.places.length)) : (metBy R S).Perm R.places := by
  have h1 : (metBy R S).Perm (metBy R (List.range R.places.length)) := h.filterMap _
  have h2 : metBy R (List.range R.places.length) = R.places := by
    unfold metBy
    have : ∀ l : List (ByteArray × RP), (List.range l.length).filterMap (l[·]?) = l := by
      intro l
      induction l with
      | nil => rfl
      | cons a r ih =>
        rw [List.length_cons, List.range_succ_eq_map, List.filterMap_cons]
        simp only [List.getElem?_cons_zero, List.filterMap_map]
        congr 1
    exact this _
  rw [h2] at h1
  exact h1
theorem met_new {R : RG} {S : List Nat} {j : Nat} {x : ByteArray × RP} (hn : (R.places.map (·.1)).Nodup) (hj : j ∉ S) (hx : R.places[j]? = some x) : Reg.lookIn (metBy R S) x.1 = none := by
  cases hl : Reg.lookIn (metBy R S) x.1 with
  | none => rfl
  | some p =>
    exfalso
    have hm := Reg.look_mem hl
    unfold metBy at hm
    obtain ⟨i, hi, hp⟩ := List.mem_filterMap.1 hm
    have e1 : (R.places.map (·.1))[i]? = some x.1 := by rw [List.getElem?_map, hp]; rfl
    have e2 : (R.places.map (·.1))[j]? = some x.1 := by rw [List.getElem?_map, hx]; rfl
    obtain ⟨l1, e1⟩ := List.getElem?_eq_some_iff.1 e1
    obtain ⟨l2, e2⟩ := List.getElem?_eq_some_iff.1 e2
    have := (List.getElem_inj hn).1 (e1.trans e2.symm)
    subst this
    exact hj hi
def Cloned2 (R : RG) (w : World) (e : Ending) (w' : World) : Prop :=
  ∃ rb mb us R', e = .returned (.pointer (some ⟨rb, 0, none⟩)) ∧ RegAt w' rb mb us R' ∧ Reg.Perm R R' ∧ Fr [] w w' ∧ ∀ b ∈ blks rb us, w.heap.size ≤ b
theorem CopyAt.regs {w0 : Nat} {w : World} {rb mb : Nat} {us : List (Nat × Value)} {R : RG} {ps : List (ByteArray × RP)} (h : CopyAt w0 w mb ps us)
    (hb : w.heap[rb]? = some (.cells #[.map (some mb), .string R.primary, .int .i64 R.epoch, .int .i64 R.need, .int .i64 R.acked, .int .i64 R.records] 87 (0, 0))) : RegAt w rb mb us { R with places := ps } :=
  ⟨hb, h.map, h.len, h.pl, h.ne, h.own⟩
theorem CopyAt.blks {w0 : Nat} {w : World} {rb mb : Nat} {us : List (Nat × Value)} {ps : List (ByteArray × RP)} (h : CopyAt w0 w mb ps us) (hr : w0 ≤ rb) : ∀ b ∈ blks rb us, w0 ≤ b := by
  intro b hb
  unfold Go.Proofs.YtkolnoadeihmoaaGreat.blks at hb
  rcases List.mem_cons.1 hb with rfl | hb
  · exact hr
  · obtain ⟨a, ha, hm⟩ := List.mem_flatMap.1 hb
    obtain ⟨i, hi⟩ := List.mem_iff_getElem?.1 ha
    obtain ⟨h1, h2⟩ := h.low i a hi
    rcases List.mem_cons.1 hm with rfl | hm
    · exact h1
    · exact h2 b (by simpa using hm)
set_option maxRecDepth 100000 in
set_option maxHeartbeats 4000000 in
theorem clone_any (rb mb : Nat) (us : List (Nat × Value)) (R : RG) (w : World) (h : RegAt w rb mb us R) (hi : Reg.Inv R) :
    Calls Tryz.prog 18 #[.pointer (some ⟨rb, 0, none⟩)] w (Cloned2 R w) := by
  have H := hid h
  have HI := hid hi
  obtain ⟨c0, c1, c2, c3, c4, c5⟩ := h.c
  have hmm := @run_makeMap Tryz.prog
  clear h hi
  go_enter Tryz.func18, Tryz.ntmps18
  go_wp2_with fail
  refine (none_no rb mb _ c0).mono ?_
  rintro e w' ⟨rfl, rfl⟩
  have hmap := H.out.map
  have BC := hid (show ((w.alloc (.cells #[.map (some (w.heap.size + 1)), .string R.primary, .int .i64 R.epoch, .int .i64 R.need, .int .i64 R.acked, .int .i64 R.records] 87)).alloc (.map #[] 0)).heap[w.heap.size]? = some (.cells #[.map (some (w.heap.size + 1)), .string R.primary, .int .i64 R.epoch, .int .i64 R.need, .int .i64 R.acked, .int .i64 R.records] 87 (0, 0)) from ((Fr.refl [] _).alloc _).blk (heap_alloc_new w _) (by simp))
  have MC : Hid (((w.alloc (.cells #[.map (some (w.heap.size + 1)), .string R.primary, .int .i64 R.epoch, .int .i64 R.need, .int .i64 R.acked, .int .i64 R.records] 87)).alloc (.map #[] 0)).heap[w.heap.size + 1]? = some (.map #[] 0)) := hid (by
    have := (MapKept.heap_alloc (w.alloc (.cells #[.map (some (w.heap.size + 1)), .string R.primary, .int .i64 R.epoch, .int .i64 R.need, .int .i64 R.acked, .int .i64 R.records] 87)) (.map #[] 0)).1
    simpa using this)
  have FC : Hid (Fr [] w ((w.alloc (.cells #[.map (some (w.heap.size + 1)), .string R.primary, .int .i64 R.epoch, .int .i64 R.need, .int .i64 R.acked, .int .i64 R.records] 87)).alloc (.map #[] 0))) := hid (((Fr.refl [] w).alloc _).alloc _)
  have k0 := FC.out.cell0 c0
  have SZ : Hid (((w.alloc (.cells #[.map (some (w.heap.size + 1)), .string R.primary, .int .i64 R.epoch, .int .i64 R.need, .int .i64 R.acked, .int .i64 R.records] 87)).alloc (.map #[] 0)).heap.size = w.heap.size + 1 + 1) := hid (by simp)
  have hrange := run_range_map (P := Tryz.prog) ((w.alloc (.cells #[.map (some (w.heap.size + 1)), .string R.primary, .int .i64 R.epoch, .int .i64 R.need, .int .i64 R.acked, .int .i64 R.records] 87)).alloc (.map #[] 0)) 85 9 92 mb _ _ Tryz.underlying85 (FC.out.blk hmap (by simp))
  clear hmap
  go_wp2
  clear hmm hrange k0 c0 c1 c2 c3 c4 c5
  generalize ((w.alloc (.cells #[.map (some (w.heap.size + 1)), .string R.primary, .int .i64 R.epoch, .int .i64 R.need, .int .i64 R.acked, .int .i64 R.records] 87)).alloc (.map #[] 0)) = w1 at FC MC BC SZ ⊢
  have FN : Hid (Fr [] w1 (w1.alloc (.mapIter (some mb) R.places.length #[] R.places.length))) := hid ((Fr.refl [] w1).alloc _)
  have IT2 : Hid (IterAt (w1.alloc (.mapIter (some mb) R.places.length #[] R.places.length)) w1.heap.size mb R.places.length []) := hid ⟨heap_alloc_new w1 _, by simp, by simp⟩
  generalize w1.alloc (.mapIter (some mb) R.places.length #[] R.places.length) = w2 at FN IT2 ⊢
  rw [SZ.out] at IT2
  obtain ⟨ib, hib⟩ : ∃ ib, ib = w.heap.size + 1 + 1 := ⟨_, rfl⟩
  rw [← hib] at IT2 ⊢
  have HZ := hid hib
  have F2 := hid (FC.out.then FN.out)
  have BC2 := hid (FN.out.blk BC.out (by simp))
  have MC2 := hid (FN.out.blk MC.out (by simp))
  clear hib BC MC FC FN SZ
  go_loopw [4, 5] (fun _ _ wr => ∃ (S : List Nat) (us2 : List (Nat × Value)), IterAt wr ib mb R.places.length S ∧ CopyAt w.heap.size wr (w.heap.size + 1) (metBy R S) us2 ∧ wr.heap[w.heap.size]? = some (.cells #[.map (some (w.heap.size + 1)), .string R.primary, .int .i64 R.epoch, .int .i64 R.need, .int .i64 R.acked, .int .i64 R.records] 87 (0, 0)) ∧ Fr [] w wr) (fun _ _ wr => R.places.length - (wr.iterSeen ib).size)
  case atStart => exact ⟨[], [], IT2.out, ⟨MC2.out, rfl, by simp, by simp, by simp, by simp⟩, BC2.out, F2.out⟩
  case round =>
    obtain ⟨S, us2, hI, hC, hB, hF⟩ := hrel
    have HIT := hid hI
    have HC := hid hC
    have HB := hid hB
    have HF := hid hF
    have hseen := hid hI.seen
    have hmr := hid ((H.out.fr0 hF).map)
    have hlen := hid H.out.len
    clear hI hC hB hF
    go_wp2_with (at_next; refine wpList_next_place _ rfl _ rfl rfl hlen.out HIT.out hmr.out ?_ ?_)
    · intro hperm
      have HPM := hid hperm
      clear hperm
      go_wp2
      go_ret
      exact ⟨_, _, us2, _, rfl, HC.out.regs HB.out, ⟨(met_all HPM.out).symm, rfl, rfl, rfl, rfl, rfl⟩, HF.out, HC.out.blks (Nat.le_refl _)⟩
    · intro j xn xp ua uv w3 hx hu hI3 f3 hen
      have hibw : w.heap.size ≤ ib := by have := HZ.out; omega
      have F3 := hid (HF.out.trans f3 (fun k hk => by simp at hk; subst hk; exact .inr hibw))
      have IT3 := hid hI3
      have HX := hid hx
      have hPJ := (H.out.fr0 F3.out).pl j _ _ hx hu
      have HC3 := hid (HC.out.iter f3 HIT.out.blk)
      have HB3 := hid (f3.blk HB.out (by have := HZ.out; simp; omega))
      obtain ⟨A3, c3, e3⟩ := Kd.R_slice hPJ.row
      subst e3
      have PJ := hid hPJ
      have e0 := cell_of_row w3 ua 0 _ _ _ hPJ.blk
      have e1 := cell_of_row w3 ua 1 _ _ _ hPJ.blk
      have e2 := cell_of_row w3 w.heap.size 0 _ _ _ HB3.out
      simp at e0 e1 e2
      have hlx : xp.log.length ≤ 4000 := HI.out.long _ (List.mem_iff_getElem?.2 ⟨j, hx⟩)
      have hnew := met_new HI.out.names (fun hm => by
        have := IT3.out.nodup
        rw [List.nodup_append] at this
        exact this.2.2 j hm j (by simp) rfl) hx
      clear hx hu hI3 f3 hPJ
      have HN := hid hnew
      clear hnew
      have fd := (Fr.refl [] w3).drew
      have RW := hid (R_fr0 PJ.out.row fd)
      have PZ := hid (show (xp.log.take xp.log.length) = xp.log from List.take_length)
      have E0 := hid e0
      have E1 := hid e1
      have E2 := hid e2
      clear fd
      go_wp2_with fail
      go_region_with (go_at_call 45; refine (clone_recs A3 c3 _ xp.log.length _ xp.log RW.out (Nat.le_refl _) (by omega) _).mono ?_; rintro e w4 ⟨v4, rfl, r4, f4, o4, -⟩; rw [PZ.out] at r4; obtain ⟨A4, c4, rfl⟩ := Kd.R_slice r4; have F4 := hid ((Fr.refl [] w3).drew.then f4); have g0 := F4.out.cell0 E0.out; have g2 := F4.out.cell0 E2.out; have g3 := (F4.out.alloc (.cells #[.bool xp.up, .slice A4 xp.log.length c4] 95)).cell0 E2.out; obtain ⟨w5, hu, hc5, f5⟩ := HC3.out.put HN.out F4.out F3.out.size r4 o4; have C5 := hid hc5; have F5 := hid f5; clear r4 f4 o4 hc5 f5)
      all_goals
        have HIE := hid ((IT3.out.fr F4.out (by simp)).fr F5.out (by have := HZ.out; simp; omega))
        go_roundw
        case rel =>
          exact ⟨_, _, _, _, _, _, _, _, _, _, _, _, _, _, _, _, _, _, _, _, _, ⟨S ++ [j], _, HIE.out, by rw [met_snoc HX.out]; exact C5.out, F5.out.blk (F4.out.blk HB3.out (by simp)) (by simp), (F3.out.then F4.out).trans F5.out (fun z hz => .inr (by simp at hz; omega))⟩, rfl⟩
        case measure =>
          have h1 := HIE.out.seen
          have h2 := hseen.out
          have h3 := HIE.out.len
          simp at h1 h3
          omega
end Go.Proofs.YtkolnoadeihmoaaGreat
