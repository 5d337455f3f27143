/-
  Regions: their names, sorted.
  Regions: what they are at.
-/
import Derived.Test.YtkolnoadeihmoaaGreatKd17
import Derived.Test.YtkolnoadeihmoaaGreatKd1
import Derived.Test.YtkolnoadeihmoaaGreatKd18
namespace Go.Proofs.YtkolnoadeihmoaaGreat
open Go.RowKit Go.Maps Go.Sort Go.Shelf Go.Proofs.YtkolnoadeihmoaaGreatW.PrintWords
open Go.WideElems (Fit rd rg rd_mk rg_of)
theorem sortsR (m : Nat) : AnyZ.SortsIn Tryz.prog Tryz.sortedR_ren Fence.wide m :=
  ⟨fun blk off cap ss W hH hblk hsz => callsIn_wide.2 (AnyM.slices_Sort_string Tryz.sortR blk off cap ss W hH hblk hsz),
   fun p cap W => callsIn_wide.2 (AnyM.slices_Sort_string_none Tryz.sortR p cap W)⟩
def anyRd (_ : Value) : Option (DataW Unit × List MemPlace) := some (.nil, [])
theorem insert_perm {H : Type} (x : Lit × DataW H) : ∀ l : List (Lit × DataW H), (DataW.insert x l).Perm (x :: l)
  | [] => List.Perm.refl _
  | y :: r => by
    simp only [DataW.insert]
    split
    · exact List.Perm.refl _
    · exact ((insert_perm x r).cons y).trans (List.Perm.swap _ _ _)
theorem foldr_perm {H : Type} : ∀ l : List (Lit × DataW H), (l.foldr DataW.insert []).Perm l
  | [] => List.Perm.refl _
  | x :: r => (insert_perm x _).trans ((foldr_perm r).cons x)
def bytesOf (R : RG) : List (List UInt8) := R.places.map (fun p => p.1.data.toList)
theorem keyR (s : ByteArray) (h : s.size ≤ maxLen) : keyOf Tryz.prog 9 (.string s) = some (.string s.data.toList) := by
  simp [keyOf, mapKey, Tryz.underlying9, h]
theorem rows_keys : ∀ {l : List (ByteArray × RP)} {us : List (Nat × Value)} (i : Nat), us.length = l.length → (rowsM i l us).map (·.key) = l.map (fun p => Value.string p.1)
  | [], [], _, _ => rfl
  | [], _ :: _, _, h => by simp at h
  | _ :: _, [], _, h => by simp at h
  | p :: r, a :: s, i, h => by simp only [rowsM, List.map_cons]; rw [rows_keys (i + 1) (by simpa using h)]
theorem rows_strs : ∀ {l : List (ByteArray × RP)} {us : List (Nat × Value)} (i : Nat), us.length = l.length → (∀ p ∈ l, p.1.size ≤ maxLen) → ((rowsM i l us).map (rg Tryz.prog 9 anyRd)).map (fun p => strOf p.1) = l.map (fun p => p.1.data.toList)
  | [], [], _, _, _ => rfl
  | [], _ :: _, _, h, _ => by simp at h
  | _ :: _, [], _, h, _ => by simp at h
  | p :: r, a :: s, i, h, hs => by
    simp only [rowsM, List.map_cons]
    rw [rows_strs (i + 1) (by simpa using h) (fun q hq => hs q (List.mem_cons_of_mem _ hq))]
    rw [rg_of (rd_mk (keyR p.1 (hs p (List.mem_cons_self ..))) (rfl : anyRd _ = some (.nil, [])))]
    rfl
theorem regs_map {w : World} {rb mb : Nat} {us : List (Nat × Value)} {R : RG} (h : RegAt w rb mb us R) (hn : (R.places.map (·.1)).Nodup) (hs : ∀ p ∈ R.places, p.1.size ≤ maxLen) (hl : R.places.length ≤ 1000) :
    ∃ D : DataW Unit, w.ownsMap Tryz.prog 9 anyRd mb R.places.length D ∧ (strKeys D).Perm (bytesOf R) ∧ Maps.size D = R.places.length := by
  have hlen := rows_len (l := R.places) (us := us) 0 h.len
  refine ⟨.map (((rowsM 0 R.places us).map (rg Tryz.prog 9 anyRd)).foldr DataW.insert []), ⟨_, _, h.map, ⟨by unfold maxLen; simp [hlen]; omega, ⟨?_, ?_, ?_⟩, ?_⟩, by simp [hlen], rfl⟩, ?_, ?_⟩
  · intro x hx
    obtain ⟨j, y, b, h1, -, rfl⟩ := rows_mem h.len (by simpa using hx)
    exact (List.getElem?_eq_some_iff.1 h1).1
  · exact rows_nodup _ _
  · show ((rowsM 0 R.places us).map (·.key)).Nodup
    rw [rows_keys 0 h.len]
    have : R.places.map (fun p => Value.string p.1) = (R.places.map (·.1)).map Value.string := by simp
    rw [this]
    unfold List.Nodup
    rw [List.pairwise_map]
    exact List.Pairwise.imp (fun hne e => hne (by injection e)) hn
  · intro x hx
    obtain ⟨j, y, b, h1, -, rfl⟩ := rows_mem h.len (by simpa using hx)
    exact ⟨_, rd_mk (keyR y.1 (hs y (List.mem_iff_getElem?.2 ⟨j, h1⟩))) (rfl : anyRd _ = some (.nil, []))⟩
  · show (((_ : List (Lit × DataW Unit))).map (fun p => strOf p.1)).Perm _
    refine ((foldr_perm _).map _).trans ?_
    rw [rows_strs 0 h.len hs]
    exact List.Perm.refl _
  · show List.length _ = _
    rw [(foldr_perm _).length_eq]
    simp [hlen]
def namesOf (R : RG) : List (List UInt8) := (bytesOf R).mergeSort (fun x y => decide (x ≤ y))
theorem names_len (R : RG) : (namesOf R).length = R.places.length := by simp [namesOf, bytesOf]
theorem names_mem {R : RG} {s : List UInt8} (h : s ∈ namesOf R) : ∃ p ∈ R.places, p.1 = ⟨s.toArray⟩ := by
  have h2 := (List.mergeSort_perm (bytesOf R) (fun x y => decide (x ≤ y))).mem_iff.1 h
  obtain ⟨p, hp, e⟩ := List.mem_map.1 h2
  refine ⟨p, hp, ?_⟩
  rw [← e]
theorem keys_any (mb : Nat) (w : World) : Calls Tryz.prog 44 #[.map (some mb)] w fun e w' => e = .returned (.func (.func 82) #[] #[.pointer (some ⟨w.heap.size, 0, none⟩)]) ∧ w' = w.alloc (.cells #[.map (some mb)] 85) :=
  (callsIn_wide (n := 5)).1 (AnyZ.keys_in Tryz.keysR Fence.wide 5 trivial rfl (some mb) w)
theorem sorted_any (rb mb : Nat) (us : List (Nat × Value)) (R : RG) (w : World) (h : RegAt w rb mb us R) (hn : (R.places.map (·.1)).Nodup) (hs : ∀ p ∈ R.places, p.1.size ≤ maxLen) (hl : R.places.length ≤ 1000) :
    Calls Tryz.prog 43 #[.func (.func 82) #[] #[.pointer (some ⟨w.heap.size, 0, none⟩)]] (w.alloc (.cells #[.map (some mb)] 85)) fun e w' => ∃ A c, e = .returned (.slice A R.places.length c) ∧ (0 < R.places.length → ∃ g, A = some ⟨g, 0, none⟩ ∧ w.heap.size ≤ g ∧ ∀ (i : Nat) (s : List UInt8), (namesOf R)[i]? = some s → w'.cell? ⟨g, i, none⟩ = some (.string ⟨s.toArray⟩)) ∧ Fr [] w w' := by
  obtain ⟨D, hown, hperm, hsize⟩ := regs_map h hn hs hl
  have hbl := hown.lt
  have hseq : SeqGives Fence.wide 2 Tryz.prog 82 #[.pointer (some ⟨w.heap.size, 0, none⟩)] encStr (fun ss => ss.Perm (strKeys D)) (Maps.size D) (w.alloc (.cells #[.map (some mb)] 85)) :=
    AnyZ.keys_gives (ρ := Tryz.keysR_ren) { Tryz.keysR with } Fence.wide _ trivial rfl (by omega) w.heap.size mb R.places.length D _ (by simp) (by simp) (by
      obtain ⟨es, clock, hb, Ft, hs, hD⟩ := hown
      exact ⟨es, clock, (Below.heap_alloc _ _ mb hbl).trans hb, Ft, hs, hD⟩)
  have cS := AnyZ.sorted_in Tryz.sortedR Fence.wide 5 trivial trivial trivial trivial rfl (by omega) (sortsR _) (enters_of Tryz.func81 (by kernel_rfl) rfl) 82 #[.pointer (some ⟨w.heap.size, 0, none⟩)] trivial (enters_of Tryz.func82 (by kernel_rfl) rfl) _ _ (by rw [hsize]; unfold maxLen; omega) (by rw [hsize]; omega) _ hseq
  change CallsIn _ _ Tryz.prog 43 _ _ _ at cS
  refine ((callsIn_wide (n := 5)).1 cS).mono ?_
  rintro e w' ⟨v, ss, rfl, hS, hrow, hnil, hb⟩
  have e2 : ss.mergeSort (fun x y => decide (x ≤ y)) = namesOf R := mergeSort_of_perm (hS.trans hperm)
  have hll : ss.length = R.places.length := by rw [(hS.trans hperm).length_eq]; simp [bytesOf]
  rw [e2, hll] at hrow
  have hF : Fr [] w w' := Fr.of_below (((Below.refl _ w).alloc (Nat.le_refl _) _).trans (hb.mono (by simp)))
  rcases hrow.2 with ⟨rfl, h0⟩ | ⟨g, cap, cur, rfl, hbase, hgb, r1, r2, r3, r4⟩
  · exact ⟨none, 0, by rw [h0], fun h => absurd h0 (by omega), hF⟩
  · refine ⟨_, cap, rfl, fun _ => ⟨g, rfl, by simp at hbase; omega, fun i s hi => ?_⟩, hF⟩
    have hc := hrow.cells (g := g) rfl i (encStr s) (by simp [hi])
    have ha : (⟨g, 0, none⟩ : Addr).add i = ⟨g, i, none⟩ := by rw [add_mk, Nat.zero_add]
    rw [ha] at hc
    exact hc
end Go.Proofs.YtkolnoadeihmoaaGreat
namespace Go.Proofs.YtkolnoadeihmoaaGreat
open Go.RowKit Go.Proofs.YtkolnoadeihmoaaGreatW.PrintWords
structure S65 where
  f0 : ByteArray
  f1 : Bool
  f2 : Int
def k65 : Kd S65 := Kd.iso (Kd.pair Kd.string (Kd.pair Kd.bool (Kd.int .i64))) (fun x : S65 => (x.f0, x.f1, x.f2))
theorem k65_open {w : World} {x : S65} {cs : List Value} (h : k65.K w x cs) : cs = [.string x.f0, .bool x.f1, .int .i64 x.f2] := by
  obtain ⟨_, _, rfl, rfl, ⟨_, _, rfl, rfl, rfl⟩⟩ := h
  exact rfl
abbrev PC := S65
abbrev kPc : Kd PC := k65
def placeOf (R : RG) (s : List UInt8) : PC := match R.look ⟨s.toArray⟩ with
  | some p => ⟨⟨s.toArray⟩, p.up, p.log.length⟩
  | none => ⟨⟨s.toArray⟩, false, 0⟩
def placesOf (R : RG) : List PC := (namesOf R).map (placeOf R)
def zPc : Value := .agg #[.string ⟨#[]⟩, .bool false, .int .i64 0]
theorem infoPc : (Tryz.prog.info? 65).map (fun i => (i.zero, i.size, i.bytes)) = some (some zPc, 3, 32) := by kernel_rfl
theorem place_append {w : World} {v : Value} {xs : List PC} (R : kPc.R 65 w 0 (fun _ => True) v xs) (hl : xs.length ≤ 1000000) (x : PC) :
    ∃ A1 c1 w1, (Builtin.append_ #[46, 46] 46 #[v, .slice (some ⟨w.heap.size, 0, none⟩) 1 1]).run Tryz.prog (w.alloc (.cells #[.string x.f0, .bool x.f1, .int .i64 x.f2] 65)) = .ok (.slice A1 (xs.length + 1) c1) w1 ∧
      kPc.R 65 w1 0 (fun _ => True) (.slice A1 (xs.length + 1) c1) (xs ++ [x]) ∧ w.grownBy w1 v.ownBlock ∧ ((Value.slice A1 (xs.length + 1) c1).ownBlock = v.ownBlock ∨ ∃ b, (Value.slice A1 (xs.length + 1) c1).ownBlock = some b ∧ w.heap.size ≤ b) := by
  obtain ⟨v1, w1, hrun, r5, g5, a5⟩ := R_run (P := Tryz.prog) kPc (W := w) 46 46 65 zPc 32 Tryz.underlying46 infoPc rfl (by decide) (by decide) v xs x [.string x.f0, .bool x.f1, .int .i64 x.f2] (fun _ => False) ⟨[_], _, rfl, rfl, ⟨[_], [_], rfl, rfl, rfl⟩⟩ (fun _ h => h.elim) R (by omega)
  obtain ⟨A1, c1, e⟩ := Kd.R_slice r5
  rw [List.length_append, List.length_singleton] at e
  subst e
  exact ⟨A1, c1, w1, hrun, r5, g5, a5⟩
theorem box4 {w : World} {b : Nat} {t : TypeId} {o0 o1 o2 o3 : Value} (h : w.heap[b]? = some (.cells #[o0, o1, o2, o3] t (0, 0))) (v0 v1 v2 v3 : Value) :
    ((((w.setCell ⟨b, 0, none⟩ v0).setCell ⟨b, 1, none⟩ v1).setCell ⟨b, 2, none⟩ v2).setCell ⟨b, 3, none⟩ v3).heap[b]? = some (.cells #[v0, v1, v2, v3] t (0, 0)) ∧
    Fr [b] w ((((w.setCell ⟨b, 0, none⟩ v0).setCell ⟨b, 1, none⟩ v1).setCell ⟨b, 2, none⟩ v2).setCell ⟨b, 3, none⟩ v3) := by
  constructor
  · have p := blk_setCell (blk_setCell (blk_setCell (blk_setCell h 0 v0) 1 v1) 2 v2) 3 v3
    simp only [List.setIfInBounds_toArray, List.set_cons_succ, List.set_cons_zero] at p
    exact p
  · exact ((((Fr.refl [b] w).setCell (p := ⟨b, 0, none⟩) (.inl (List.mem_singleton.2 rfl)) v0).setCell (p := ⟨b, 1, none⟩) (.inl (List.mem_singleton.2 rfl)) v1).setCell (p := ⟨b, 2, none⟩) (.inl (List.mem_singleton.2 rfl)) v2).setCell (p := ⟨b, 3, none⟩) (.inl (List.mem_singleton.2 rfl)) v3
section
def appendQ (a : Array TypeId) (t : TypeId) (v : Array Value) : Sem Value := Builtin.append_ a t v
theorem builtin_appendQ (ats : Array TypeId) (ty : TypeId) (cs : Array Bool) (args : Array Value) : builtin .append ats ty cs args = (do pure (.value (← appendQ ats ty args))) := rfl
attribute [local go_sem ↓ high] builtin_appendQ
def regV (R : RG) (v : Value) : Value := .agg #[.string R.primary, .int .i64 R.epoch, .int .i64 R.acked, v]
def Stated (R : RG) (w : World) (e : Ending) (w' : World) : Prop :=
  ∃ v, e = .returned (regV R v) ∧ kPc.R 65 w' 0 (fun _ => True) v (placesOf R) ∧ Fr [] w w' ∧ ∀ k, v.ownBlock = some k → w.heap.size ≤ k
set_option maxRecDepth 100000 in
set_option maxHeartbeats 4000000 in
theorem state_any (rb mb : Nat) (us : List (Nat × Value)) (R : RG) (w : World) (h : RegAt w rb mb us R) (hn : (R.places.map (·.1)).Nodup) (hs : ∀ p ∈ R.places, p.1.size ≤ maxLen) (hl : R.places.length ≤ 1000) :
    Calls Tryz.prog 16 #[.pointer (some ⟨rb, 0, none⟩)] w (Stated R w) := by
  have H := hid h
  have HN := hid hn
  have HSZ := hid hs
  have F1 := hid ((Fr.refl [] w).alloc (.cells #[.string ⟨#[]⟩, .int .i64 0, .int .i64 0, .slice none 0 0] 48))
  have b1 := heap_alloc_new w (.cells #[.string ⟨#[]⟩, .int .i64 0, .int .i64 0, .slice none 0 0] 48)
  unfold Stated regV
  clear h hn hs
  go_enter Tryz.func16, Tryz.ntmps16
  go_wp2_with fail
  have hsz1 : (w.alloc (.cells #[.string ⟨#[]⟩, .int .i64 0, .int .i64 0, .slice none 0 0] 48)).heap.size = w.heap.size + 1 := World.size_alloc _ _
  generalize w.alloc (.cells #[.string ⟨#[]⟩, .int .i64 0, .int .i64 0, .slice none 0 0] 48) = w1 at F1 b1 hsz1 ⊢
  obtain ⟨r0, r1, r2, r3, r4, r5⟩ := (H.out.fr0 F1.out).c
  have B1 := hid b1
  have HSZ1 := hid hsz1
  clear b1 hsz1
  refine (none_no rb mb _ r0).mono ?_
  rintro e w' ⟨rfl, rfl⟩
  go_wp2_with fail
  have HS := hid (fun w' (f : Fr [] w1 w') => (⟨f.cell0 r1, f.cell0 r2, f.cell0 r4⟩ : (fun w' : World => w'.cell? ⟨rb, 1, none⟩ = some (.string R.primary) ∧ w'.cell? ⟨rb, 2, none⟩ = some (.int .i64 R.epoch) ∧ w'.cell? ⟨rb, 4, none⟩ = some (.int .i64 R.acked)) w'))
  have S0 := HS.out _ (Fr.refl [] w1).drew
  clear r0 r1 r2 r3 r4 r5
  go_region_held3 (fun w' : World => w'.cell? ⟨rb, 1, none⟩ = some (.string R.primary) ∧ w'.cell? ⟨rb, 2, none⟩ = some (.int .i64 R.epoch) ∧ w'.cell? ⟨rb, 4, none⟩ = some (.int .i64 R.acked)) (first | exact S0 | (refine HS.out _ ?_; repeat (first | exact Fr.refl _ _ | refine Fr.drew ?_ | refine Fr.alloc ?_ _ | (refine Fr.setCell ?_ (.inr (by simp)) _)))) (fail)
  rename_i hh
  clear hh
  have F2 := hid (F1.out.then ((Fr.refl [] w1).alloc (.cells #[.string R.primary, .int .i64 R.epoch, .int .i64 R.acked, .slice none 0 0] 48)).drew)
  have b2 : (w1.alloc (.cells #[.string R.primary, .int .i64 R.epoch, .int .i64 R.acked, .slice none 0 0] 48)).drew.heap[w1.heap.size]? = some (.cells #[.string R.primary, .int .i64 R.epoch, .int .i64 R.acked, .slice none 0 0] 48 (0, 0)) := heap_alloc_new w1 _
  have B1' := hid (((Fr.refl [] w1).alloc (.cells #[.string R.primary, .int .i64 R.epoch, .int .i64 R.acked, .slice none 0 0] 48)).drew.blk B1.out (by simp))
  have HZ2 := hid (show w1.heap.size < (w1.alloc (.cells #[.string R.primary, .int .i64 R.epoch, .int .i64 R.acked, .slice none 0 0] 48)).drew.heap.size by simp)
  generalize (w1.alloc (.cells #[.string R.primary, .int .i64 R.epoch, .int .i64 R.acked, .slice none 0 0] 48)).drew = w2 at F2 b2 B1' HZ2 ⊢
  obtain ⟨ob, hob⟩ : ∃ ob, ob = w1.heap.size := ⟨_, rfl⟩
  rw [← hob] at b2 HZ2 ⊢
  have HOB := hid (show w.heap.size + 1 = ob by rw [hob]; exact HSZ1.out.symm)
  have B2 := hid b2
  clear hob b2 HSZ1 HS S0 B1 F1
  obtain ⟨r0, r1, r2, r3, r4, r5⟩ := (H.out.fr0 F2.out).c
  go_wp2_with fail
  refine (keys_any mb _).mono ?_
  rintro e w' ⟨rfl, rfl⟩
  clear r0 r1 r2 r3 r4 r5
  go_wp2_with fail
  refine (sorted_any rb mb us R w2 (H.out.fr0 F2.out) HN.out HSZ.out hl).mono ?_
  rintro e ws ⟨A, c, rfl, hg, fs⟩
  have FS := hid fs
  have F3 := hid (F2.out.then fs)
  have B1s := hid (fs.blk B1'.out (by simp))
  have B2s := hid (fs.blk B2.out (by simp))
  have HG := hid hg
  clear fs hg
  go_wp2
  go_loopw [29] (fun i wr => ∃ (k : Nat) (v : Value), i = .int .i64 k ∧ k ≤ R.places.length ∧ wr.heap[ob]? = some (.cells #[.string R.primary, .int .i64 R.epoch, .int .i64 R.acked, v] 48 (0, 0)) ∧ kPc.R 65 wr 0 (fun _ => True) v ((placesOf R).take k) ∧ Fr [ob] ws wr ∧ ∀ q, v.ownBlock = some q → ws.heap.size ≤ q) (fun i _ => R.places.length - (intOf i).toNat)
  case atStart => exact ⟨0, _, rfl, Nat.zero_le _, B2s.out, Kd.R_nil _ _ _ _ _, Fr.refl _ _, fun q hq => by simp [Value.ownBlock] at hq⟩
  case round =>
    obtain ⟨k, v, rfl, hk, hb, hR, hF, hO⟩ := hrel
    have FR := hid hF
    have RV := hid hR
    have HO := hid hO
    have FW := hid (F3.out.trans hF (fun z hz => .inr (by have := HOB.out; simp at hz; omega)))
    have BO := hid hb
    clear hR hF hO hb
    by_cases hlt : k < R.places.length
    · obtain ⟨s, hs⟩ : ∃ s, (namesOf R)[k]? = some s := ⟨_, List.getElem?_eq_getElem (by rw [names_len]; omega)⟩
      obtain ⟨g, eA, hgl, hgc⟩ := HG.out (by omega)
      have c0 := FR.out.cellE (hgc k s hs) (by have := HZ2.out; simp; omega)
      subst eA
      have hm0 : (0 : Int) ≤ (k : Int) := by omega
      have hm1 : (k : Int) < (R.places.length : Int) := by omega
      obtain ⟨p, hp, hps⟩ := names_mem (List.mem_iff_getElem?.2 ⟨k, hs⟩)
      have hlk : R.look ⟨s.toArray⟩ = some p.2 := by rw [← hps]; exact Reg.mem_look HN.out hp
      obtain ⟨i, a, hpi, hai, hlu⟩ := rlook_at hlk H.out.len (rb := rb) (mb := mb)
      have RW := H.out.fr0 FW.out
      have hlk0 := hlu wr.drew (RW.fr0 (Fr.refl [] wr).drew)
      obtain ⟨A3, c3, e3⟩ := Kd.R_slice (RW.pl i _ a hpi hai).row
      obtain ⟨a1, a2⟩ := a
      cases e3
      have HS := hid (fun w' (f : Fr [] w w') => (⟨(H.out.fr0 f).c.1, ((H.out.fr0 f).pl i _ _ hpi hai).c.1, ((H.out.fr0 f).pl i _ _ hpi hai).c.2⟩ : (fun w' : World => w'.cell? ⟨rb, 0, none⟩ = some (.map (some mb)) ∧ w'.cell? ⟨a1, 0, none⟩ = some (.bool p.2.up) ∧ w'.cell? ⟨a1, 1, none⟩ = some (.slice A3 p.2.log.length c3)) w'))
      have S0 := HS.out _ FW.out
      have SA := HS.out _ (FW.out.alloc (.cells #[.string ⟨s.toArray⟩, .bool p.2.up, .int .i64 p.2.log.length] 65)).drew
      have HX := hid (show placeOf R s = ⟨⟨s.toArray⟩, p.2.up, p.2.log.length⟩ by unfold placeOf; rw [hlk])
      have HSX := hid hs
      obtain ⟨T, hT⟩ : ∃ T, T = (placesOf R).take k := ⟨_, rfl⟩
      have hR := RV.out
      rw [← hT] at hR
      have hTl : T.length = k := by rw [hT, List.length_take]; simp [placesOf, names_len]; omega
      have HT := hid hT
      obtain ⟨A8, c8, rfl⟩ := Kd.R_slice hR
      rw [hTl] at hR
      rw [hTl] at BO
      rw [hTl] at HO
      obtain ⟨A9, c9, w5, hrun, r9, g9, a9⟩ := place_append (w := wr.drew) (R_fr0 hR (Fr.refl [] wr).drew) (by omega) ⟨⟨s.toArray⟩, p.2.up, p.2.log.length⟩
      rw [hTl] at hrun r9 a9
      simp only [World.alloc_drew, World.size_drew] at hrun
      have hog : ∀ q, (Value.slice A8 k c8).ownBlock = some q → q ≠ ob := fun q hq => by have := HO.out q hq; have := HZ2.out; have := FS.out.size; omega
      have f9 : Fr [ob] ws w5 := (FR.out.drew).grown g9 (fun q hq => .inr (HO.out q hq))
      have b9 : w5.heap[ob]? = some (.cells #[.string R.primary, .int .i64 R.epoch, .int .i64 R.acked, .slice A8 k c8] 48 (0, 0)) := ((Fr.refl ((Value.slice A8 k c8).ownBlock.toList) wr).drew.grown g9 (fun q hq => .inl (by simp [hq]))).blk BO.out (fun hm => hog ob (by simpa using hm) rfl)
      have o9 : ∀ q, (Value.slice A9 (k + 1) c9).ownBlock = some q → ws.heap.size ≤ q := by
        intro q hq
        rcases a9 with a9 | ⟨b, hb, hle⟩
        · exact HO.out q (by rw [← a9]; exact hq)
        · rw [hb] at hq; cases hq; have := FR.out.size; simp at hle; omega
      have HRUN := hid hrun
      have R9 := hid r9
      have F9 := hid f9
      have B9 := hid b9
      have O9 := hid o9
      have t3 := cell_of_row wr ob 3 _ _ _ BO.out
      have k5 := cell_of_row w5 ob 3 _ _ _ b9
      have z5 := blk_free b9 3
      simp at t3 k5
      have qa := ((Fr.refl [] wr).alloc (.cells #[.string ⟨s.toArray⟩, .bool p.2.up, .int .i64 p.2.log.length] 65)).cell0 t3
      clear hs hp hps hlk hlu RW hT hR r9 a9 f9 b9 o9 hrun hog hpi hai
      go_wp2_with fail
      have s0 := S0.2.1
      have s1 := S0.2.2
      have r0 := S0.1
      have hlk1 := hlk0
      have ha1 : a1 ≠ wr.heap.size := Nat.ne_of_lt (cell_block s0)
      have hrun := HRUN.out
      rw [← show appendQ _ _ _ = Builtin.append_ _ _ _ from rfl] at hrun
      clear S0 SA c0 g9
      go_region
      go_wp2
      go_roundw
      case rel =>
        refine ⟨k + 1, _, by go_num, by omega, ?_, ?_, F9.out.setCell (.inl (by simp)) _, O9.out⟩
        · have := blk_setCell B9.out 3 (.slice A9 (k + 1) c9)
          simp only [List.setIfInBounds_toArray, List.set_cons_succ, List.set_cons_zero] at this
          exact this
        · have e : (placesOf R).take (k + 1) = T ++ [⟨⟨s.toArray⟩, p.2.up, p.2.log.length⟩] := by
            have hx : (placesOf R)[k]? = some (placeOf R s) := by simp [placesOf, HSX.out]
            obtain ⟨hk1, hk2⟩ := List.getElem?_eq_some_iff.1 hx
            rw [List.take_succ_eq_append_getElem hk1, hk2, HX.out, ← HT.out]
          rw [e]
          refine R_fr2 R9.out ((Fr.refl [ob] w5).setCell (.inl (by simp)) _) ?_ (fun q hq hm => ?_)
          · intro b hb q hq
            simp [Kd.iso, Kd.pair, Kd.int, Kd.string, Kd.bool, Kd.scalar, k65] at hq
          · have h1 := O9.out q hq
            have h2 := HZ2.out
            have h3 := FS.out.size
            simp at hm
            omega
      case measure => simp [intOf]; omega
    · obtain rfl : k = R.places.length := by omega
      have e : (placesOf R).take R.places.length = placesOf R := List.take_of_length_le (by simp [placesOf, names_len])
      have hr := RV.out
      rw [e] at hr
      have n0 := cell_of_row wr ob 0 _ _ _ BO.out
      have n1 := cell_of_row wr ob 1 _ _ _ BO.out
      have n2 := cell_of_row wr ob 2 _ _ _ BO.out
      have n3 := cell_of_row wr ob 3 _ _ _ BO.out
      have bw := FR.out.blk B1s.out (by have := HOB.out; simp; omega)
      have m0 := cell_of_row wr w.heap.size 0 _ _ _ bw
      have m1 := cell_of_row wr w.heap.size 1 _ _ _ bw
      have m2 := cell_of_row wr w.heap.size 2 _ _ _ bw
      have m3 := cell_of_row wr w.heap.size 3 _ _ _ bw
      have z0 := blk_free bw 0
      have z1 := blk_free bw 1
      have z2 := blk_free bw 2
      have z3 := blk_free bw 3
      have RV2 := hid hr
      have BW := hid bw
      simp at n0 n1 n2 n3 m0 m1 m2 m3
      clear hr bw
      obtain ⟨A8, c8, rfl⟩ := Kd.R_slice RV2.out
      go_wp2
      obtain ⟨b6, g6⟩ := box4 BW.out (.string R.primary) (.int .i64 R.epoch) (.int .i64 R.acked) (.slice A8 (placesOf R).length c8)
      have f6 : Fr [] w _ := (F3.out.trans FR.out (fun z hz => .inr (by have := HOB.out; simp at hz; omega))).trans g6 (fun z hz => .inr (by simp at hz; omega))
      have r6 := R_fr2 RV2.out g6 (fun b hb q hq => by simp [Kd.iso, Kd.pair, Kd.int, Kd.string, Kd.bool, Kd.scalar, k65] at hq) (fun q hq hm => by
        have h1 := HO.out q hq
        have h2 := F3.out.size
        simp at hm
        have h3 := HOB.out
        have h4 := HZ2.out
        have h5 := FS.out.size
        omega)
      refine bodyPost_ret (results_row1 (fn := Tryz.f16) (p := 2) rfl _ _ w.heap.size 48 _ (0, 0) _ rfl b6 Tryz.underlying48 rfl (by kernel_rfl)) rfl ?_
      exact ⟨_, rfl, r6, f6, fun q hq => Nat.le_trans F3.out.size (HO.out q hq)⟩
end
end Go.Proofs.YtkolnoadeihmoaaGreat
