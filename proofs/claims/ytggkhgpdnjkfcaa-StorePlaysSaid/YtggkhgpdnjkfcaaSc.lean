/-
  Walks of package store: Drop, Copy.
-/
import Derived.Test.YtggkhgpdnjkfcaaSb
namespace Go.Proofs.Ytggkhgpdnjkfcaa
open Go.RowKit Go.Maps

theorem wpList_delete_st (w : World) {ops : Array Oper} {rest : List Oper} {o : Oper} {a : Act} {Q : Exit → Act → World → Prop}
    (hg : o.guard = none) (m x : Operand) (hop : o.op = Op.call { callee := Callee.builtin Builtin.delete, args := #[m, x], argTypes := #[51, 3] })
    (mb : Nat) (l : FL) (k : Int) (hk : (Lit.int .i64 k).wf = true) (h : MapF w mb l) (hm : a.eval m = .map (some mb)) (hx : a.eval x = .int .i64 k)
    (hK : ∀ w', MapF w' mb (ldel l k) → w.mapTurned w' mb → wpList Try.prog ops Q rest (a.put o.dst (.tuple #[])) w') :
    wpList Try.prog ops Q (o :: rest) a w :=
  wpList_delete_own w hg m x 51 3 hop 9 law3 Try.underlying51 _ mb l.length (dm l) hm h (.int .i64 k) (.int .i64 k) hx (keyOf_int_mk Try.underlying3 hk)
    (fun w' ho ht => hK w' (own_tight (n := l.length) (by rw [← dm_del]; exact ho)) ht)

theorem bne_e (a : Int) (h : a ≠ 0) : (a != 0) = true := by simp [h]

set_option maxRecDepth 100000 in
theorem drop_any (b mb : Nat) (s : St) (k : Int) (hk : (Lit.int .i64 k).wf = true) (w : World) (h : StoreAt w b mb s) :
    Calls Try.prog 23 #[.pointer (some ⟨b, 0, none⟩), .int .i64 k] w fun e w' => e = .returned (.int .i64 (s.getE k)) ∧ StoreAt w' b mb (s.drop k) ∧ Fr [b, mb] w w' := by
  have cG := get_any b mb s k hk w h
  have c0 := h.c0
  cases hg : lget s.files k with
  | none =>
    have hd : s.drop k = s := by
      unfold St.drop ldel
      rw [List.filter_eq_self.2]
      intro p hp
      simp only [Bool.not_eq_true', decide_eq_false_iff_not]
      rintro rfl
      have := lget_of_mem h.ok.rise (k := p.1) (v := p.2) hp
      rw [hg] at this; cases this
    rw [hd]
    have e1 : s.getE k = 6 := by simp [St.getE, hg]
    rw [e1] at cG ⊢
    have HH := hid (And.intro h (Fr.refl [b, mb] w))
    clear h hd hg e1
    go_enter Try.func23, Try.ntmps23
    go_wp2_with (go_at_call 13; refine cG.mono ?_; rintro e w' ⟨rfl, rfl⟩)
    go_ret
    exact ⟨rfl, HH.out⟩
  | some v =>
    have e1 : s.getE k = 0 := by simp [St.getE, hg]
    rw [e1] at cG ⊢
    have hok := h.ok.drop k
    have H := hid h
    clear hg e1
    go_enter Try.func23, Try.ntmps23
    go_wp2_with (first
      | (go_at_call 13; refine cG.mono ?_; rintro e w' ⟨rfl, rfl⟩)
      | (at_delete; refine wpList_delete_st _ rfl _ _ rfl mb s.files k hk H.out.map rfl rfl ?_; intro w1 hm1 ht1))
    go_ret
    have hh := H.out
    refine ⟨rfl, ⟨(ht1.grown.block b hh.lt (by simp [hh.ne])).trans hh.blk, hm1, hok⟩, (Fr.refl _ _).turned ht1 (.inl (by simp))⟩

theorem copy_none (s t : St) (k : Int) (h : lget t.files k = none) : s.copyE t k = 6 ∧ s.copy t k = s := by simp [St.copyE, St.copy, h]
theorem copy_twice (s t : St) (k : Int) (v u : ByteArray) (h : lget t.files k = some v) (h' : lget s.files k = some u) : s.copyE t k = 5 ∧ s.copy t k = s := by simp [St.copyE, St.copy, h, h']
theorem copy_new (s t : St) (k : Int) (v : ByteArray) (h : lget t.files k = some v) (h' : lget s.files k = none) : s.copyE t k = 0 ∧ s.copy t k = ⟨lput s.files k v, max s.most k⟩ := by simp [St.copyE, St.copy, h, h']

set_option maxRecDepth 100000 in
theorem copy_any (b mb : Nat) (s : St) (b2 mb2 : Nat) (t : St) (k : Int) (hk : (Lit.int .i64 k).wf = true) (w : World) (h : StoreAt w b mb s) (h2 : StoreAt w b2 mb2 t) :
    Calls Try.prog 15 #[.pointer (some ⟨b, 0, none⟩), .pointer (some ⟨b2, 0, none⟩), .int .i64 k] w fun e w' => e = .returned (.int .i64 (s.copyE t k)) ∧ StoreAt w' b mb (s.copy t k) ∧ Fr [b, mb] w w' := by
  have cG := get_any b2 mb2 t k hk w h2
  have c0 := h.c0; have c02 := h2.c0
  cases hg : lget t.files k with
  | none =>
    obtain ⟨e1, e2⟩ := copy_none s t k hg
    have e3 : t.getE k = 6 := by simp [St.getE, hg]
    rw [e3] at cG
    rw [e1, e2]
    have HH := hid (And.intro h (Fr.refl [b, mb] w))
    clear h h2 hg e1 e2 e3
    go_enter Try.func15, Try.ntmps15
    go_wp2_with fail
    refine (made_yes _ _ _ c0).mono ?_
    rintro e w' ⟨rfl, rfl⟩
    go_wp2_with fail
    refine (made_yes _ _ _ c02).mono ?_
    rintro e w' ⟨rfl, rfl⟩
    go_wp2_with (go_at_call 13; refine cG.mono ?_; rintro e w' ⟨rfl, rfl⟩)
    go_ret
    exact ⟨rfl, HH.out⟩
  | some v =>
    have e3 : t.getE k = 0 := by simp [St.getE, hg]
    have e4 : t.getB k = v := by simp [St.getB, hg]
    rw [e3, e4] at cG
    have hl := h.map.look hk
    cases hs : lget s.files k with
    | some u =>
      obtain ⟨e1, e2⟩ := copy_twice s t k v u hg hs
      rw [e1, e2]
      rw [hs] at hl
      simp only [Option.getD_some, Option.isSome_some] at hl
      have HH := hid (And.intro h (Fr.refl [b, mb] w))
      clear h h2 hg e1 e2 e3 e4 hs
      go_enter Try.func15, Try.ntmps15
      go_wp2_with fail
      refine (made_yes _ _ _ c0).mono ?_
      rintro e w' ⟨rfl, rfl⟩
      go_wp2_with fail
      refine (made_yes _ _ _ c02).mono ?_
      rintro e w' ⟨rfl, rfl⟩
      go_wp2_with (go_at_call 13; refine cG.mono ?_; rintro e w' ⟨rfl, rfl⟩)
      go_ret
      exact ⟨rfl, HH.out⟩
    | none =>
      obtain ⟨e1, e2⟩ := copy_new s t k v hg hs
      have hok := h.ok.copy h2.ok k
      rw [e2] at hok
      rw [e1, e2]
      rw [hs] at hl
      simp only [Option.getD_none, Option.isSome_none] at hl
      have hv : v.size ≤ maxLen := by have := h2.ok.sizes _ (lget_mem hg); unfold maxLen; simp at this; omega
      have hkk := h2.ok.keys _ (lget_mem hg)
      simp only at hkk
      have hm1 := h2.ok.m1
      have hlen := h.ok.len
      have m0 := h.ok.m0; have m1 := h.ok.m1
      obtain ⟨w1, hrun, hmap1, hturn⟩ := h.map.store hk (by unfold maxLen; omega) hv
      have hb1 : w1.heap[b]? = some (.cells #[.map (some mb), .int .i64 s.most] 53 (0, 0)) :=
        (hturn.grown.block b h.lt (by simp [h.ne])).trans h.blk
      have d1 : w1.cell? ⟨b, 1, none⟩ = some (.int .i64 s.most) := cell_of_row w1 b 1 _ _ _ hb1
      have f1 : w1.frozen? ⟨b, 1, none⟩ = false := by simp [World.frozen?, hb1]
      have HH : Hid (StoreAt (w1.setCell ⟨b, 1, none⟩ (.int .i64 (max s.most k))) b mb ⟨lput s.files k v, max s.most k⟩ ∧ Fr [b, mb] w (w1.setCell ⟨b, 1, none⟩ (.int .i64 (max s.most k)))) := by
        refine ⟨⟨blk_setCell hb1 1 _, hmap1.of_block (Below.heap_setCell w1 ⟨b, 1, none⟩ _ mb (Ne.symm h.ne)), hok⟩, ((Fr.refl _ _).turned hturn (.inl (by simp))).setCell (.inl (by simp)) _⟩
      clear h h2 hg e1 e2 e3 e4 hs hok hmap1 hturn hb1 hlen hv
      go_enter Try.func15, Try.ntmps15
      go_wp2_with fail
      refine (made_yes _ _ _ c0).mono ?_
      rintro e w' ⟨rfl, rfl⟩
      go_wp2_with fail
      refine (made_yes _ _ _ c02).mono ?_
      rintro e w' ⟨rfl, rfl⟩
      go_wp2_with (go_at_call 13; refine cG.mono ?_; rintro e w' ⟨rfl, rfl⟩)
      all_goals go_ret
      all_goals have hh := HH.out
      · rw [show max s.most k = k by omega] at hh ⊢
        exact ⟨rfl, hh⟩
      · rw [show max s.most k = s.most by omega] at hh ⊢
        exact ⟨rfl, hh⟩


set_option maxRecDepth 100000 in
theorem dmg_none (b mb : Nat) (s : St) (k x y : Int) (hk : (Lit.int .i64 k).wf = true) (w : World) (h : StoreAt w b mb s) (hg : lget s.files k = none) :
    Calls Try.prog 22 #[.pointer (some ⟨b, 0, none⟩), .int .i64 k, .int .i64 x, .int .i64 y] w fun e w' => e = .returned (.int .i64 6) ∧ w = w' := by
  have cG := get_any b mb s k hk w h
  have e3 : s.getE k = 6 := by simp [St.getE, hg]
  rw [e3] at cG
  clear e3 hg h hk
  go_enter Try.func22, Try.ntmps22
  go_wp2_with (go_at_call 13; refine cG.mono ?_; rintro e w' ⟨rfl, rfl⟩)
  go_ret
  exact ⟨rfl, rfl⟩

set_option maxRecDepth 100000 in
theorem dmg_arg (b mb : Nat) (s : St) (k x y : Int) (hk : (Lit.int .i64 k).wf = true) (w : World) (h : StoreAt w b mb s) (v : ByteArray) (hg : lget s.files k = some v) (ha : dmgArg v x y = true) :
    Calls Try.prog 22 #[.pointer (some ⟨b, 0, none⟩), .int .i64 k, .int .i64 x, .int .i64 y] w fun e w' => e = .returned (.int .i64 3) ∧ w = w' := by
  have cG := get_any b mb s k hk w h
  have e3 : s.getE k = 0 := by simp [St.getE, hg]
  have e4 : s.getB k = v := by simp [St.getB, hg]
  have hv : v.size ≤ 8388608 := h.ok.sizes _ (lget_mem hg)
  rw [e3, e4] at cG
  clear e3 e4 hg h hk
  simp only [dmgArg, Bool.or_eq_true, decide_eq_true_eq] at ha
  have ha' : x < 0 ∨ (0 ≤ x ∧ (v.size : Int) ≤ x) ∨ (0 ≤ x ∧ x < (v.size : Int) ∧ y < 1) ∨ (0 ≤ x ∧ x < (v.size : Int) ∧ 1 ≤ y ∧ 255 < y) := by omega
  clear ha
  rcases ha' with ha | ⟨h1, h2⟩ | ⟨h1, h2, h3⟩ | ⟨h1, h2, h3, h4⟩
  all_goals
    go_enter Try.func22, Try.ntmps22
    go_wp2_with (go_at_call 13; refine cG.mono ?_; rintro e w' ⟨rfl, rfl⟩)
    go_ret
    exact ⟨rfl, rfl⟩


theorem bw_frozen (w : World) (e : TypeId) (v : ByteArray) (x : Nat) (hx : x < v.size) : (Lib.bytesWorld w e v).frozen? ⟨w.heap.size, x, none⟩ = false := by
  simp only [World.frozen?, Lib.bytesWorld_at_new]
  have : v.size ≤ (Lib.bytesCells w e v).size := by simp [Lib.bytesCells]
  simp; omega
theorem bw_fr (S : List Nat) (w : World) (e : TypeId) (v : ByteArray) : Fr S w (Lib.bytesWorld w e v) :=
  ⟨rfl, rfl, rfl, by rw [Lib.bytesWorld_size]; omega, fun k hk _ => Lib.bytesWorld_at_old w e v k hk⟩
/-- The bytes as numbers, one changed. -/
def dmgNums (v : ByteArray) (x y : Int) : List Int := (v.data.toList.map fun b => (b.toNat : Int)).set x.toNat ((((v.data.toList.getD x.toNat 0).toNat : Int) + y) % 256)
theorem dmgNums_str (v : ByteArray) (x y : Int) (hy : 0 ≤ y) : strOfNums (dmgNums v x y) = dmgB v x y := by
  apply ByteArray.ext
  apply Array.toList_inj.1
  rw [strOfNums_data]
  unfold dmgNums dmgB
  rw [List.map_set, List.map_map]
  have e1 : (fun n : Int => UInt8.ofNat n.toNat) ∘ (fun b : UInt8 => (b.toNat : Int)) = id := by funext b; simp
  rw [e1, List.map_id]
  simp only [Array.toList_setIfInBounds]
  congr 1
  have e2 : v.data.toList.getD x.toNat 0 = v.data.getD x.toNat 0 := by simp
  rw [e2]
  apply UInt8.toNat_inj.1
  simp only [UInt8.toNat_ofNat']
  omega

set_option maxRecDepth 100000 in
theorem dmg_yes (b mb : Nat) (s : St) (k x y : Int) (hk : (Lit.int .i64 k).wf = true) (w : World) (h : StoreAt w b mb s) (v : ByteArray) (hg : lget s.files k = some v) (ha : dmgArg v x y = false) :
    Calls Try.prog 22 #[.pointer (some ⟨b, 0, none⟩), .int .i64 k, .int .i64 x, .int .i64 y] w fun e w' => e = .returned (.int .i64 0) ∧ StoreAt w' b mb ⟨lput s.files k (dmgB v x y), s.most⟩ ∧ Fr [b, mb] w w' := by
  have cG := get_any b mb s k hk w h
  have e3 : s.getE k = 0 := by simp [St.getE, hg]
  have e4 : s.getB k = v := by simp [St.getB, hg]
  have hv : v.size ≤ 8388608 := h.ok.sizes _ (lget_mem hg)
  have hok : St.Ok ⟨lput s.files k (dmgB v x y), s.most⟩ := by have := h.ok.dmg k x y; simp [St.dmg, hg, ha] at this; exact this
  rw [e3, e4] at cG
  have c0 := h.c0
  simp only [dmgArg, Bool.or_eq_false_iff, decide_eq_false_iff_not] at ha
  obtain ⟨⟨⟨h1, h2⟩, h3⟩, h4⟩ := ha
  have g1 : 0 ≤ x := by omega
  have g2 : x < (v.size : Int) := by omega
  have g3 : 1 ≤ y := by omega
  have g4 : y ≤ 255 := by omega
  have kc := Lib.run_convert_string_bytes (P := Try.prog) w 9 61 5 v Try.underlying9 Try.underlying61 Try.underlying5
  have fr1 := bw_fr [b, mb] w 5 v
  have hS1 : StoreAt (Lib.bytesWorld w 5 v) b mb s := h.fr (bw_fr [] w 5 v) (by simp) (by simp)
  have n0 : (Lib.bytesWorld w 5 v).cell? ⟨w.heap.size, x.toNat, none⟩ = some (.int .u8 (v.data.toList.getD x.toNat 0).toNat) := Lib.bytesWorld_cell w 5 v x.toNat (by omega)
  have n1 : (Lib.bytesWorld w 5 v).frozen? ⟨w.heap.size, x.toNat, none⟩ = false := bw_frozen w 5 v x.toNat (by omega)
  have HC : ∀ i, i < v.size → (Lib.bytesWorld w 5 v).cell? ⟨w.heap.size, i, none⟩ = some (.int .u8 (v.data.toList.getD i 0).toNat) := fun i hi => Lib.bytesWorld_cell w 5 v i hi
  have hsz := Lib.bytesWorld_size w 5 v
  have hb := (v.data.toList.getD x.toNat 0).toNat_lt
  generalize hW1 : Lib.bytesWorld w 5 v = W1 at kc fr1 hS1 n0 n1 HC hsz
  generalize hcap : grownCap w v.size 0 5 = cap at kc
  generalize hq : (v.data.toList.getD x.toNat 0).toNat = q at n0 hb
  have hqe : (((v.data.toList.getD x.toNat 0).toNat : Int) + y) % 256 = ((q : Int) + y) % 256 := by rw [hq]
  have hbl := h.lt; have hml := h.map.lt; have hne := h.ne
  have hlen := h.ok.len
  have d0 : (W1.setCell ⟨w.heap.size, x.toNat, none⟩ (.int .u8 (((q : Int) + y) % 256))).cell? ⟨b, 0, none⟩ = some (.map (some mb)) := by
    rw [World.cell?_of_block (w := W1) (Below.heap_setCell W1 _ _ b (by simp; omega))]; exact hS1.c0
  have hstr : (convert 61 9 (.slice (some ⟨w.heap.size, 0, none⟩) v.size cap)).run Try.prog (W1.setCell ⟨w.heap.size, x.toNat, none⟩ (.int .u8 (((q : Int) + y) % 256))).drew = .ok (.string (dmgB v x y)) (W1.setCell ⟨w.heap.size, x.toNat, none⟩ (.int .u8 (((q : Int) + y) % 256))).drew := by
    rw [← dmgNums_str v x y (by omega)]
    refine run_convert_bytes_arg _ 61 5 Try.underlying61 Try.underlying5 w.heap.size 0 v.size cap (dmgNums v x y) (by simp [dmgNums]) (fun i hi => ?_) 9 Try.underlying9
    rw [World.cell?_drew, Nat.zero_add]
    have hl : i < v.data.toList.length := by rw [Array.length_toList]; exact hi
    have hc := HC i hi
    by_cases hix : i = x.toNat
    · subst hix
      rw [World.cell?_setCell_same (h := hc)]
      unfold dmgNums
      rw [hqe, List.getD_eq_getElem?_getD, List.getElem?_set_self (by simpa using hl)]
      rfl
    · rw [World.cell?_setCell_other (a := ⟨w.heap.size, x.toNat, none⟩) (b := ⟨w.heap.size, i, none⟩) (h := fun e => hix (by injection e with _ e2; exact e2.symm)), hc]
      unfold dmgNums
      rw [List.getD_eq_getElem?_getD, List.getD_eq_getElem?_getD, List.getElem?_set_ne (by omega), List.getElem?_map, List.getElem?_eq_getElem hl]
      rfl
  have hS2 : StoreAt (W1.setCell ⟨w.heap.size, x.toNat, none⟩ (.int .u8 (((q : Int) + y) % 256))).drew b mb s :=
    ⟨(Below.heap_setCell W1 _ _ b (by simp; omega)).trans hS1.blk, hS1.map.of_block (Below.heap_setCell W1 _ _ mb (by simp; omega)), h.ok⟩
  obtain ⟨w2, hrun, hmap2, hturn⟩ := hS2.map.store hk (by unfold maxLen; omega) (v := dmgB v x y) (by rw [dmgB_size]; unfold maxLen; omega)
  have fr2 : Fr [b, mb] w w2 := ((fr1.setCell (p := ⟨w.heap.size, x.toNat, none⟩) (.inr (Nat.le_refl _)) (.int .u8 (((q : Int) + y) % 256))).drew).turned hturn (.inl (by simp))
  have hb2 : w2.heap[b]? = some (.cells #[.map (some mb), .int .i64 s.most] 53 (0, 0)) :=
    (hturn.grown.block b hS2.lt (by simp [hne])).trans hS2.blk
  have HH := hid (And.intro (StoreAt.mk (s := ⟨lput s.files k (dmgB v x y), s.most⟩) hb2 hmap2 hok) fr2)
  clear h1 h2 h3 h4 e3 e4 h hcap hW1 hq hqe fr1 hS1 hS2 HC hturn hb2 hmap2 fr2 hok hbl hml hlen hsz hg hk hne
  go_enter Try.func22, Try.ntmps22
  go_wp2_with (go_at_call 13; refine cG.mono ?_; rintro e w' ⟨rfl, rfl⟩)
  go_region
  all_goals go_wp2
  all_goals go_ret
  all_goals exact ⟨rfl, HH.out⟩

theorem dmg_any (b mb : Nat) (s : St) (k x y : Int) (hk : (Lit.int .i64 k).wf = true) (w : World) (h : StoreAt w b mb s) :
    Calls Try.prog 22 #[.pointer (some ⟨b, 0, none⟩), .int .i64 k, .int .i64 x, .int .i64 y] w fun e w' => e = .returned (.int .i64 (s.dmgE k x y)) ∧ StoreAt w' b mb (s.dmg k x y) ∧ Fr [b, mb] w w' := by
  cases hg : lget s.files k with
  | none =>
    have e1 : s.dmgE k x y = 6 ∧ s.dmg k x y = s := by simp [St.dmgE, St.dmg, hg]
    rw [e1.1, e1.2]
    exact (dmg_none b mb s k x y hk w h hg).mono fun e w' ⟨h1, h2⟩ => by subst h2; exact ⟨h1, h, Fr.refl _ _⟩
  | some v =>
    cases ha : dmgArg v x y with
    | true =>
      have e1 : s.dmgE k x y = 3 ∧ s.dmg k x y = s := by simp [St.dmgE, St.dmg, hg, ha]
      rw [e1.1, e1.2]
      exact (dmg_arg b mb s k x y hk w h v hg ha).mono fun e w' ⟨h1, h2⟩ => by subst h2; exact ⟨h1, h, Fr.refl _ _⟩
    | false =>
      have e1 : s.dmgE k x y = 0 ∧ s.dmg k x y = ⟨lput s.files k (dmgB v x y), s.most⟩ := by simp [St.dmgE, St.dmg, hg, ha]
      rw [e1.1, e1.2]
      exact dmg_yes b mb s k x y hk w h v hg ha

theorem put_any (b mb : Nat) (s : St) (x : ByteArray) (w : World) (h : StoreAt w b mb s) (hx : x.size ≤ maxLen) :
    Calls Try.prog 12 #[.pointer (some ⟨b, 0, none⟩), .string x] w fun e w' => e = .returned (.tuple #[.int .i64 (s.putN x), .int .i64 (s.putE x)]) ∧ StoreAt w' b mb (s.put x) ∧ Fr [b, mb] w w' := by
  cases hf : s.full x with
  | true =>
    have e1 : s.putN x = 0 ∧ s.putE x = 2 ∧ s.put x = s := by simp [St.putN, St.putE, St.put, hf]
    rw [e1.1, e1.2.1, e1.2.2]
    exact (put_full b mb s x w h hx hf).mono fun e w' ⟨h1, h2⟩ => by subst h2; exact ⟨h1, h, Fr.refl _ _⟩
  | false =>
    have e1 : s.putN x = s.most + 1 ∧ s.putE x = 0 := by simp [St.putN, St.putE, hf]
    rw [e1.1, e1.2]
    exact put_room b mb s x w h hx hf

end Go.Proofs.Ytggkhgpdnjkfcaa
