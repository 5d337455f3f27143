/-
  The walk of the reference's Damage, where it changes a byte.
-/
import Derived.Test.YtggkhgpdnjkfcaaTb
namespace Go.Proofs.Ytggkhgpdnjkfcaa
open Go.RowKit Go.Maps Go.Proofs.Ytggkhgpdnjkfcaa.PStorePlays Go.Proofs.YtggkhgpdnjkfcaaW.PrintWords Go.Proofs.YtggkhgpdnjkfcaaW.PrintLast Go.Proofs.YtggkhgpdnjkfcaaW.PrintMore

theorem w64_in (n : Int) (h : -9223372036854775808 ≤ n ∧ n ≤ 9223372036854775807) : wrap64 n = n := by rw [← i64_w]; exact IntWalk.i64_in n h
theorem byteE (q : Nat) (y : Int) (hq : q < 256) (h1 : 1 ≤ y) (h2 : y ≤ 255) : (wrap64 (wrap64 (q : Int) + y)).tmod 256 % 256 = ((q : Int) + y) % 256 := by
  rw [w64_in (q : Int) (by omega), w64_in _ (by omega), Int.tmod_eq_emod_of_nonneg (by omega)]
  omega

set_option maxRecDepth 100000 in
set_option maxHeartbeats 1000000 in
theorem rdmg_yes (rb : Nat) (s : St) (k x y : Int) (w : World) (h : RefAt w rb s) (v : ByteArray) (hg : lget s.files k = some v) (ha : dmgArg v x y = false) :
    Calls Try.prog 32 #[.pointer (some ⟨rb, 0, none⟩), .int .i64 k, .int .i64 x, .int .i64 y] w fun e w' => e = .returned (.int .i64 0) ∧ RefAt w' rb ⟨lput s.files k (dmgB v x y), s.most⟩ ∧ Fr [rb] w w' := by
  have H := hid h
  obtain ⟨v0, hb, hv⟩ := h.blk
  obtain ⟨A, c, rfl, hlc, -⟩ := hv.reads
  have c0 : w.cell? ⟨rb, 0, none⟩ = some (.slice A (FS s.files).length c) := cell_of_row w rb 0 _ _ _ hb
  have c1 : w.cell? ⟨rb, 1, none⟩ = some (.int .i64 s.most) := cell_of_row w rb 1 _ _ _ hb
  have hi : isAt s.files k = true := by rw [isAt_lget s.files k h.ok.rise, hg]; rfl
  have hvs : v.size ≤ 8388608 := h.ok.sizes _ (lget_mem hg)
  have hok : St.Ok ⟨lput s.files k (dmgB v x y), s.most⟩ := by have := h.ok.dmg k x y; simp [St.dmg, hg, ha] at this; exact this
  have hp := pos_at h.ok.rise hg
  have HS := hid (lput_set (u := dmgB v x y) h.ok.rise hg)
  have HV := hid hv
  have HB := hid hb
  simp only [dmgArg, Bool.or_eq_false_iff, decide_eq_false_iff_not] at ha
  obtain ⟨⟨⟨h1, h2⟩, h3⟩, h4⟩ := ha
  have g1 : 0 ≤ x := by omega
  have g2 : x < (v.size : Int) := by omega
  have g3 : 1 ≤ y := by omega
  have g4 : y ≤ 255 := by omega
  clear h1 h2 h3 h4 h hb hv
  go_enter Try.func32, Try.ntmps32
  go_wp2_with fail
  refine (rplace HV.out H.out.ok.len _ _).mono ?_
  rintro e w1 ⟨rfl, f1⟩
  rw [hi]
  clear c0 c1
  have hlen := H.out.ok.len
  obtain ⟨g, rfl, hgl, hpl, -, p1⟩ := (HV.out.fr f1 (by simp)).at hp
  have c0 : w1.cell? ⟨rb, 0, none⟩ = some (.slice (some ⟨g, 0, none⟩) (FS s.files).length c) := (f1.cell (p := ⟨rb, 0, none⟩) H.out.lt (by simp)).trans (cell_of_row w rb 0 _ _ _ HB.out)
  have hm0 : (0 : Int) ≤ (pos s.files k : Int) := by omega
  have hm1 : (pos s.files k : Int) < ((FS s.files).length : Int) := by omega
  have kc := Lib.run_convert_string_bytes (P := Try.prog) w1 9 61 5 v Try.underlying9 Try.underlying61 Try.underlying5
  have fr1 : Fr [] w (Lib.bytesWorld w1 5 v) := f1.then (bw_fr [] w1 5 v)
  have n0 : (Lib.bytesWorld w1 5 v).cell? ⟨w1.heap.size, x.toNat, none⟩ = some (.int .u8 (v.data.toList.getD x.toNat 0).toNat) := Lib.bytesWorld_cell w1 5 v x.toNat (by omega)
  have n1 : (Lib.bytesWorld w1 5 v).frozen? ⟨w1.heap.size, x.toNat, none⟩ = false := bw_frozen w1 5 v x.toNat (by omega)
  have HC : ∀ i, i < v.size → (Lib.bytesWorld w1 5 v).cell? ⟨w1.heap.size, i, none⟩ = some (.int .u8 (v.data.toList.getD i 0).toNat) := fun i hi => Lib.bytesWorld_cell w1 5 v i hi
  have hsz := Lib.bytesWorld_size w1 5 v
  have hb := (v.data.toList.getD x.toNat 0).toNat_lt
  generalize hW1 : Lib.bytesWorld w1 5 v = W1 at kc fr1 n0 n1 HC hsz
  generalize hcap : grownCap w1 v.size 0 5 = cap at kc
  generalize hq : (v.data.toList.getD x.toNat 0).toNat = q at n0 hb
  have hqe : (((v.data.toList.getD x.toNat 0).toNat : Int) + y) % 256 = ((q : Int) + y) % 256 := by rw [hq]
  have HE := hid (byteE q y (by omega) g3 g4)
  have sz1 := f1.size
  -- the byte stored
  have fr2 : Fr [] w (W1.setCell ⟨w1.heap.size, x.toNat, none⟩ (.int .u8 ((wrap64 (wrap64 (q : Int) + y)).tmod 256 % 256))) := fr1.setCell (p := ⟨w1.heap.size, x.toNat, none⟩) (.inr sz1) _
  -- the copy of the list
  have fr3 := fr2.alloc (.cells #[] 64)
  generalize hW2 : W1.setCell ⟨w1.heap.size, x.toNat, none⟩ (.int .u8 ((wrap64 (wrap64 (q : Int) + y)).tmod 256 % 256)) = W2 at fr2 fr3
  have hsz2 : W2.heap.size = W1.heap.size := by rw [← hW2]; simp [World.setCell]
  have d0 : (W2.alloc (.cells #[] 64)).cell? ⟨rb, 0, none⟩ = some (.slice (some ⟨g, 0, none⟩) (FS s.files).length c) := (fr3.cell (p := ⟨rb, 0, none⟩) H.out.lt (by simp)).trans (cell_of_row w rb 0 _ _ _ HB.out)
  have hC1 : Kd.C k64 (W2.alloc (.cells #[] 64)) (some ⟨g, 0, none⟩) (FS s.files).length (FS s.files) := (HV.out.fr fr3 (by simp)).len.2.2
  obtain ⟨A1, n1', c1', w4, run1, v1, gr1, at1⟩ := (RefV.litEmpty W2).append (c := c) hC1 (by rw [FS_len]; simp; omega)
  simp only [List.nil_append] at v1
  have fr4 : Fr [] w w4 := fr3.grown gr1 (fun z hz => by simp [Value.ownBlock] at hz; have := fr2.size; exact .inr (by omega))
  -- the bytes as a string
  have hstr : (convert 61 9 (.slice (some ⟨w1.heap.size, 0, none⟩) v.size cap)).run Try.prog w4 = .ok (.string (dmgB v x y)) w4 := by
    rw [← dmgNums_str v x y (by omega)]
    refine run_convert_bytes_arg _ 61 5 Try.underlying61 Try.underlying5 w1.heap.size 0 v.size cap (dmgNums v x y) (by simp [dmgNums]) (fun i hi => ?_) 9 Try.underlying9
    have hl : i < v.data.toList.length := by rw [Array.length_toList]; exact hi
    have hc := HC i hi
    have hk4 : w4.cell? ⟨w1.heap.size, 0 + i, none⟩ = W2.cell? ⟨w1.heap.size, i, none⟩ := by
      rw [Nat.zero_add]
      refine World.cell?_of_block (w := W2) ?_
      rw [gr1.block w1.heap.size (by simp; omega) (by simp [Value.ownBlock]; omega)]
      exact Below.heap_alloc W2 _ _ (by omega)
    rw [hk4, ← hW2]
    by_cases hix : i = x.toNat
    · subst hix
      rw [World.cell?_setCell_same (h := hc)]
      unfold dmgNums
      rw [hqe, HE.out, List.getD_eq_getElem?_getD, List.getElem?_set_self (by simpa using hl)]
      rfl
    · rw [World.cell?_setCell_other (a := ⟨w1.heap.size, x.toNat, none⟩) (b := ⟨w1.heap.size, i, none⟩) (h := fun e => hix (by injection e with _ e2; exact e2.symm)), hc]
      unfold dmgNums
      rw [List.getD_eq_getElem?_getD, List.getD_eq_getElem?_getD, List.getElem?_set_ne (by omega), List.getElem?_map, List.getElem?_eq_getElem hl]
      rfl
  -- the copy's cell
  obtain ⟨g', rfl, hgl', hpl', -, -⟩ := v1.at hp
  obtain ⟨t0, t1, t2⟩ := v1.setB hp (dmgB v x y)
  have hg' : w.heap.size ≤ g' := by
    have s1 := fr2.size
    rcases at1 with e | e
    · simp [Value.ownBlock] at e; omega
    · simp [Value.ownBlock] at e; omega
  have fr5 : Fr [] w (w4.setCell ⟨g', pos s.files k * 2 + 1, none⟩ (.string (dmgB v x y))) := fr4.setCell (p := ⟨g', pos s.files k * 2 + 1, none⟩) (.inr hg') _
  have k0 : (w4.setCell ⟨g', pos s.files k * 2 + 1, none⟩ (.string (dmgB v x y))).cell? ⟨rb, 0, none⟩ = some (.slice (some ⟨g, 0, none⟩) (FS s.files).length c) := (fr5.cell (p := ⟨rb, 0, none⟩) H.out.lt (by simp)).trans (cell_of_row w rb 0 _ _ _ HB.out)
  have kf : ∀ i, (w4.setCell ⟨g', pos s.files k * 2 + 1, none⟩ (.string (dmgB v x y))).frozen? ⟨rb, i, none⟩ = false := fun i => blk_frozen ((fr5.block rb H.out.lt (by simp)).trans HB.out) i
  have hm2 : (pos s.files k : Int) < (n1' : Int) := by omega
  have HF5 := hid fr5
  have HV5 : Hid (RefV (w4.setCell ⟨g', pos s.files k * 2 + 1, none⟩ (.string (dmgB v x y))) (.slice (some ⟨g', 0, none⟩) n1' c1') (lput s.files k (dmgB v x y))) := by
    rw [HS.out]; exact t2
  have HOK := hid hok
  have HW2 := hid hW2
  clear hW2 t2 fr5 fr4 fr3 fr2 fr1 v1 at1 gr1 hC1 HC hqe HE hq hcap hW1 hb hsz hsz2 sz1 hg' hgl' hpl' hgl hlen f1 hok hp hlc hg
  go_wp2_with (first
      | ((with_reducible refine gate_dst (N := 62) rfl ?_); rw [HW2.out])
      | ((with_reducible refine gate_dst (N := 67) rfl ?_); refine step_append (v := .slice (some ⟨W2.heap.size, 0, none⟩) 0 0) (y := .slice (some ⟨g, 0, none⟩) (FS s.files).length c) (v1 := .slice (some ⟨g', 0, none⟩) n1' c1') (w1 := w4) rfl (.tmp 62) (.tmp 66) 41 rfl rfl rfl run1 ?_))
  go_ret
  exact ⟨rfl, (H.out.fr HF5.out (by simp) (by simp)).put0 (s' := ⟨lput s.files k (dmgB v x y), s.most⟩) HV5.out HOK.out rfl, (HF5.out.mono (by simp)).setCell (.inl (by simp)) _⟩

theorem rdmg_any (rb : Nat) (s : St) (k x y : Int) (w : World) (h : RefAt w rb s) :
    Calls Try.prog 32 #[.pointer (some ⟨rb, 0, none⟩), .int .i64 k, .int .i64 x, .int .i64 y] w fun e w' => e = .returned (.int .i64 (s.dmgE k x y)) ∧ RefAt w' rb (s.dmg k x y) ∧ Fr [rb] w w' := by
  cases hg : lget s.files k with
  | none =>
    have e1 : s.dmgE k x y = 6 ∧ s.dmg k x y = s := by simp [St.dmgE, St.dmg, hg]
    rw [e1.1, e1.2]
    exact (rdmg_none rb s k x y w h hg).mono fun e w' ⟨h1, h2⟩ => ⟨h1, h.fr h2 (by simp) (by simp), h2.mono (by simp)⟩
  | some v =>
    cases ha : dmgArg v x y with
    | true =>
      have e1 : s.dmgE k x y = 3 ∧ s.dmg k x y = s := by simp [St.dmgE, St.dmg, hg, ha]
      rw [e1.1, e1.2]
      exact (rdmg_arg rb s k x y w h v hg ha).mono fun e w' ⟨h1, h2⟩ => ⟨h1, h.fr h2 (by simp) (by simp), h2.mono (by simp)⟩
    | false =>
      have e1 : s.dmgE k x y = 0 ∧ s.dmg k x y = ⟨lput s.files k (dmgB v x y), s.most⟩ := by simp [St.dmgE, St.dmg, hg, ha]
      rw [e1.1, e1.2]
      exact rdmg_yes rb s k x y w h v hg ha

end Go.Proofs.Ytggkhgpdnjkfcaa
