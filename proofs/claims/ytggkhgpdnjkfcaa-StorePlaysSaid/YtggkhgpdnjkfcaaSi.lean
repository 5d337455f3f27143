/-
  The walk of play.
-/
import Derived.Test.YtggkhgpdnjkfcaaSh
namespace Go.Proofs.Ytggkhgpdnjkfcaa
open Go.RowKit Go.Maps

theorem bd64 {n : Int} (h : (Lit.int .i64 n).wf = true) : -9223372036854775808 ≤ n ∧ n ≤ 9223372036854775807 := by
  simp [Lit.wf, IntKind.min, IntKind.max, IntKind.signed, IntKind.bits] at h
  omega
def sPut : ByteArray := ⟨#[112, 117, 116]⟩
def sDrop : ByteArray := ⟨#[100, 114, 111, 112]⟩
def sCopy : ByteArray := ⟨#[99, 111, 112, 121]⟩
def sDamage : ByteArray := ⟨#[100, 97, 109, 97, 103, 101]⟩
def putMany : Nat → St → St
  | 0, s => s
  | k + 1, s => (putMany k s).put ⟨#[]⟩
def act1 (x : Ac) (s t : St) : St :=
  if x.op = sPut then s.put x.bytes else if x.op = sMany then putMany x.file.toNat s else if x.op = sDrop then s.drop x.file
  else if x.op = sCopy then s.copy t x.file else if x.op = sDamage then s.dmg x.file x.at_ x.by_ else s
def stepP (p : St × St) (x : Ac) : St × St := if x.second then (p.1, act1 x p.2 p.1) else (act1 x p.1 p.2, p.2)
def playL (xs : List Ac) (p : St × St) : St × St := xs.foldl stepP p
theorem playL_more {xs : List Ac} {k : Nat} {x : Ac} (h : xs[k]? = some x) (p : St × St) : playL (xs.take (k + 1)) p = stepP (playL (xs.take k) p) x := by
  obtain ⟨hk, he⟩ := List.getElem?_eq_some_iff.1 h
  unfold playL
  rw [List.take_succ_eq_append_getElem hk, List.foldl_append, he]; rfl
theorem op_test (s c : ByteArray) (l : List UInt8) (hc : c.toList = l) : (s.toList == l) = decide (s = c) := by
  subst hc
  by_cases h : s = c
  · subst h; simp
  · have : s.toList ≠ c.toList := fun e => h (by
      rw [ByteArray.toList_eq, ByteArray.toList_eq] at e
      exact ByteArray.ext (Array.toList_inj.1 e))
    simp [h, this]
theorem act1_ok {x : Ac} {s t : St} (hs : s.Ok) (ht : t.Ok) : (act1 x s t).Ok := by
  have hm : ∀ k, (putMany k s).Ok := fun k => by
    induction k with
    | zero => exact hs
    | succ k ih => exact ih.put _
  unfold act1
  repeat' split
  · exact hs.put _
  · exact hm _
  · exact hs.drop _
  · exact hs.copy ht _
  · exact hs.dmg _ _ _
  · exact hs

/-- One act done: what it does to its store, the other one as it was. -/
structure Done (w w' : World) (b mb b2 mb2 : Nat) (s t : St) : Prop where
  one : StoreAt w' b mb s
  two : StoreAt w' b2 mb2 t
  fr : Fr [b, mb, b2, mb2] w w'

theorem op_is {op : ByteArray} {l : List UInt8} (h : op.toList = l) : op = ⟨l.toArray⟩ := by
  rw [ByteArray.toList_eq] at h
  exact ByteArray.ext (by rw [← h])
section
variable {op bytes : ByteArray} {sec : Bool} {file at_ by_ : Int} {lv : Value} {nums : List Int} {u v : St}
theorem act_put (h : (op.toList == [112, 117, 116]) = true) : act1 ⟨op, sec, bytes, file, at_, by_, lv, nums⟩ u v = u.put bytes := by
  rw [op_is (beq_iff_eq.1 h)]; rfl
theorem act_many (h : (op.toList == [109, 97, 110, 121]) = true) : act1 ⟨op, sec, bytes, file, at_, by_, lv, nums⟩ u v = putMany file.toNat u := by
  rw [op_is (beq_iff_eq.1 h)]; rfl
theorem act_drop (h : (op.toList == [100, 114, 111, 112]) = true) : act1 ⟨op, sec, bytes, file, at_, by_, lv, nums⟩ u v = u.drop file := by
  rw [op_is (beq_iff_eq.1 h)]; rfl
theorem act_copy (h : (op.toList == [99, 111, 112, 121]) = true) : act1 ⟨op, sec, bytes, file, at_, by_, lv, nums⟩ u v = u.copy v file := by
  rw [op_is (beq_iff_eq.1 h)]; rfl
theorem act_damage (h : (op.toList == [100, 97, 109, 97, 103, 101]) = true) : act1 ⟨op, sec, bytes, file, at_, by_, lv, nums⟩ u v = u.dmg file at_ by_ := by
  rw [op_is (beq_iff_eq.1 h)]; rfl
theorem act_none (h1 : (op.toList == [112, 117, 116]) = false) (h2 : (op.toList == [109, 97, 110, 121]) = false) (h3 : (op.toList == [100, 114, 111, 112]) = false) (h4 : (op.toList == [99, 111, 112, 121]) = false) (h5 : (op.toList == [100, 97, 109, 97, 103, 101]) = false) :
    act1 ⟨op, sec, bytes, file, at_, by_, lv, nums⟩ u v = u := by
  have e : ∀ (c : ByteArray) (l : List UInt8), c.toList = l → (op.toList == l) = false → op ≠ c := fun c l hc hl e => by
    rw [op_test op c l hc, e] at hl; simp at hl
  unfold act1
  rw [if_neg (e sPut _ (by decide +kernel) h1), if_neg (e sMany _ (by decide +kernel) h2), if_neg (e sDrop _ (by decide +kernel) h3), if_neg (e sCopy _ (by decide +kernel) h4), if_neg (e sDamage _ (by decide +kernel) h5)]
end
theorem Done.step1 {w wr w' : World} {b mb b2 mb2 : Nat} {u v u' : St} (h : Done w wr b mb b2 mb2 u v) (hn : b2 ∉ [b, mb] ∧ mb2 ∉ [b, mb]) (o : Obj) (h1 : StoreAt w' b mb u') (f : Fr [b, mb] (wr.alloc o) w') : Done w w' b mb b2 mb2 u' v :=
  ⟨h1, (h.two.fr ((Fr.refl [] wr).alloc o) (by simp) (by simp)).fr f hn.1 hn.2, (h.fr.alloc o).trans f (fun z hz => .inl (by simp at hz ⊢; omega))⟩
theorem Done.step2 {w wr w' : World} {b mb b2 mb2 : Nat} {u v v' : St} (h : Done w wr b mb b2 mb2 u v) (hn : b ∉ [b2, mb2] ∧ mb ∉ [b2, mb2]) (o : Obj) (h1 : StoreAt w' b2 mb2 v') (f : Fr [b2, mb2] (wr.alloc o) w') : Done w w' b mb b2 mb2 u v' :=
  ⟨(h.one.fr ((Fr.refl [] wr).alloc o) (by simp) (by simp)).fr f hn.1 hn.2, h1, (h.fr.alloc o).trans f (fun z hz => .inl (by simp at hz ⊢; omega))⟩

set_option maxRecDepth 100000 in
set_option maxHeartbeats 4000000 in
theorem play_any (B : Nat) (a : Option Addr) (n c : Nat) (xs : List Ac) (w : World) (h : ActsB B w a n xs) (b mb b2 mb2 : Nat) (s t : St) (hs : StoreAt w b mb s) (ht : StoreAt w b2 mb2 t)
    (hB1 : B ≤ b) (hB2 : B ≤ mb) (hB3 : B ≤ b2) (hB4 : B ≤ mb2) (hn1 : b ≠ b2) (hn2 : mb ≠ mb2) :
    Calls Try.prog 10 #[.slice a n c, .pointer (some ⟨b, 0, none⟩), .pointer (some ⟨b2, 0, none⟩)] w fun e w' => e = .returned (.tuple #[]) ∧ Done w w' b mb b2 mb2 (playL xs (s, t)).1 (playL xs (s, t)).2 := by
  have hsm := h.small
  have HL := hid h.len
  have H := hid h
  have hq1 : b ≠ mb2 := hs.ne_map ht.map
  have hq2 : b2 ≠ mb := ht.ne_map hs.map
  have HN : Hid (b ∉ [b2, mb2] ∧ mb ∉ [b2, mb2] ∧ b2 ∉ [b, mb] ∧ mb2 ∉ [b, mb]) := by
    refine ⟨?_, ?_, ?_, ?_⟩ <;> simp <;> omega
  have HBB : Hid (∀ z, z ∈ [b, mb, b2, mb2] → B ≤ z) := by
    intro z hz; simp at hz; rcases hz with rfl | rfl | rfl | rfl <;> assumption
  have HS := hid (And.intro hs ht)
  have hbw : B ≤ w.heap.size := by have := hs.lt; omega
  have HW := hid hbw
  clear h hs ht hB1 hB2 hB3 hB4 hn1 hn2 hq1 hq2 hbw
  go_enter Try.func10, Try.ntmps10
  go_wp2
  go_loopw [6] (fun i wr => ∃ (k : Nat), i = .int .i64 k ∧ k ≤ n ∧ Done w wr b mb b2 mb2 (playL (xs.take k) (s, t)).1 (playL (xs.take k) (s, t)).2) (fun i _ => n - (intOf i).toNat)
  case atStart => exact ⟨0, rfl, Nat.zero_le _, HS.out.1, HS.out.2, Fr.refl _ _⟩
  case round =>
    obtain ⟨k, rfl, hk, hd⟩ := hrel
    by_cases hlt : k < n
    · obtain ⟨x, hx⟩ : ∃ x, xs[k]? = some x := ⟨_, List.getElem?_eq_getElem (by rw [HL.out]; exact hlt)⟩
      have hbel : Below B w wr := hd.fr.below HW.out HBB.out
      obtain ⟨pb, off, rfl, hB, c0, c1, c2, c3, c4, c5, c6, r1, r2, r3, r4, r5, r6⟩ := (H.out.below hbel).get k x hx
      have HX := hid (playL_more hx (s, t))
      obtain ⟨op, second, bytes, file, at_, by_, lv, nums⟩ := x
      simp only at c0 c1 c2 c3 c4 c5 c6 r1 r2 r3 r4 r5 r6
      obtain ⟨⟨la, lc, rfl, -⟩, -⟩ := r6
      have wf := bd64 r3
      unfold maxLen at r1
      clear hx hbel hB
      generalize playL (xs.take k) (s, t) = st at hd HX
      obtain ⟨u, v⟩ := st
      have HD := hid hd
      clear hd
      cases second
      · have HT : Hid (∀ o, StoreAt (wr.alloc o) b mb u) := fun o => HD.out.one.fr ((Fr.refl [] wr).alloc o) (by simp) (by simp)
        have HO : Hid (∀ o, StoreAt (wr.alloc o) b2 mb2 v) := fun o => HD.out.two.fr ((Fr.refl [] wr).alloc o) (by simp) (by simp)
        have HF : Hid (∀ o w' s', StoreAt w' b mb s' → Fr [b, mb] (wr.alloc o) w' → act1 ⟨op, false, bytes, file, at_, by_, .slice la nums.length lc, nums⟩ u v = s' → Done w w' b mb b2 mb2 (playL (xs.take (k + 1)) (s, t)).1 (playL (xs.take (k + 1)) (s, t)).2) := fun o w' s' h1 h2 h3 => by
          have e : playL (xs.take (k + 1)) (s, t) = (s', v) := by rw [HX.out]; simp [stepP, h3]
          rw [e]; exact HD.out.step1 HN.out.2.2 o h1 h2
        by_cases hm : op.toList = [109, 97, 110, 121]
        · have hmt : (op.toList == [109, 97, 110, 121]) = true := by simpa using hm
          have hm1 : (op.toList == [112, 117, 116]) = false := by rw [hm]; decide
          clear hm
          have HZ : Hid (b < wr.heap.size ∧ mb < wr.heap.size) := ⟨(HD.out.one).lt, (HD.out.one).map.lt⟩
          obtain ⟨wo, rfl⟩ : ∃ wo : World, wo = wr := ⟨_, rfl⟩
          go_wp2_with fail
          go_loopw [10] (fun j w3 => ∃ m : Nat, j = .int .i64 m ∧ (m : Int) ≤ max 0 file ∧ StoreAt w3 b mb (putMany m u) ∧ Fr [b, mb] (wo.alloc (.cells #[.string op, .bool false, .string bytes, .int .i64 file, .int .i64 at_, .int .i64 by_, .slice la nums.length lc] 34)) w3) (fun j _ => file.toNat - (intOf j).toNat)
          case atStart => exact ⟨0, rfl, by omega, HT.out _, Fr.refl _ _⟩
          case round =>
            obtain ⟨m, rfl, hm, hst, hfr⟩ := hrel
            have d3 : wr.cell? ⟨wo.heap.size, 3, none⟩ = some (.int .i64 file) := by
              rw [hfr.cell (p := ⟨wo.heap.size, 3, none⟩) (by simp) (by have := HZ.out; simp; omega)]; simp
            have P1 := hid hst
            have P2 := hid hfr
            clear hst hfr
            by_cases hmf : (m : Int) < file
            · go_wp2_with (go_at_call 12; refine (put_any _ _ _ _ _ P1.out (by decide)).mono ?_; rintro e w1 ⟨rfl, p1, p2⟩)
              go_roundw
              case rel => exact ⟨m + 1, by go_num, by omega, p1, P2.out.then p2⟩
              case measure => simp [intOf]; omega
            · go_wp2
              go_roundw
              case rel =>
                have e : m = file.toNat := by omega
                exact ⟨k + 1, by go_num, by omega, HF.out _ _ _ P1.out P2.out (by rw [act_many hmt, e])⟩
              case measure => simp [intOf]; omega
        · have hm0 : (op.toList == [109, 97, 110, 121]) = false := by simpa using hm
          clear hm
          go_wp2_with (first
            | (go_at_call 12; refine (put_any _ _ _ _ _ (HT.out _) r2).mono ?_; rintro e w1 ⟨rfl, p1, p2⟩)
            | (go_at_call 23; refine (drop_any _ _ _ _ r3 _ (HT.out _)).mono ?_; rintro e w1 ⟨rfl, p1, p2⟩)
            | (go_at_call 15; refine (copy_any _ _ _ _ _ _ _ r3 _ (HT.out _) (HO.out _)).mono ?_; rintro e w1 ⟨rfl, p1, p2⟩)
            | (go_at_call 22; refine (dmg_any _ _ _ _ _ _ r3 _ (HT.out _)).mono ?_; rintro e w1 ⟨rfl, p1, p2⟩))
          all_goals go_roundw
          all_goals first
            | (case measure => simp [intOf]; omega)
            | (case rel => first
                | exact ⟨k + 1, by go_num, by omega, HF.out _ _ _ p1 p2 (act_put (by assumption))⟩
                | exact ⟨k + 1, by go_num, by omega, HF.out _ _ _ p1 p2 (act_drop (by assumption))⟩
                | exact ⟨k + 1, by go_num, by omega, HF.out _ _ _ p1 p2 (act_copy (by assumption))⟩
                | exact ⟨k + 1, by go_num, by omega, HF.out _ _ _ p1 p2 (act_damage (by assumption))⟩
                | exact ⟨k + 1, by go_num, by omega, HF.out _ _ _ (HT.out _) (Fr.refl _ _) (act_none (by assumption) (by assumption) (by assumption) (by assumption) (by assumption))⟩)
      · have HT : Hid (∀ o, StoreAt (wr.alloc o) b2 mb2 v) := fun o => HD.out.two.fr ((Fr.refl [] wr).alloc o) (by simp) (by simp)
        have HO : Hid (∀ o, StoreAt (wr.alloc o) b mb u) := fun o => HD.out.one.fr ((Fr.refl [] wr).alloc o) (by simp) (by simp)
        have HF : Hid (∀ o w' s', StoreAt w' b2 mb2 s' → Fr [b2, mb2] (wr.alloc o) w' → act1 ⟨op, true, bytes, file, at_, by_, .slice la nums.length lc, nums⟩ v u = s' → Done w w' b mb b2 mb2 (playL (xs.take (k + 1)) (s, t)).1 (playL (xs.take (k + 1)) (s, t)).2) := fun o w' s' h1 h2 h3 => by
          have e : playL (xs.take (k + 1)) (s, t) = (u, s') := by rw [HX.out]; simp [stepP, h3]
          rw [e]; exact HD.out.step2 ⟨HN.out.1, HN.out.2.1⟩ o h1 h2
        by_cases hm : op.toList = [109, 97, 110, 121]
        · have hmt : (op.toList == [109, 97, 110, 121]) = true := by simpa using hm
          have hm1 : (op.toList == [112, 117, 116]) = false := by rw [hm]; decide
          clear hm
          have HZ : Hid (b2 < wr.heap.size ∧ mb2 < wr.heap.size) := ⟨(HD.out.two).lt, (HD.out.two).map.lt⟩
          obtain ⟨wo, rfl⟩ : ∃ wo : World, wo = wr := ⟨_, rfl⟩
          go_wp2_with fail
          go_loopw [10] (fun j w3 => ∃ m : Nat, j = .int .i64 m ∧ (m : Int) ≤ max 0 file ∧ StoreAt w3 b2 mb2 (putMany m v) ∧ Fr [b2, mb2] (wo.alloc (.cells #[.string op, .bool true, .string bytes, .int .i64 file, .int .i64 at_, .int .i64 by_, .slice la nums.length lc] 34)) w3) (fun j _ => file.toNat - (intOf j).toNat)
          case atStart => exact ⟨0, rfl, by omega, HT.out _, Fr.refl _ _⟩
          case round =>
            obtain ⟨m, rfl, hm, hst, hfr⟩ := hrel
            have d3 : wr.cell? ⟨wo.heap.size, 3, none⟩ = some (.int .i64 file) := by
              rw [hfr.cell (p := ⟨wo.heap.size, 3, none⟩) (by simp) (by have := HZ.out; simp; omega)]; simp
            have P1 := hid hst
            have P2 := hid hfr
            clear hst hfr
            by_cases hmf : (m : Int) < file
            · go_wp2_with (go_at_call 12; refine (put_any _ _ _ _ _ P1.out (by decide)).mono ?_; rintro e w1 ⟨rfl, p1, p2⟩)
              go_roundw
              case rel => exact ⟨m + 1, by go_num, by omega, p1, P2.out.then p2⟩
              case measure => simp [intOf]; omega
            · go_wp2
              go_roundw
              case rel =>
                have e : m = file.toNat := by omega
                exact ⟨k + 1, by go_num, by omega, HF.out _ _ _ P1.out P2.out (by rw [act_many hmt, e])⟩
              case measure => simp [intOf]; omega
        · have hm0 : (op.toList == [109, 97, 110, 121]) = false := by simpa using hm
          clear hm
          go_wp2_with (first
            | (go_at_call 12; refine (put_any _ _ _ _ _ (HT.out _) r2).mono ?_; rintro e w1 ⟨rfl, p1, p2⟩)
            | (go_at_call 23; refine (drop_any _ _ _ _ r3 _ (HT.out _)).mono ?_; rintro e w1 ⟨rfl, p1, p2⟩)
            | (go_at_call 15; refine (copy_any _ _ _ _ _ _ _ r3 _ (HT.out _) (HO.out _)).mono ?_; rintro e w1 ⟨rfl, p1, p2⟩)
            | (go_at_call 22; refine (dmg_any _ _ _ _ _ _ r3 _ (HT.out _)).mono ?_; rintro e w1 ⟨rfl, p1, p2⟩))
          all_goals go_roundw
          all_goals first
            | (case measure => simp [intOf]; omega)
            | (case rel => first
                | exact ⟨k + 1, by go_num, by omega, HF.out _ _ _ p1 p2 (act_put (by assumption))⟩
                | exact ⟨k + 1, by go_num, by omega, HF.out _ _ _ p1 p2 (act_drop (by assumption))⟩
                | exact ⟨k + 1, by go_num, by omega, HF.out _ _ _ p1 p2 (act_copy (by assumption))⟩
                | exact ⟨k + 1, by go_num, by omega, HF.out _ _ _ p1 p2 (act_damage (by assumption))⟩
                | exact ⟨k + 1, by go_num, by omega, HF.out _ _ _ (HT.out _) (Fr.refl _ _) (act_none (by assumption) (by assumption) (by assumption) (by assumption) (by assumption))⟩)
    · have HK : Hid (xs.take k = xs) := List.take_of_length_le (by rw [HL.out]; omega)
      have HD := hid hd
      clear hd
      go_wp2
      go_end0
      refine ⟨rfl, ?_⟩
      have := HD.out
      rw [HK.out] at this
      exact this

end Go.Proofs.Ytggkhgpdnjkfcaa
