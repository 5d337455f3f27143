/-
  The walk of CatalogNothing.
-/
import Derived.Lib.SmallJoins
import Derived.Test.YtcfgcmjnailndaaKa14
namespace Go.Proofs.Ytcfgcmjnailndaa
open Go.RowKit Go.Proofs.Ytcfgcmjnailndaa.PCatalogKept Go.Proofs.YtcfgcmjnailndaaW.PrintWords Go.Proofs.YtcfgcmjnailndaaW.PrintLast Go.Proofs.YtcfgcmjnailndaaW.PrintMore

/-- A step that came in, its deeds in memory. -/
structure OneRaw (w : World) (x : SP) (B : Option Addr) (b : Nat) : Prop where
  row : Kd.C kJ w B x.f0.length x.f0
  cap : x.f0.length ≤ b
  raw : StepRaw x
theorem OneRaw.fr {w w' : World} {x : SP} {B : Option Addr} {b : Nat} (h : OneRaw w x B b) (f : Fr [] w w') : OneRaw w' x B b := ⟨Kd.C_below h.row f.below0, h.cap, h.raw⟩
theorem OneRaw.list {w : World} {x : SP} {B : Option Addr} {b : Nat} (h : OneRaw w x B b) : StepsRaw (w.alloc (.cells #[.slice B x.f0.length b, .int .i64 x.f1] 25)) (some ⟨w.heap.size, 0, none⟩) 1 [x] := by
  have hb := heap_alloc_new w (.cells #[.slice B x.f0.length b, .int .i64 x.f1] 25)
  refine ⟨⟨rfl, by simp, fun _ => ⟨⟨w.heap.size, 0, none⟩, rfl, fun j p hp => ?_⟩⟩, by simp, by simpa using h.raw⟩
  have hj := (List.getElem?_eq_some_iff.1 hp).1
  simp at hj
  subst hj
  simp at hp
  subst hp
  refine ⟨[.slice B x.f0.length b, .int .i64 x.f1], rfl, k25_mk _ x h.cap (Kd.C_below h.row ((Fr.refl [] w).alloc _).below0), fun i u hu => ?_⟩
  rw [add_mk]
  have hi := (List.getElem?_eq_some_iff.1 hu).1
  have := cell_of_row _ w.heap.size i _ _ _ hb
  simp only [Nat.zero_mul, Nat.zero_add]
  rw [this]
  simpa using hu
theorem OneRaw.deeds {w : World} {x : SP} {B : Option Addr} {b c : Nat} (h : OneRaw w x B b) (hp : Played [x]) : ListIn w B c x.f0 :=
  ⟨h.row, by have := hp.deeds x (by simp); omega, hp.ok x (by simp)⟩

set_option maxRecDepth 100000 in
open Go.ChangeShapes Go.WideShapes Go.ChangeAt Go.Deep Go.Joins in
/-- A step that comes in. -/
theorem open_stepV {H : Type} {enc : TypeId × Value → H} {W : World} {base : Nat} {v : Value} {d : DataW H} {p : List MemPlace} (hv : Value.okWide Try.prog W .any base 25 v) (h : DataW.Trod enc Try.prog W 0 (fun _ => true) true 25 v d p) :
    ∃ A c x, v = .agg #[.slice A x.f0.length c, .int .i64 x.f1] ∧ x.f0.length ≤ c ∧ Kd.C kJ W A x.f0.length x.f0 ∧ StepRaw x := by
  obtain ⟨v0, v1, y0, y1, n, rfl, -, -, e0, e1⟩ := open_agg2 Try.underlying25 (by kernel_rfl) cells_step hv h
  obtain ⟨l, ⟨A0, c0, h0, l0, g0⟩, w0⟩ := opens_deeds e0
  obtain ⟨s1, h1, -, w1⟩ := DataW.trod_int Try.underlying3 e1
  simp only [List.cons.injEq, and_true] at h0 h1
  subst h0 h1
  exact ⟨A0, c0, ⟨l, s1⟩, rfl, l0, g0, w0⟩
set_option maxRecDepth 100000 in
set_option maxHeartbeats 8000000 in
theorem nothing_any (A0 : Option Addr) (c0 : Nat) (l : List SP) (B : Option Addr) (b : Nat) (x : SP) (w : World) (h0 : StepsRaw w A0 c0 l) (h1 : OneRaw w x B b) :
    Calls Try.prog 5 #[.slice A0 l.length c0, .agg #[.slice B x.f0.length b, .int .i64 x.f1]] w fun e w' => e = .returned (.bool true) ∧ Fr [] w w' := by
  have F0 := hid ((Fr.refl [] w).alloc (.cells #[.slice B x.f0.length b, .int .i64 x.f1] 25))
  have B0 := hid (heap_alloc_new w (.cells #[.slice B x.f0.length b, .int .i64 x.f1] 25))
  have H0 := hid h0
  have H1 := hid h1
  clear h0 h1
  go_enter Try.func5, Try.ntmps5
  go_wp2_with fail
  refine (great_of (H0.out.fr F0.out)).mono ?_
  rintro e w1 ⟨r, rfl, hp, f1⟩
  have F1 := hid (F0.out.then f1)
  have B1 := hid (f1.blk B0.out (by simp))
  have HP := hid hp
  clear f1 hp
  cases r with
  | true =>
    go_wp2_with (go_at_call 9; refine (awake_any _).mono ?_; rintro e w2 ⟨rfl, f2⟩)
    go_ret
    exact ⟨rfl, F1.out.then f2⟩
  | false =>
    have P0 := hid (HP.out rfl)
    have q0 := cell_of_row w1 w.heap.size 0 _ _ _ B1.out
    have q1 := cell_of_row w1 w.heap.size 1 _ _ _ B1.out
    simp at q0 q1
    clear HP
    go_wp2_with fail
    refine (great_of (H1.out.fr F1.out).list).mono ?_
    rintro e w2 ⟨r, rfl, hp, f2⟩
    have F2 := hid ((F1.out.alloc _).then f2)
    have B2 := hid (f2.blk (((Fr.refl [] w1).alloc _).blk B1.out (by simp)) (by simp))
    have HP := hid hp
    clear f2 hp F1 B1 q0 q1
    cases r with
    | true =>
      go_wp2_with (go_at_call 9; refine (awake_any _).mono ?_; rintro e w3 ⟨rfl, f3⟩)
      go_ret
      exact ⟨rfl, F2.out.then f3⟩
    | false =>
      have P1 := hid (HP.out rfl)
      clear HP
      obtain ⟨ss, hss⟩ : ∃ ss, ss = runBy Cat.new l := ⟨_, rfl⟩
      have hl20 := P0.out.len
      have hsl : ss.length ≤ 21 := by rw [hss]; have := new_len l; omega
      have hspos : 0 < ss.length := by rw [hss]; exact made_pos l
      have SOK : Hid (CatOk ss) := hid (by rw [hss]; exact made_ok P0.out)
      have HSS := hid hss
      clear hss
      go_wp2_with fail
      refine (made_any A0 c0 l _ ((H0.out.ok P0.out).fr F2.out)).mono ?_
      rintro e w3 ⟨cb, v, rfl, hlv, f3⟩
      rw [← HSS.out] at hlv
      have L3 := hid (hlv.after F2.out)
      have F3 := hid (F2.out.then f3)
      have B3 := hid (f3.blk B2.out (by simp))
      clear hlv f3 F2 B2
      obtain ⟨T, hT⟩ : ∃ T, T = ss.map allOf := ⟨_, rfl⟩
      have HTL : Hid (T.length = ss.length) := hid (by rw [hT]; simp)
      have HT := hid hT
      clear hT
      go_wp2_with fail
      refine (states_any cb v ss _ L3.out.cat SOK.out (by omega)).mono ?_
      rintro e w5 ⟨uo, rfl, ho, f5, -⟩
      rw [← HT.out] at ho
      obtain ⟨A7, c7, e7⟩ := Kd.R_slice ho
      rw [HTL.out] at e7
      subst e7
      have O5 := hid ho
      have L5 := hid (L3.out.fr0 f5)
      have F5 := hid (F3.out.then f5)
      have B5 := f5.blk B3.out (by simp)
      have q0 := cell_of_row w5 w.heap.size 0 _ _ _ B5
      have q1 := cell_of_row w5 w.heap.size 1 _ _ _ B5
      simp at q0 q1
      clear ho f5 L3 F3 B3 B5
      have LI := hid ((H1.out.fr F5.out).deeds (c := b) P1.out)
      go_wp2_with fail
      refine (committed cb v ss B b x.f0 x.f1 w5 L5.out.cat LI.out).mono ?_
      intro e w6 hq
      obtain ⟨he, hf3, hff, v6, hlv, -⟩ := L5.out.commit F5.out hq
      have O6 := hid (lists_fr O5.out L5.out.cat hf3)
      have F6 := hid hff
      have COK := hid (commit_ok SOK.out hspos (P1.out.ok x (by simp)) (xs := x.f0) (time := x.f1))
      have CPRE := hid (commit_pre ss x.f0 x.f1)
      have CLEN := hid (commit_len ss x.f0 x.f1)
      clear hq hff hf3 q0 q1
      rcases commit_cases ss x.f0 x.f1 with ⟨er, her, hc⟩ | ⟨es, -, hc⟩
      · rw [hc] at he hlv
        subst he
        have L6 : Hid (Live w w6 cb v6 ss) := hid hlv
        have heb : (er == 0) = false := by simp [her]
        have BC := hid (fun (W : World) (f : Fr [] w6 W) => begins_any cb v6 ss (.slice A7 ss.length c7) T [] W (L6.out.cat.fr0 f) SOK.out (by omega) (R_fr0 O6.out f) (by rw [HT.out, List.append_nil]))
        obtain ⟨g2, cc, hu2, -, -⟩ := L6.out.cat.form
        subst hu2
        have CN := hid (fun (W : World) (f : Fr [] w6 W) => count_yes cb _ ss.length cc W (L6.out.cat.fr0 f).c0 hspos (by omega))
        clear her hc hlv
        go_wp2_with (first
          | (go_at_call 13; refine (CN.out _ (Fr.refl _ _)).mono ?_; rintro e w9 ⟨rfl, rfl⟩)
          | (go_at_call 17; refine (BC.out _ (Fr.refl _ _)).mono ?_; rintro e w7 ⟨rfl, f7⟩; have F7 := hid f7; clear f7)
          | (go_at_call 9; refine (awake_any _).mono ?_; rintro e w9 ⟨rfl, f9⟩; have F9 := hid (F7.out.then f9); clear f9))
        go_ret
        exact ⟨rfl, F6.out.then F9.out⟩
      · rw [hc] at he
        subst he
        obtain ⟨ss2, hss2⟩ : ∃ ss2, ss2 = (commitBy ss x.f0 x.f1).2 := ⟨_, rfl⟩
        have hl2 : ss2.length = ss.length + 1 := by rw [hss2, hc]; simp
        rw [← hss2] at hlv
        have L6 := hid hlv
        have S2OK : Hid (CatOk ss2) := hid (by rw [hss2]; exact COK.out)
        obtain ⟨t, ht⟩ := CPRE.out
        rw [← hss2] at ht
        have hta : ss2.map allOf = T ++ t.map allOf := by rw [ht, List.map_append, HT.out]
        have BC := hid (fun (W : World) (f : Fr [] w6 W) => begins_any cb v6 ss2 (.slice A7 ss.length c7) T _ W (L6.out.cat.fr0 f) S2OK.out (by omega) (R_fr0 O6.out f) hta)
        obtain ⟨g2, cc, hu2, -, -⟩ := L6.out.cat.form
        subst hu2
        have CN := hid (fun (W : World) (f : Fr [] w6 W) => (count_yes cb _ ss2.length cc W (L6.out.cat.fr0 f).c0 (by omega) (by omega)).mono (fun e w' (h : _ ∧ _) => show e = .returned (.int .i64 (ss.length : Int)) ∧ W = w' from ⟨by rw [h.1]; congr 2; omega, h.2⟩))
        clear hc hlv hl2 ht hta hss2
        go_wp2_with (first
          | (go_at_call 13; refine (CN.out _ (Fr.refl _ _)).mono ?_; rintro e w9 ⟨rfl, rfl⟩)
          | (go_at_call 17; refine (BC.out _ (Fr.refl _ _)).mono ?_; rintro e w7 ⟨rfl, f7⟩; have F7 := hid f7; clear f7)
          | (go_at_call 9; refine (awake_any _).mono ?_; rintro e w9 ⟨rfl, f9⟩; have F9 := hid (F7.out.then f9); clear f9))
        go_ret
        exact ⟨rfl, F6.out.then F9.out⟩
end Go.Proofs.Ytcfgcmjnailndaa
