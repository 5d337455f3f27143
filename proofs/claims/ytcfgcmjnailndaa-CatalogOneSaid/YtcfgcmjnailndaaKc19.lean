/-
  The walk of CatalogNothing.
  The walk of CatalogOne.
-/
import Derived.Lib.SmallJoins
import Derived.Deep.RegionHeld3
import Derived.Test.YtcfgcmjnailndaaKc17
import Derived.Test.YtcfgcmjnailndaaKc18
namespace Go.Proofs.Ytcfgcmjnailndaa
open Go.RowKit Go.Proofs.Ytcfgcmjnailndaa.PCatalogKept Go.Proofs.YtcfgcmjnailndaaW.PrintWords Go.Proofs.YtcfgcmjnailndaaW.PrintLast Go.Proofs.YtcfgcmjnailndaaW.PrintMore
structure OneRaw (w : World) (x : SP) (B : Option Addr) (b : Nat) : Prop where
  row : Kd.C kJ w B x.f0.length x.f0
  cap : x.f0.length ≤ b
  raw : StepRaw x
theorem OneRaw.fr {w w' : World} {x : SP} {B : Option Addr} {b : Nat} (h : OneRaw w x B b) (f : Fr [] w w') : OneRaw w' x B b := ⟨Kd.C_below h.row f.below0, h.cap, h.raw⟩
theorem OneRaw.list {w : World} {x : SP} {B : Option Addr} {b : Nat} (h : OneRaw w x B b) : StepsRaw (w.alloc (.cells #[.slice B x.f0.length b, .int .i64 x.f1] 25)) (some ⟨w.heap.size, 0, none⟩) 1 [x] := by
  have hb := heap_alloc_new w (.cells #[.slice B x.f0.length b, .int .i64 x.f1] 25)
  refine ⟨⟨rfl, by simp, fun _ => ⟨⟨w.heap.size, 0, none⟩, rfl, fun j p hp => ?_⟩⟩, by simp, by simpa using h.raw⟩
  have hj := (List.getElem?_eq_some_iff.1 hp).1
  simp at hj
  subst hj
  simp at hp
  subst hp
  refine ⟨[.slice B x.f0.length b, .int .i64 x.f1], rfl, k25_mk _ x h.cap (Kd.C_below h.row ((Fr.refl [] w).alloc _).below0), fun i u hu => ?_⟩
  rw [add_mk]
  have hi := (List.getElem?_eq_some_iff.1 hu).1
  have := cell_of_row _ w.heap.size i _ _ _ hb
  simp only [Nat.zero_mul, Nat.zero_add]
  rw [this]
  simpa using hu
theorem OneRaw.deeds {w : World} {x : SP} {B : Option Addr} {b c : Nat} (h : OneRaw w x B b) (hp : Played [x]) : ListIn w B c x.f0 :=
  ⟨h.row, by have := hp.deeds x (by simp); omega, hp.ok x (by simp)⟩
set_option maxRecDepth 100000 in
open Go.ChangeShapes Go.WideShapes Go.ChangeAt Go.Deep Go.Joins in
theorem open_stepV {H : Type} {enc : TypeId × Value → H} {W : World} {base : Nat} {v : Value} {d : DataW H} {p : List MemPlace} (hv : Value.okWide Try.prog W .any base 25 v) (h : DataW.Trod enc Try.prog W 0 (fun _ => true) true 25 v d p) :
    ∃ A c x, v = .agg #[.slice A x.f0.length c, .int .i64 x.f1] ∧ x.f0.length ≤ c ∧ Kd.C kJ W A x.f0.length x.f0 ∧ StepRaw x := by
  obtain ⟨v0, v1, y0, y1, n, rfl, -, -, e0, e1⟩ := open_agg2 Try.underlying25 (by kernel_rfl) cells_step hv h
  obtain ⟨l, ⟨A0, c0, h0, l0, g0⟩, w0⟩ := opens_deeds e0
  obtain ⟨s1, h1, -, w1⟩ := DataW.trod_int Try.underlying3 e1
  simp only [List.cons.injEq, and_true] at h0 h1
  subst h0 h1
  exact ⟨A0, c0, ⟨l, s1⟩, rfl, l0, g0, w0⟩
theorem CatAt.notin {w : World} {cb : Nat} {v : Value} {ss : List ST} (h : CatAt w cb v ss) {b : Nat} {cs : Array Value} {t : TypeId} (hb : w.heap[b]? = some (.cells cs t (0, 0))) (ht : t ≠ 58 ∧ t ≠ 71) : b ∉ cb :: v.ownBlock.toList := fun hm =>
  h.noT (E := [t]) (fun q hq => by rw [List.mem_singleton.1 hq]; exact ht) b hm t (by simp) cs hb
theorem one_cut {w : World} {b o c j : Nat} {xs : List DE} {x : DE} (h : Kd.C kJ w (some ⟨b, o, none⟩) xs.length xs) (hc : xs.length ≤ c) (hx : xs[j]? = some x) (hi : DeedIn x) :
    ∃ A1, (∀ W : World, (Instr.slice 23 (.slice (some ⟨b, o, none⟩) xs.length c) (some (.int .i64 (j : Int))) (some (.int .i64 ((j : Int) + 1))) none).run Try.prog W = .ok (.slice A1 1 (c - j)) W) ∧ ListIn w A1 (c - j) [x] := by
  have hj := (List.getElem?_eq_some_iff.1 hx).1
  obtain ⟨i0, hi0, hz0, hz1, hz2⟩ := info_parts infoD
  have h1 := cut_mid (P := Try.prog) 23 31 .i64 .i64 Try.underlying23 hi0 7 hz1 (some ⟨b, o, none⟩) xs.length c (j : Int) ((j : Int) + 1) (by omega) (by omega) (by omega) hc
  have h2 := Kd.C_mid (c := c) (lo := j) (hi := j + 1) h (by omega) (by omega) hc
  have e1 : (xs.take (j + 1)).drop j = [x] := by
    rw [List.take_succ_eq_append_getElem hj, List.drop_append_of_le_length (by simp; omega)]
    rw [List.drop_eq_nil_of_le (by simp; omega)]
    simp [(List.getElem?_eq_some_iff.1 hx).2]
  rw [e1] at h2
  rw [show ((j : Int)).toNat = j by omega, show ((j : Int) + 1).toNat - j = 1 by omega] at h1
  exact ⟨_, h1, h2, by simp, by simpa using hi⟩
structure OneAt (w wr : World) (B : Option Addr) (b : Nat) (x : SP) (ss : List ST) (cb : Nat) (v6 : Value) (s6 : List ST) (db : Nat) (u : Value) (s2 : List ST) (j : Nat) : Prop where
  c : Live w wr cb v6 s6
  d : Live w wr db u s2
  ap : Apart2 db u cb v6
  sing : Singles ss x.f0 x.f1 j s2
  ok : CatOk s2
  box : wr.heap[w.heap.size]? = some (.cells #[.slice B x.f0.length b, .int .i64 x.f1] 25 (0, 0))
  fr : Fr [] w wr
set_option maxRecDepth 100000 in
set_option maxHeartbeats 8000000 in
theorem one_any (A0 : Option Addr) (c0 : Nat) (l : List SP) (B : Option Addr) (b : Nat) (x : SP) (w : World) (h0 : StepsRaw w A0 c0 l) (h1 : OneRaw w x B b) :
    Calls Try.prog 3 #[.slice A0 l.length c0, .agg #[.slice B x.f0.length b, .int .i64 x.f1]] w fun e w' => e = .returned (.bool true) ∧ Fr [] w w' := by
  have F0 := hid ((Fr.refl [] w).alloc (.cells #[.slice B x.f0.length b, .int .i64 x.f1] 25))
  have B0 := hid (heap_alloc_new w (.cells #[.slice B x.f0.length b, .int .i64 x.f1] 25))
  have H0 := hid h0
  have H1 := hid h1
  clear h0 h1
  go_enter Try.func3, Try.ntmps3
  go_wp2_with fail
  refine (great_of (H0.out.fr F0.out)).mono ?_
  rintro e w1 ⟨r, rfl, hp, f1⟩
  have F1 := hid (F0.out.then f1)
  have B1 := hid (f1.blk B0.out (by simp))
  have HP := hid hp
  clear f1 hp
  cases r with
  | true =>
    go_wp2_with (go_at_call 9; refine (awake_any _).mono ?_; rintro e w2 ⟨rfl, f2⟩)
    go_ret
    exact ⟨rfl, F1.out.then f2⟩
  | false =>
    have P0 := hid (HP.out rfl)
    have q0 := cell_of_row w1 w.heap.size 0 _ _ _ B1.out
    have q1 := cell_of_row w1 w.heap.size 1 _ _ _ B1.out
    simp at q0 q1
    clear HP
    go_wp2_with fail
    refine (great_of (H1.out.fr F1.out).list).mono ?_
    rintro e w2 ⟨r, rfl, hp, f2⟩
    have F2 := hid ((F1.out.alloc _).then f2)
    have B2 := hid (f2.blk (((Fr.refl [] w1).alloc _).blk B1.out (by simp)) (by simp))
    have HP := hid hp
    clear f2 hp F1 B1 q0 q1
    cases r with
    | true =>
      go_wp2_with (go_at_call 9; refine (awake_any _).mono ?_; rintro e w3 ⟨rfl, f3⟩)
      go_ret
      exact ⟨rfl, F2.out.then f3⟩
    | false =>
      have P1 := hid (HP.out rfl)
      clear HP
      have q0 := cell_of_row w2 w.heap.size 0 _ _ _ B2.out
      have q1 := cell_of_row w2 w.heap.size 1 _ _ _ B2.out
      simp at q0 q1
      have hxl : x.f0.length ≤ 1000000 := by have := P1.out.deeds x (by simp); omega
      have XIN : Hid (∀ y ∈ x.f0, DeedIn y) := hid (P1.out.ok x (by simp))
      go_wp2
      go_loop [5] (fun i => ∃ j : Nat, i = .int .i64 j ∧ j ≤ x.f0.length ∧ ∀ q y, q < j → x.f0[q]? = some y → y.f0 ≠ kUndrop) (fun i => x.f0.length - (intOf i).toNat)
      case atStart => exact ⟨0, rfl, Nat.zero_le _, fun q y hq => absurd hq (Nat.not_lt_zero _)⟩
      case round =>
        obtain ⟨j, rfl, hj, hno⟩ := hrel
        have HNO := hid hno
        clear hno
        by_cases hlt : j < x.f0.length
        · obtain ⟨y, hy⟩ : ∃ y, x.f0[j]? = some y := ⟨_, List.getElem?_eq_getElem hlt⟩
          obtain ⟨bb, bo, eB, hcy⟩ : ∃ bb bo, B = some ⟨bb, bo, none⟩ ∧ w2.cell? ⟨bb, bo + j * 7, none⟩ = some (.string y.f0) := by
            have hC := (H1.out.fr F2.out).row
            obtain ⟨ad, _, _, _, _, e, k0, -⟩ := at_T31 hC (j : Int) (by omega) (by omega)
            have hsp : ad.spot = none := by
              obtain ⟨ad', _, _, _, _, e', h0', _⟩ := at_T31 hC 0 (by omega) (by omega)
              rw [e] at e'
              cases e'
              have hs := spot_none h0'
              simpa [Addr.add] using hs
            rw [addr_plain hsp] at e
            have ea : ad.add (((j : Int)).toNat * 7) = ⟨ad.block, ad.off + j * 7, none⟩ := by rw [addr_plain hsp, add_mk]; simp
            rw [ea, rdJ hy] at k0
            exact ⟨ad.block, ad.off, e, k0⟩
          subst eB
          have HY := hid hy
          clear hy
          have hj0 : (0 : Int) ≤ (j : Int) := by omega
          have hj1 : (j : Int) < (x.f0.length : Int) := by omega
          by_cases hu : y.f0 = kUndrop
          · have hu1 : (y.f0.toList == [117, 110, 100, 114, 111, 112]) = true := by rw [hu]; decide +kernel
            clear hu
            go_wp2_with (go_at_call 9; refine (awake_any _).mono ?_; rintro e w3 ⟨rfl, f3⟩)
            go_ret
            exact ⟨rfl, F2.out.then f3⟩
          · have hu1 : (y.f0.toList == [117, 110, 100, 114, 111, 112]) = false := by
              rw [beq_eq_false_iff_ne]
              intro e
              exact hu (ba_ext (by rw [e]; decide +kernel))
            have HU := hid hu
            clear hu
            go_wp2
            go_round
            case rel => exact ⟨j + 1, by go_num, by omega, fun q z hq hz => by
              rcases Nat.lt_succ_iff_lt_or_eq.1 hq with h | rfl
              · exact HNO.out q z h hz
              · rw [HY.out] at hz; cases hz; exact HU.out⟩
            case measure => simp [intOf]; omega
        · obtain rfl : j = x.f0.length := by omega
          have NOU : Hid (∀ y ∈ x.f0, y.f0 ≠ kUndrop) := hid (fun y hy => by
            obtain ⟨q, hq⟩ := List.mem_iff_getElem?.1 hy
            exact HNO.out q y (List.getElem?_eq_some_iff.1 hq).1 hq)
          clear HNO
          obtain ⟨ss, hss⟩ : ∃ ss, ss = runBy Cat.new l := ⟨_, rfl⟩
          have hl20 := P0.out.len
          have hsl : ss.length ≤ 21 := by rw [hss]; have := new_len l; omega
          have hspos : 0 < ss.length := by rw [hss]; exact made_pos l
          have SOK : Hid (CatOk ss) := hid (by rw [hss]; exact made_ok P0.out)
          have HSS := hid hss
          clear hss
          go_wp2_with fail
          clear q0 q1
          refine (made_any A0 c0 l _ ((H0.out.ok P0.out).fr F2.out)).mono ?_
          rintro e w3 ⟨cb, v, rfl, hlv, f3⟩
          rw [← HSS.out] at hlv
          have L3 := hid (hlv.after F2.out)
          have F3 := hid (F2.out.then f3)
          have B3 := hid (f3.blk B2.out (by simp))
          clear hlv f3 F2 B2
          go_wp2_with fail
          refine (made_any A0 c0 l _ ((H0.out.ok P0.out).fr F3.out)).mono ?_
          rintro e w4 ⟨db, u, rfl, hlv, f4⟩
          rw [← HSS.out] at hlv
          have AP4 : Hid (Apart2 cb v db u) := hid ⟨by have := L3.out.cat.lt; have := hlv.cb; omega, fun k hk h2 => by have := Kd.R_lt L3.out.cat.row k hk; have := hlv.own k h2; omega⟩
          have D4 := hid (hlv.after F3.out)
          have L4 := hid (L3.out.fr0 f4)
          have F4 := hid (F3.out.then f4)
          have B4 := hid (f4.blk B3.out (by simp))
          clear hlv f4 F3 B3 L3
          have q0 := cell_of_row w4 w.heap.size 0 _ _ _ B4.out
          have q1 := cell_of_row w4 w.heap.size 1 _ _ _ B4.out
          simp at q0 q1
          have LI := hid ((H1.out.fr F4.out).deeds (c := b) P1.out)
          go_wp2_with fail
          refine (committed cb v ss B b x.f0 x.f1 w4 L4.out.cat LI.out).mono ?_
          intro e w6 hq
          obtain ⟨he, hf3, hff, v6, hlv, hov⟩ := L4.out.commit F4.out hq
          have D6 := hid (D4.out.other L4.out.cat AP4.out hf3)
          have A6 := hid (AP4.out.grown D4.out.cat hov)
          have B6 := hid (hf3.blk B4.out (L4.out.cat.notin B4.out (by decide)))
          have F6 := hid hff
          have COK := hid (commit_ok SOK.out hspos (P1.out.ok x (by simp)) (xs := x.f0) (time := x.f1))
          clear hq hff hf3 hov q0 q1 F4 B4 D4 AP4 L4 LI
          rcases commit_cases ss x.f0 x.f1 with ⟨er, her, hc⟩ | ⟨es, hw, hc⟩
          · rw [hc] at he
            subst he
            have heb : (er == 0) = false := by simp [her]
            have heb2 : (er != 0) = true := by simp [her]
            clear her hc hlv
            go_wp2_with (go_at_call 9; refine (awake_any _).mono ?_; rintro e w9 ⟨rfl, f9⟩; have F9 := hid f9; clear f9)
            go_ret
            exact ⟨rfl, F6.out.then F9.out⟩
          · rw [hc] at he hlv
            rw [hc] at COK
            subst he
            have HW := hid hw
            obtain ⟨s6, hs6⟩ : ∃ s6, s6 = ss ++ [(⟨x.f1, x.f0, es⟩ : ST)] := ⟨_, rfl⟩
            have hl6 : s6.length = ss.length + 1 := by rw [hs6]; simp
            have LAST : Hid ((lastOf s6).f2 = es) := hid (by rw [hs6, last_append])
            dsimp only at COK hlv
            rw [← hs6] at COK hlv
            have h60 := hw.most
            have O6 : Hid (OneAt w w6 B b x ss cb v6 s6 db u ss 0) := hid ⟨hlv, D6.out, ⟨A6.out.cb.symm, fun k h1 h2 => A6.out.own k h2 h1⟩, Singles.start hw.late, SOK.out, B6.out, F6.out⟩
            clear hw hc hlv hs6 D6 A6 B6
            have HL6 := hid hl6
            clear hl6
            go_wp2
            go_loopw [10] (fun i wr => ∃ (j : Nat) (u : Value) (s2 : List ST), i = .int .i64 j ∧ j ≤ x.f0.length ∧ OneAt w wr B b x ss cb v6 s6 db u s2 j) (fun i _ => x.f0.length - (intOf i).toNat)
            case atStart => exact ⟨0, u, ss, rfl, Nat.zero_le _, O6.out⟩
            case round =>
              obtain ⟨j, u, s2, rfl, hj, hO⟩ := hrel
              have O := hid hO
              have q0 := cell_of_row wr w.heap.size 0 _ _ _ hO.box
              have q1 := cell_of_row wr w.heap.size 1 _ _ _ hO.box
              simp at q0 q1
              by_cases hlt : j < x.f0.length
              · obtain ⟨y, hy⟩ : ∃ y, x.f0[j]? = some y := ⟨_, List.getElem?_eq_getElem hlt⟩
                have hC := (H1.out.fr hO.fr).row
                obtain ⟨bb, bo, eB⟩ : ∃ bb bo, B = some ⟨bb, bo, none⟩ := by
                  obtain ⟨ad, _, _, _, _, e, -⟩ := at_T31 hC (j : Int) (by omega) (by omega)
                  have hsp : ad.spot = none := by
                    obtain ⟨ad', _, _, _, _, e', h0', _⟩ := at_T31 hC 0 (by omega) (by omega)
                    rw [e] at e'
                    cases e'
                    have hs := spot_none h0'
                    simpa [Addr.add] using hs
                  exact ⟨ad.block, ad.off, by rw [e, addr_plain hsp]⟩
                subst eB
                obtain ⟨A1, hrun, hli⟩ := one_cut hC H1.out.cap hy (XIN.out y (List.mem_iff_getElem?.2 ⟨j, hy⟩))
                obtain ⟨hst0, hst1⟩ := hO.sing.step HW.out hspos hsl hy (NOU.out y (List.mem_iff_getElem?.2 ⟨j, hy⟩))
                have ST0 := hid hst0
                have ST1 := hid hst1
                have LI := hid hli
                have hj0 : (0 : Int) ≤ (j : Int) := by omega
                have hj1 : (j : Int) < (x.f0.length : Int) := by omega
                have hw1 : IntKind.i64.wrap ((j : Int) + 1) = (j : Int) + 1 := IntWalk.i64_in _ (by omega)
                have YIN : Hid (∀ z ∈ [y], DeedIn z) := hid (by simpa using XIN.out y (List.mem_iff_getElem?.2 ⟨j, hy⟩))
                clear hy hC hst0 hst1 hli hO
                have S0 : wr.drew.cell? ⟨w.heap.size, 0, none⟩ = some (.slice (some ⟨bb, bo, none⟩) x.f0.length b) ∧ wr.drew.cell? ⟨w.heap.size, 1, none⟩ = some (.int .i64 x.f1) := ⟨(Fr.refl [] wr).drew.cell0 q0, (Fr.refl [] wr).drew.cell0 q1⟩
                go_wp2_with fail
                clear q0 q1
                go_region_held3 (fun w' => w'.cell? ⟨w.heap.size, 0, none⟩ = some (.slice (some ⟨bb, bo, none⟩) x.f0.length b) ∧ w'.cell? ⟨w.heap.size, 1, none⟩ = some (.int .i64 x.f1)) ((with_reducible first | exact S0 | exact S2)) (first
                  | (go_at_call 11; refine (committed db u s2 A1 (b - j) [y] x.f1 wr.drew (O.out.d.fr0 (Fr.refl [] wr).drew).cat (LI.out.below (Fr.refl [] wr).drew)).mono ?_; intro e w7 hq; obtain ⟨he, hf3, hff, u7, hlv, hov⟩ := (O.out.d.fr0 (Fr.refl [] wr).drew).commit O.out.fr.drew hq; rw [ST0.out] at he; have L7 : Hid (OneAt w w7 (some ⟨bb, bo, none⟩) b x ss cb v6 s6 db u7 (commitBy s2 [y] x.f1).2 (j + 1)) := hid ⟨(O.out.c.fr0 (Fr.refl [] wr).drew).other (O.out.d.fr0 (Fr.refl [] wr).drew).cat O.out.ap hf3, hlv, O.out.ap.grown (O.out.c.fr0 (Fr.refl [] wr).drew).cat hov, ST1.out, commit_ok O.out.ok (by have := O.out.d.cat.pos; omega) YIN.out, hf3.blk ((Fr.refl [] wr).drew.blk O.out.box (by simp)) ((O.out.d.fr0 (Fr.refl [] wr).drew).cat.notin ((Fr.refl [] wr).drew.blk O.out.box (by simp)) (by decide)), hff⟩; subst he; have S2 : w7.cell? ⟨w.heap.size, 0, none⟩ = some (.slice (some ⟨bb, bo, none⟩) x.f0.length b) ∧ w7.cell? ⟨w.heap.size, 1, none⟩ = some (.int .i64 x.f1) := ⟨cell_of_row w7 w.heap.size 0 _ _ _ L7.out.box, cell_of_row w7 w.heap.size 1 _ _ _ L7.out.box⟩; clear hq hf3 hff hlv hov))
                clear S0 S2 hrun hw1 ST0 ST1 LI
                go_wp2
                go_roundw
                case rel => exact ⟨j + 1, u7, _, by go_num, by omega, L7.out⟩
                case measure => simp [intOf]; omega
              · obtain rfl : j = x.f0.length := by omega
                obtain ⟨m1, m2, m3⟩ := hO.sing
                rw [List.take_length] at m3
                rw [← (done_is HW.out.done).1] at m3
                have hlenS : s2.length ≤ 82 := by omega
                have hposS : 0 < s2.length := by omega
                obtain ⟨tl, tp⟩ := picked_like (es := es) (es' := (lastOf s2).f2) (Eq.symm m3)
                obtain ⟨g2, cc, hu2, -, -⟩ := hO.d.cat.form
                have LA := hid (fun (W : World) (f : Fr [] wr W) => list_any cb v6 s6 (ss.length : Int) W (hO.c.cat.fr0 f) COK.out)
                have la := list_last (ss := s6) (by have := HL6.out; omega) (n := (ss.length : Int)) (by have := HL6.out; omega)
                rw [LAST.out] at la
                rw [la] at LA
                have LB := hid (fun (W : World) (f : Fr [] wr W) => list_any db u s2 ((s2.length : Int) - 1) W (hO.d.cat.fr0 f) hO.ok)
                have lb := list_last (ss := s2) hposS (n := (s2.length : Int) - 1) rfl
                rw [lb] at LB
                have hesl : es.length ≤ 4000 := (done_is HW.out.done).2.1
                have hmild : ∀ z ∈ picked isThere es, Mild z := by
                  intro z hz
                  obtain ⟨y, hy, rfl⟩ := List.mem_map.1 hz
                  have := COK.out.ents (lastOf s6) (last_mem (by have := HL6.out; omega)) y (by rw [LAST.out]; exact (List.mem_filter.1 hy).1)
                  exact this
                have hpl : (picked isThere es).length ≤ 4000 := Nat.le_trans (picked_len _ _) hesl
                obtain ⟨Tb, hTb⟩ : ∃ Tb, Tb = picked isThere (lastOf s2).f2 := ⟨_, rfl⟩
                obtain ⟨Ta, hTa⟩ : ∃ Ta, Ta = picked isThere es := ⟨_, rfl⟩
                rw [← hTb] at LB tl tp
                rw [← hTa] at LA tl tp hmild hpl
                have TL := hid tl
                have TP := hid tp
                have MI := hid hmild
                subst hu2
                have CN := hid (fun (W : World) (f : Fr [] wr W) => count_yes db _ s2.length cc W (hO.d.cat.fr0 f).c0 hposS (by omega))
                clear m1 m2 m3 tl tp la lb hTa hTb hmild hO hposS
                go_wp2_with fail
                clear q0 q1
                refine (LA.out _ (Fr.refl _ _)).mono ?_
                rintro e w7 ⟨ua, rfl, ra, fa, -⟩
                obtain ⟨Aa, ca, e7, la, Ca⟩ := api_reads ra
                subst e7
                have FA := hid fa
                have CA := hid Ca
                clear ra fa Ca
                dsimp only
                go_wp2_with (go_at_call 13; refine (CN.out _ FA.out).mono ?_; rintro e w8 ⟨rfl, rfl⟩)
                refine (LB.out _ FA.out).mono ?_
                rintro e w8 ⟨ub, rfl, rb, fb, -⟩
                obtain ⟨Ab, cb', e7, lb, Cb⟩ := api_reads rb
                dsimp only at e7 lb Cb
                rw [← TL.out] at e7 lb Cb
                subst e7
                have FB := hid (FA.out.then fb)
                have AL := hid (alike_any Ta.length Ta Tb Aa ca Ab cb' w8 (Kd.C_below CA.out fb.below0) la Cb lb TP.out MI.out (by omega))
                clear rb fb Cb
                dsimp only
                go_wp2_with (first
                  | (go_at_call 14; refine AL.out.mono ?_; rintro e w9 ⟨rfl, f9⟩; have F9 := hid f9; clear f9)
                  | (go_at_call 9; refine (awake_any _).mono ?_; rintro e w10 ⟨rfl, f10⟩; have F10 := hid (F9.out.then f10); clear f10))
                go_ret
                exact ⟨rfl, O.out.fr.then (FB.out.then F10.out)⟩
end Go.Proofs.Ytcfgcmjnailndaa
