/-
  The walk of Agree.
-/
import Derived.Test.YtggkhgpdnjkfcaaTc
import Derived.Test.YtggkhgpdnjkfcaaSq
namespace Go.Proofs.Ytggkhgpdnjkfcaa
open Go.RowKit Go.Maps Go.Proofs.Ytggkhgpdnjkfcaa.PStorePlays Go.Proofs.YtggkhgpdnjkfcaaW.PrintWords Go.Proofs.YtggkhgpdnjkfcaaW.PrintLast Go.Proofs.YtggkhgpdnjkfcaaW.PrintMore

theorem files_ints (b mb : Nat) (s : St) (w : World) (h : StoreAt w b mb s) :
    Calls Try.prog 14 #[.pointer (some ⟨b, 0, none⟩)] w fun e w' => ∃ v, e = .returned v ∧ IntsR w' v s.nums ∧ Fr [] w w' := by
  refine (files_any b mb s w h).mono fun e w' ⟨v, h1, h2, h3⟩ => ⟨v, h1, ?_, h3⟩
  exact IntsR.of_own h2 (by simp [St.nums]) (by have := h.ok.len; simp [St.nums]; omega)
theorem same_self (va vb : Value) (xs : List Int) (w : World) (ha : IntsR w va xs) (hb : IntsR w vb xs) :
    Calls Try.prog 16 #[va, vb] w fun e w' => e = .returned (.bool true) ∧ Fr [] w w' := by
  have := same_any va vb xs xs w ha hb
  simpa using this

set_option maxRecDepth 100000 in
set_option maxHeartbeats 2000000 in
theorem agree_any (b mb : Nat) (s : St) (A : Option Addr) (n c : Nat) (w : World) (h : StoreAt w b mb s) (hr : RefV w (.slice A n c) s.files) :
    Calls Try.prog 19 #[.pointer (some ⟨b, 0, none⟩), .agg #[.slice A n c, .int .i64 s.most]] w fun e w' => e = .returned (.bool true) ∧ Fr [] w w' := by
  have OK := hid h.ok
  have FA := (Fr.refl [] w).alloc (.cells #[.slice A n c, .int .i64 s.most] 43)
  have HB0 : (w.alloc (.cells #[.slice A n c, .int .i64 s.most] 43)).heap[w.heap.size]? = some (.cells #[.slice A n c, .int .i64 s.most] 43 (0, 0)) := heap_alloc_new w _
  have HS0 := h.fr FA (by simp) (by simp)
  have HR0 := hr.fr FA (by simp)
  have HN : Hid (n = s.files.length) := by rw [hr.len.1, FS_len]; exact rfl
  have HF := hid FA
  clear h hr FA
  go_enter Try.func19, Try.ntmps19
  go_wp2_with fail
  generalize w.alloc (.cells #[.slice A n c, .int .i64 s.most] 43) = w0 at HB0 HS0 HR0 HF ⊢
  have HS : Hid (∀ w', Fr [] w0 w' → StoreAt w' b mb s) := fun w' f => HS0.fr f (by simp) (by simp)
  have HR : Hid (∀ w', Fr [] w0 w' → RefV w' (.slice A n c) s.files) := fun w' f => HR0.fr f (by simp)
  have HC : Hid (∀ w', Fr [] w0 w' → w'.cell? ⟨w.heap.size, 0, none⟩ = some (.slice A n c) ∧ w'.cell? ⟨w.heap.size, 1, none⟩ = some (.int .i64 s.most)) := fun w' f => by
    have hb := (f.block w.heap.size (Array.getElem?_eq_some_iff.1 HB0).1 (by simp)).trans HB0
    exact ⟨cell_of_row w' _ 0 _ _ _ hb, cell_of_row w' _ 1 _ _ _ hb⟩
  clear HB0 HS0 HR0
  obtain ⟨b00, b01⟩ := HC.out w0 (Fr.refl _ _)
  refine (fun (KEY : Hid (∀ (w5 : World) (v3 v4 : Value), Hid (Fr [] w0 w5) → (?KEYP : World → Value → Value → Prop) w5 v3 v4)) => ?main) ?key
  case main =>
    go_region_with (first
      | (go_at_call 11; refine (most_any b mb s _ (HS.out _ (Fr.refl [] w0).drew)).mono ?_; rintro e w' ⟨rfl, rfl⟩)
      | (go_at_call 20; refine (used_any b mb s _ (HS.out _ (Fr.refl [] w0).drew)).mono ?_; rintro e w1 ⟨rfl, f1⟩; have F1 := hid ((Fr.refl [] w0).drew.then f1); obtain ⟨b10, b11⟩ := HC.out _ F1.out; clear f1)
      | (go_at_call 35; refine (rused (HR.out _ F1.out) OK.out s.most).mono ?_; rintro e w2 ⟨rfl, f2⟩; have F2 := hid (F1.out.then f2); obtain ⟨b20, b21⟩ := HC.out _ F2.out; clear f2)
      | (go_at_call 14; refine (files_ints b mb s _ (HS.out _ F2.out)).mono ?_; rintro e w3 ⟨v3, rfl, i3, f3⟩; have F3 := hid (F2.out.then f3); have I3 := hid i3; obtain ⟨b30, b31⟩ := HC.out _ F3.out; clear f3 i3)
      | (go_at_call 36; refine (rfiles (HR.out _ F3.out) OK.out s.most).mono ?_; rintro e w4 ⟨v4, rfl, i4, f4⟩; have I3' := hid (I3.out.fr f4 (by simp)); have F4 := hid (F3.out.then f4); have I4 := hid i4; obtain ⟨b40, b41⟩ := HC.out _ F4.out; clear f4 i4)
      | (go_at_call 16; refine (same_self _ _ s.nums _ I3'.out I4.out).mono ?_; rintro e w5 ⟨rfl, f5⟩; have F5 := hid (F4.out.then f5); obtain ⟨b50, b51⟩ := HC.out _ F5.out; clear f5))
    all_goals exact KEY.out w5 v3 v4 F5
  case key =>
    intro w5 v3 v4 F5
    obtain ⟨b50, b51⟩ := HC.out _ F5.out
    clear b00 b01
    have hn4 : n ≤ 4000 := by have := HN.out; have := OK.out.len; omega
    go_wp2
    go_loopw [5] (fun i wr => ∃ k : Nat, i = .int .i64 k ∧ k ≤ n ∧ Fr [] w0 wr) (fun i _ => n - (intOf i).toNat)
    case atStart => exact ⟨0, rfl, Nat.zero_le _, F5.out⟩
    case round =>
      obtain ⟨k, rfl, hk, hf⟩ := hrel
      have FF := hid hf
      obtain ⟨d0, d1⟩ := HC.out _ hf
      clear hf
      by_cases hlt : k < n
      · have hp : s.files[k]? = some (s.files[k]'(by have := HN.out; omega)) := List.getElem?_eq_getElem _
        generalize s.files[k]'(by have := HN.out; omega) = p at hp
        obtain ⟨g, rfl, -, -, p1, p2⟩ := (HR.out _ FF.out).at hp
        have hm0 : (0 : Int) ≤ (k : Int) := by omega
        have hm1 : (k : Int) < (n : Int) := by omega
        have hg := lget_of_mem OK.out.rise (k := p.1) (v := p.2) (List.mem_iff_getElem?.2 ⟨k, hp⟩)
        have cG := get_any b mb s p.1 (key_wf OK.out hp) _ (HS.out _ FF.out)
        have e3 : s.getE p.1 = 0 := by simp [St.getE, hg]
        have e4 : s.getB p.1 = p.2 := by simp [St.getB, hg]
        rw [e3, e4] at cG
        obtain ⟨z, u⟩ := p
        simp only at p1 p2 cG
        clear hg e3 e4 hp
        go_wp2_with (go_at_call 13; refine cG.mono ?_; rintro e w' ⟨rfl, rfl⟩)
        go_roundw
        case rel => exact ⟨k + 1, by go_num, by omega, FF.out⟩
        case measure => simp [intOf]; omega
      · go_wp2
        go_ret
        exact ⟨rfl, HF.out.then FF.out⟩

end Go.Proofs.Ytggkhgpdnjkfcaa
