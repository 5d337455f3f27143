/-
  Walks of package store: Used.
-/
import Derived.Test.YtggkhgpdnjkfcaaSc
import Derived.Maps.RangeWalk
namespace Go.Proofs.Ytggkhgpdnjkfcaa
open Go.RowKit Go.Maps

/-- The bytes of the entries that have come. -/
def sumD (left : Lit → Bool) : FL → Int
  | [] => 0
  | p :: r => (if left (litk p.1) then 0 else (p.2.size : Int)) + sumD left r
theorem sumD_start (left : Lit → Bool) : ∀ l : FL, (∀ p ∈ l, left (litk p.1) = true) → sumD left l = 0
  | [], _ => rfl
  | p :: r, h => by simp [sumD, h p (by simp), sumD_start left r (fun q hq => h q (by simp [hq]))]
theorem sumD_end (left : Lit → Bool) (h : ∀ kl, left kl = false) : ∀ l : FL, sumD left l = sumB l
  | [] => rfl
  | p :: r => by simp [sumD, sumB, h, sumD_end left h r]
theorem sumD_skip (left : Lit → Bool) (x : Int) : ∀ l : FL, (∀ p ∈ l, p.1 ≠ x) → sumD (fun z => left z && !z.sameKey (litk x)) l = sumD left l
  | [], _ => rfl
  | p :: r, h => by
    have hp : p.1 ≠ x := h p (by simp)
    simp only [sumD, litk_same, hp, decide_false, Bool.not_false, Bool.and_true]
    rw [sumD_skip left x r (fun q hq => h q (by simp [hq]))]
theorem sumD_step (left : Lit → Bool) (x : Int) (c : ByteArray) (hx : left (litk x) = true) : ∀ l : FL, Rise l → lget l x = some c → sumD (fun z => left z && !z.sameKey (litk x)) l = sumD left l + c.size
  | [], _, h => by cases h
  | (a, v) :: r, hr, h => by
    obtain ⟨h1, h2⟩ := List.pairwise_cons.1 hr
    unfold lget at h
    by_cases e : a = x
    · subst e
      simp only [if_true] at h; cases h
      simp only [sumD, litk_same, hx, decide_true, Bool.not_true, Bool.and_false, Bool.false_eq_true, if_false, if_true]
      rw [sumD_skip left a r (fun p hp => by have := h1 p hp; simp at this; omega)]
      omega
    · simp only [e, if_false] at h
      simp only [sumD, litk_same, e, decide_false, Bool.not_false, Bool.and_true]
      rw [sumD_step left x c hx r h2 h]
      omega
theorem sumD_bd (left : Lit → Bool) : ∀ l : FL, (∀ p ∈ l, p.2.size ≤ 8388608) → 0 ≤ sumD left l ∧ sumD left l ≤ 8388608 * l.length
  | [], _ => by simp [sumD]
  | p :: r, h => by
    have := sumD_bd left r (fun q hq => h q (by simp [hq]))
    have := h p (by simp)
    simp only [sumD, List.length_cons]
    push_cast
    split <;> omega
theorem lget_of_at {l : FL} {x : Int} {c : ByteArray} (h : ∀ zd : DataW Unit, (dm l).atKey (litk x) zd = .lit (.string c.data.toList)) : lget l x = some c := by
  have h1 := h .nil
  rw [dm_at] at h1
  cases hg : lget l x with
  | none => rw [hg] at h1; cases h1
  | some v => rw [hg] at h1; rw [dat_inj h1]
theorem dm_left {l : FL} (hr : Rise l) : ∀ p ∈ l, Maps.has (dm (H := Unit) l) (litk p.1) = true := fun p hp => by
  rw [dm_has, lget_of_mem hr (k := p.1) (v := p.2) hp]; rfl

set_option maxRecDepth 100000 in
set_option maxHeartbeats 400000 in
theorem used_any (b mb : Nat) (s : St) (w : World) (h : StoreAt w b mb s) :
    Calls Try.prog 20 #[.pointer (some ⟨b, 0, none⟩)] w fun e w' => e = .returned (.int .i64 s.used) ∧ Fr [] w w' := by
  have c0 := h.c0
  have hlen := h.ok.len
  have hown : w.ownsMap (H := Unit) Try.prog 3 (plainElem Try.prog 9) mb s.files.length (dm s.files) := h.map
  have HO := hid h.ok
  have HM := hid h
  clear h
  go_enter Try.func20, Try.ntmps20
  go_wp2_with (first
    | (go_at_call 24; refine (made_yes _ _ _ c0).mono ?_; rintro e w' ⟨rfl, rfl⟩)
    | (at_range; refine wpList_range_own _ rfl _ 51 rfl 3 9 law3 Try.underlying51 _ mb s.files.length _ rfl hown ?_; intro w0 hrg0 hg0 hs0))
  go_frame
  have HB := hid (sumD_bd · s.files HO.out.sizes)
  go_loopw [3, 5] (fun n _ wr => ∃ (left : Lit → Bool) (cnt : Nat), wr.ranges (H := Unit) Try.prog 3 (plainElem Try.prog 9) mb w.heap.size s.files.length (dm s.files) left cnt ∧ n = .int .i64 (sumD left s.files) ∧ Fr [] w wr)
    (fun _ _ wr => wr.rangeLeft mb w.heap.size)
  case atStart => exact ⟨_, _, hrg0, by rw [sumD_start _ _ (dm_left HO.out.rise)], (Fr.refl [] _).grown hg0 (fun k e => by cases e)⟩
  case round =>
    obtain ⟨left, cnt, hrg, rfl, hfr⟩ := hrel
    have hb1 := HB.out left
    go_wp2_with (at_next; refine wpList_next_ranges_is _ rfl _ rfl 3 9 .i64 law3 Try.underlying3 Try.underlying9 mb w.heap.size s.files.length _ _ _ rfl hrg ?_ ?_)
    · intro _ hl0
      go_wp2
      go_ret
      exact ⟨by rw [sumD_end _ hl0]; rfl, hfr⟩
    · intro x c w1 cnt1 hwx hwc hlx hat hrg1 hlt hg1 hs1 hen
      have HST := hid (sumD_step left x c hlx s.files HO.out.rise (lget_of_at hat))
      have hfr1 := hfr.grown hg1 (fun k e => by cases e; exact .inr (Nat.le_refl _))
      have hcs : c.size ≤ 8388608 := HO.out.sizes _ (lget_mem (lget_of_at hat))
      clear hat hlx hwc
      go_wp2
      go_roundw
      case rel => exact ⟨_, cnt1, hrg1, by rw [← HST.out]; rfl, hfr1⟩
      case measure => rw [hrg1.left_eq, hrg.left_eq]; exact hlt

end Go.Proofs.Ytggkhgpdnjkfcaa
