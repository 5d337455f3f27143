/-
  The acts that come in, as they lie in memory; the walk of great.
-/
import Derived.Test.YtggkhgpdnjkfcaaSg
namespace Go.Proofs.Ytggkhgpdnjkfcaa
open Go.RowKit Go.Maps

structure Ac where
  op : ByteArray
  second : Bool
  bytes : ByteArray
  file : Int
  at_ : Int
  by_ : Int
  lv : Value
  nums : List Int

/-- A list of acts, below block B, in world w. -/
structure ActsB (B : Nat) (w : World) (a : Option Addr) (n : Nat) (xs : List Ac) : Prop where
  len : xs.length = n
  small : n ≤ 9223372036854775807
  get : ∀ (i : Nat) (x : Ac), xs[i]? = some x → ∃ b off, a = some ⟨b, off, none⟩ ∧ b < B ∧
    w.cell? ⟨b, off + i * 7, none⟩ = some (.string x.op) ∧ w.cell? ⟨b, off + i * 7 + 1, none⟩ = some (.bool x.second) ∧ w.cell? ⟨b, off + i * 7 + 2, none⟩ = some (.string x.bytes) ∧
    w.cell? ⟨b, off + i * 7 + 3, none⟩ = some (.int .i64 x.file) ∧ w.cell? ⟨b, off + i * 7 + 4, none⟩ = some (.int .i64 x.at_) ∧ w.cell? ⟨b, off + i * 7 + 5, none⟩ = some (.int .i64 x.by_) ∧
    w.cell? ⟨b, off + i * 7 + 6, none⟩ = some x.lv ∧ x.op.size ≤ maxLen ∧ x.bytes.size ≤ maxLen ∧ (Lit.int .i64 x.file).wf = true ∧ (Lit.int .i64 x.at_).wf = true ∧ (Lit.int .i64 x.by_).wf = true ∧
    (IntsR w x.lv x.nums ∧ (∀ b off n c, x.lv = .slice (some ⟨b, off, none⟩) n c → 0 < n → b < B) ∧ ∀ z ∈ x.nums, (Lit.int .i64 z).wf = true)
theorem ActsB.below {B : Nat} {w w' : World} {a : Option Addr} {n : Nat} {xs : List Ac} (h : ActsB B w a n xs) (hb : Below B w w') : ActsB B w' a n xs := by
  refine ⟨h.len, h.small, fun i x hx => ?_⟩
  obtain ⟨b, off, rfl, hB, c0, c1, c2, c3, c4, c5, c6, r1, r2, r3, r4, r5, r6, r7⟩ := h.get i x hx
  have hk : ∀ o, w'.cell? ⟨b, o, none⟩ = w.cell? ⟨b, o, none⟩ := fun o => hb.cell (p := ⟨b, o, none⟩) hB
  refine ⟨b, off, rfl, hB, (hk _).trans c0, (hk _).trans c1, (hk _).trans c2, (hk _).trans c3, (hk _).trans c4, (hk _).trans c5, (hk _).trans c6, r1, r2, r3, r4, r5, ?_, r7⟩
  obtain ⟨a, c, e, h1, h2, h3⟩ := r6
  refine ⟨a, c, e, h1, h2, fun h0 => ?_⟩
  obtain ⟨b', off', rfl, hc⟩ := h3 h0
  exact ⟨b', off', rfl, fun i hi => (hb.cell (p := ⟨b', off' + i, none⟩) (r7.1 b' off' _ _ e h0)).trans (hc i hi)⟩

def sMany : ByteArray := ⟨#[109, 97, 110, 121]⟩
def sLarge : ByteArray := ⟨#[108, 97, 114, 103, 101]⟩

/-- What great's answer says. -/
def GreatSays (xs : List Ac) (w : World) (e : Ending) (w' : World) : Prop := ∃ r, e = .returned (.bool r) ∧ (r = false → ∀ x ∈ xs, x.op = sLarge → x.at_ ≤ 8388609) ∧ w = w'
def AtUpto (xs : List Ac) (k : Nat) : Prop := ∀ j x, j < k → xs[j]? = some x → x.op = sLarge → x.at_ ≤ 8388609
theorem AtUpto.step {xs : List Ac} {k : Nat} {x : Ac} (h : AtUpto xs k) (hx : xs[k]? = some x) (h1 : x.at_ ≤ 8388609 ∨ (x.op.toList == [108, 97, 114, 103, 101]) = false) : AtUpto xs (k + 1) := by
  intro j y hj hy ho
  by_cases e : j = k
  · subst e
    rw [hx] at hy; cases hy
    rcases h1 with h1 | h1
    · exact h1
    · rw [ho, show (sLarge.toList == [108, 97, 114, 103, 101]) = true from by decide +kernel] at h1; cases h1
  · exact h j y (by omega) hy ho
theorem AtUpto.all {xs : List Ac} (h : AtUpto xs xs.length) : ∀ x ∈ xs, x.op = sLarge → x.at_ ≤ 8388609 := fun x hx ho => by
  obtain ⟨j, hj⟩ := List.mem_iff_getElem?.1 hx
  exact h j x (by have := List.getElem?_eq_some_iff.1 hj; exact this.1) hj ho

set_option maxRecDepth 100000 in
set_option maxHeartbeats 1000000 in
theorem great_any (B : Nat) (a : Option Addr) (n c : Nat) (xs : List Ac) (w : World) (h : ActsB B w a n xs) :
    Calls Try.prog 7 #[.slice a n c] w (GreatSays xs w) := by
  have hsm := h.small
  have hlen := h.len
  have H := hid h
  clear h
  by_cases h60 : 60 < n
  · clear hlen
    go_enter Try.func7, Try.ntmps7
    go_wp2
    go_ret
    exact ⟨true, rfl, by simp, rfl⟩
  · have HL := hid hlen
    clear hlen
    go_enter Try.func7, Try.ntmps7
    go_wp2
    go_loop [3, 4, 5] (fun m l i => ∃ k km kl : Nat, i = .int .i64 k ∧ k ≤ n ∧ m = .int .i64 km ∧ km ≤ k ∧ l = .int .i64 kl ∧ kl ≤ k ∧ AtUpto xs k) (fun _ _ i => n - (intOf i).toNat)
    case atStart => exact ⟨0, 0, 0, rfl, Nat.zero_le _, rfl, Nat.le_refl _, rfl, Nat.le_refl _, fun j x hj => absurd hj (by omega)⟩
    case round =>
      obtain ⟨k, km, kl, rfl, hk, rfl, hkm, rfl, hkl, hup⟩ := hrel
      have HU := hid hup
      clear hup
      by_cases hlt : k < n
      · obtain ⟨x, hx⟩ : ∃ x, xs[k]? = some x := ⟨_, List.getElem?_eq_getElem (by rw [HL.out]; exact hlt)⟩
        obtain ⟨b, off, rfl, hB, c0, c1, c2, c3, c4, c5, c6, r1, r2, r3, r4, r5, r6⟩ := H.out.get k x hx
        have HX := hid hx
        clear hx r3 r4 r5 r6 c1 c5 c6 hB
        unfold maxLen at r1 r2
        go_wp2
        all_goals first
          | (go_ret; exact ⟨true, rfl, by simp, rfl⟩)
          | (go_round
             case rel =>
               have hn := HU.out.step HX.out (by first | exact .inl (by omega) | exact .inr (by assumption) | exact .inr (‹_ ∧ (x.op.toList == [108, 97, 114, 103, 101]) = false›.2))
               first
               | exact ⟨k + 1, km, kl, by go_num, by omega, rfl, by omega, rfl, by omega, hn⟩
               | exact ⟨k + 1, km + 1, kl, by go_num, by omega, by go_num, by omega, rfl, by omega, hn⟩
               | exact ⟨k + 1, km, kl + 1, by go_num, by omega, rfl, by omega, by go_num, by omega, hn⟩
               | exact ⟨k + 1, km + 1, kl + 1, by go_num, by omega, by go_num, by omega, by go_num, by omega, hn⟩
             case measure => simp [intOf]; omega)
      · have hall := hid (AtUpto.all (xs := xs) (by rw [HL.out]; have hkn : k = n := (by omega); rw [← hkn]; exact HU.out))
        go_wp2
        all_goals (go_ret; exact ⟨_, rfl, fun _ => hall.out, rfl⟩)

end Go.Proofs.Ytggkhgpdnjkfcaa
