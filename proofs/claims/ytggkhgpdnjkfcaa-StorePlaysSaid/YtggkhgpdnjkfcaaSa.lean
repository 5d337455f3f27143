/-
  Walks of package store: Made, Room, New, Most, Get, Put, Drop.
-/
import Derived.Test.YtggkhgpdnjkfcaaSw
namespace Go.Proofs.Ytggkhgpdnjkfcaa
open Go.RowKit Go.Maps

theorem neqMap (w : World) (r : Option Nat) : (binOp .neq 51 (.map r) (.map none)).run Try.prog w = .ok (.bool (!r.isNone)) w := run_neq_map_nil w _ _ _ r Try.underlying51
attribute [local go_sem] neqMap

theorem made_yes (b mb : Nat) (w : World) (c0 : w.cell? ⟨b, 0, none⟩ = some (.map (some mb))) :
    Calls Try.prog 24 #[.pointer (some ⟨b, 0, none⟩)] w fun e w' => e = .returned (.bool true) ∧ w = w' := by
  go_enter Try.func24, Try.ntmps24
  go_wp2
  go_ret
  exact ⟨rfl, rfl⟩
theorem made_zero (b : Nat) (w : World) (c0 : w.cell? ⟨b, 0, none⟩ = some (.map none)) :
    Calls Try.prog 24 #[.pointer (some ⟨b, 0, none⟩)] w fun e w' => e = .returned (.bool false) ∧ w = w' := by
  go_enter Try.func24, Try.ntmps24
  go_wp2
  go_ret
  exact ⟨rfl, rfl⟩
theorem made_nil (w : World) :
    Calls Try.prog 24 #[.pointer none] w fun e w' => e = .returned (.bool false) ∧ w = w' := by
  go_enter Try.func24, Try.ntmps24
  go_wp2
  go_ret
  exact ⟨rfl, rfl⟩
theorem room_any (b : Nat) (w : World) (m n : Int) (c1 : w.cell? ⟨b, 1, none⟩ = some (.int .i64 m)) (h0 : 0 ≤ m) (h1 : m ≤ 4000) :
    Calls Try.prog 25 #[.pointer (some ⟨b, 0, none⟩), .int .i64 n] w fun e w' => e = .returned (.bool (decide (n ≤ 4000 - m))) ∧ w = w' := by
  go_enter Try.func25, Try.ntmps25
  go_wp2
  all_goals go_ret
  all_goals exact ⟨rfl, rfl⟩
theorem new_any (w : World) :
    Calls Try.prog 9 #[] w fun e w' => e = .returned (.pointer (some ⟨w.heap.size + 1, 0, none⟩)) ∧ w' = (w.alloc (.map #[] 0)).alloc (.cells #[.map (some w.heap.size), .int .i64 0] 53) := by
  have hmm := @run_makeMap Try.prog
  go_enter Try.func9, Try.ntmps9
  go_wp2
  go_ret
  exact ⟨rfl, rfl⟩
theorem most_any (b mb : Nat) (s : St) (w : World) (h : StoreAt w b mb s) :
    Calls Try.prog 11 #[.pointer (some ⟨b, 0, none⟩)] w fun e w' => e = .returned (.int .i64 s.most) ∧ w = w' := by
  have c0 := h.c0; have c1 := h.c1
  go_enter Try.func11, Try.ntmps11
  go_wp2
  go_ret
  exact ⟨rfl, rfl⟩
set_option maxRecDepth 100000 in
theorem get_any (b mb : Nat) (s : St) (k : Int) (hk : (Lit.int .i64 k).wf = true) (w : World) (h : StoreAt w b mb s) :
    Calls Try.prog 13 #[.pointer (some ⟨b, 0, none⟩), .int .i64 k] w fun e w' => e = .returned (.tuple #[.string (s.getB k), .int .i64 (s.getE k)]) ∧ w = w' := by
  have c0 := h.c0
  have hl := h.map.look hk
  unfold St.getB St.getE
  cases hg : lget s.files k with
  | none =>
    rw [hg] at hl
    simp only [Option.getD_none, Option.isSome_none] at hl
    clear hg h hk
    go_enter Try.func13, Try.ntmps13
    go_wp2_with (go_at_call 24; refine (made_yes _ _ _ c0).mono ?_; rintro e w' ⟨rfl, rfl⟩)
    go_ret2
    exact ⟨rfl, rfl⟩
  | some v =>
    rw [hg] at hl
    simp only [Option.getD_some, Option.isSome_some] at hl
    clear hg h hk
    go_enter Try.func13, Try.ntmps13
    go_wp2_with (go_at_call 24; refine (made_yes _ _ _ c0).mono ?_; rintro e w' ⟨rfl, rfl⟩)
    go_ret2
    exact ⟨rfl, rfl⟩

end Go.Proofs.Ytggkhgpdnjkfcaa
