/-
  The walk of CatalogNothing.
  The walk of CatalogOne.
-/
import Derived.Lib.SmallJoins
import Derived.Deep.RegionHeld3
import Derived.Test.YtcfgcmjnailndaaKd17
import Derived.Test.YtcfgcmjnailndaaKd18
namespace Go.Proofs.Ytcfgcmjnailndaa
open Go.RowKit Go.Proofs.Ytcfgcmjnailndaa.PCatalogKept Go.Proofs.YtcfgcmjnailndaaW.PrintWords Go.Proofs.YtcfgcmjnailndaaW.PrintLast Go.Proofs.YtcfgcmjnailndaaW.PrintMore
structure OneRaw (w : World) (x : SP) (B : Option Addr) (b : Nat) : Prop where
 row : Kd.C kJ w B x.f0.length x.f0
 cap : x.f0.length ≤ b
 raw : StepRaw x
theorem OneRaw.fr {w w' : World} {x : SP} {B : Option Addr} {b : Nat} (h : OneRaw w x B b) (f : Fr [] w w') : OneRaw w' x B b := ⟨Kd.C_below h.row f.below0, h.cap, h.raw⟩
theorem OneRaw.list {w : World} {x : SP} {B : Option Addr} {b : Nat} (h : OneRaw w x B b) : StepsRaw (w.alloc (.cells #[.slice B x.f0.length b, .int .i64 x.f1] 25)) (some ⟨w.heap.size, 0, none⟩) 1 [x] := by
 have hb := heap_alloc_new w (.cells #[.slice B x.f0.length b, .int .i64 x.f1] 25)
 refine ⟨⟨rfl, by simp, fun _ => ⟨⟨w.heap.size, 0, none⟩, rfl, fun j p hp => ?_⟩⟩, by simp, by simpa using h.raw⟩
 have hj := (List.getElem?_eq_some_iff.1 hp).1
 simp at hj
 subst hj
 simp at hp
 subst hp
 refine ⟨[.slice B x.f0.length b, .int .i64 x.f1], rfl, k25_mk _ x h.cap (Kd.C_below h.row ((Fr.refl [] w).alloc _).below0), fun i u hu => ?_⟩
 rw [add_mk]
 have hi := (List.getElem?_eq_some_iff.1 hu).1
 have := cell_of_row _ w.heap.size i _ _ _ hb
 simp only [Nat.zero_mul, Nat.zero_add]
 rw [this]
 simpa using hu
theorem OneRaw.deeds {w : World} {x : SP} {B : Option Addr} {b c : Nat} (h : OneRaw w x B b) (hp : Played [x]) : ListIn w B c x.f0 :=
 ⟨h.row, by have := hp.deeds x (by simp); omega, hp.ok x (by simp)⟩
theorem CatAt.notin {w : World} {cb : Nat} {v : Value} {ss : List ST} (h : CatAt w cb v ss) {b : Nat} {cs : Array Value} {t : TypeId} (hb : w.heap[b]? = some (.cells cs t (0, 0))) (ht : t ≠ 58 ∧ t ≠ 71) : b ∉ cb :: v.ownBlock.toList := fun hm =>
 h.noT (E := [t]) (fun q hq => by rw [List.mem_singleton.1 hq]; exact ht) b hm t (by simp) cs hb
end Go.Proofs.Ytcfgcmjnailndaa
