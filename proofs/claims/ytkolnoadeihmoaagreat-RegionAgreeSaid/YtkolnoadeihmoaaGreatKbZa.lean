/-
  The Region laws together.
-/
import Derived.Test.YtkolnoadeihmoaaGreatKb26
namespace Go.Proofs.YtkolnoadeihmoaaGreat

theorem all_three : Rows.RegionFencedSaid ∧ Rows.RegionAgreeSaid ∧ Rows.RegionAckedSaid := ⟨fenced_holds, ragree_holds, acked_holds⟩

end Go.Proofs.YtkolnoadeihmoaaGreat
