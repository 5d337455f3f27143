/-
  No cell of these rows narrows 'for every input' (looked for: loops, veiled, ifaces, maps, wideKeys, modest, calm, conditions, laid).
  DERIVED. THE GIVEN ROWS OF THIS SEAT. 5 by the template 'for every input the law returns true; each argument reads behind the call as it read before'; 0 by the template 'total and deterministic' (their statements: YtcfgcmjnailndaaTotals.lean).
  GIVEN WITH THE SEED: the statements are not yours to turn. If you find one false, say at which input.
  Laid BY PROGRAM, IN A SANDBOX (cutbox-rows.mjs): the forced cells as the released guide's own fill.sh prints them over the translation f23b812c6af85cfb… (all of the seat's roots in one cut). By AI agents, Wed Nov 11 2026. No macro, syntax, notation, axiom, sorry.
-/
import Derived.Test.YtcfgcmjnailndaaChecked
import GoSem.Claim
import GoSem.ClaimJoined
import GoSem.ClaimMapViews
import Derived.JoinedTies
import Derived.KernelRfl
namespace Go.Proofs.Ytcfgcmjnailndaa
/- THE CELL 'sum', in the pinned program and in every row, IS THE sha256 OF THE DUMP (.gsa) THAT YtcfgcmjnailndaaProg.lean LOADS. Nothing in Lean hashes anything: it is a label: what it is worth is what the hold of that sum in a sandbox is worth. -/
noncomputable def Try.pinned : Pinned := { name := "ytcfgcmjnailndaa", sum := "f23b812c6af85cfb72e78bb9fa44fe9e00890ee7eefc7eb0d4e5d82997e2929a", checked := Try.checked }
namespace Rows
def none {H : Type} : Left H := { results := [], args := [] }

/-- 'cirruslaw10.CatalogOne': WHATEVER THE INPUT: true; the input reads as it did. -/
def catalogOneSpec : ChangeSpec := { name := "catalogOne", fn := fun _ => fun
  | [d1, d2] => { results := [.lit (.bool true)], args := [d1, d2] }
  | _ => none }
def catalogOneRow : OpenClaim := { program := "ytcfgcmjnailndaa", sum := "f23b812c6af85cfb72e78bb9fa44fe9e00890ee7eefc7eb0d4e5d82997e2929a", func := "cirrus/cirruslaw10.CatalogOne", spec := "catalogOne", unfollowed := true, recurses := true, apart := false }
def CatalogOneSaid : Prop := catalogOneRow.holds Try.pinned (OpenSpec.ofChange catalogOneSpec)

/-- ITS FALSE NEIGHBOUR: 'it returns false'. Refute it at one input. -/
def catalogOneWrong : ChangeSpec := { name := "catalogOne", fn := fun _ => fun
  | [d1, d2] => { results := [.lit (.bool false)], args := [d1, d2] }
  | _ => none }
def CatalogOneWrongFalsely : Prop := catalogOneRow.holds Try.pinned (OpenSpec.ofChange catalogOneWrong)

/-- 'cirruslaw10.CatalogKept': WHATEVER THE INPUT: true; the input reads as it did. -/
def catalogKeptSpec : ChangeSpec := { name := "catalogKept", fn := fun _ => fun
  | [d1, d2] => { results := [.lit (.bool true)], args := [d1, d2] }
  | _ => none }
def catalogKeptRow : OpenClaim := { program := "ytcfgcmjnailndaa", sum := "f23b812c6af85cfb72e78bb9fa44fe9e00890ee7eefc7eb0d4e5d82997e2929a", func := "cirrus/cirruslaw10.CatalogKept", spec := "catalogKept", unfollowed := true, recurses := true, apart := false }
def CatalogKeptSaid : Prop := catalogKeptRow.holds Try.pinned (OpenSpec.ofChange catalogKeptSpec)

/-- ITS FALSE NEIGHBOUR: 'it returns false'. Refute it at one input. -/
def catalogKeptWrong : ChangeSpec := { name := "catalogKept", fn := fun _ => fun
  | [d1, d2] => { results := [.lit (.bool false)], args := [d1, d2] }
  | _ => none }
def CatalogKeptWrongFalsely : Prop := catalogKeptRow.holds Try.pinned (OpenSpec.ofChange catalogKeptWrong)

/-- 'cirruslaw10.CatalogNothing': WHATEVER THE INPUT: true; the input reads as it did. -/
def catalogNothingSpec : ChangeSpec := { name := "catalogNothing", fn := fun _ => fun
  | [d1, d2] => { results := [.lit (.bool true)], args := [d1, d2] }
  | _ => none }
def catalogNothingRow : OpenClaim := { program := "ytcfgcmjnailndaa", sum := "f23b812c6af85cfb72e78bb9fa44fe9e00890ee7eefc7eb0d4e5d82997e2929a", func := "cirrus/cirruslaw10.CatalogNothing", spec := "catalogNothing", unfollowed := true, recurses := true, apart := false }
def CatalogNothingSaid : Prop := catalogNothingRow.holds Try.pinned (OpenSpec.ofChange catalogNothingSpec)

/-- ITS FALSE NEIGHBOUR: 'it returns false'. Refute it at one input. -/
def catalogNothingWrong : ChangeSpec := { name := "catalogNothing", fn := fun _ => fun
  | [d1, d2] => { results := [.lit (.bool false)], args := [d1, d2] }
  | _ => none }
def CatalogNothingWrongFalsely : Prop := catalogNothingRow.holds Try.pinned (OpenSpec.ofChange catalogNothingWrong)

/-- 'cirruslaw10.CatalogBack': WHATEVER THE INPUT: true; the input reads as it did. -/
def catalogBackSpec : ChangeSpec := { name := "catalogBack", fn := fun _ => fun
  | [d1, d2, d3, d4, d5, d6] => { results := [.lit (.bool true)], args := [d1, d2, d3, d4, d5, d6] }
  | _ => none }
def catalogBackRow : OpenClaim := { program := "ytcfgcmjnailndaa", sum := "f23b812c6af85cfb72e78bb9fa44fe9e00890ee7eefc7eb0d4e5d82997e2929a", func := "cirrus/cirruslaw10.CatalogBack", spec := "catalogBack", unfollowed := true, recurses := true, apart := false }
def CatalogBackSaid : Prop := catalogBackRow.holds Try.pinned (OpenSpec.ofChange catalogBackSpec)

/-- ITS FALSE NEIGHBOUR: 'it returns false'. Refute it at one input. -/
def catalogBackWrong : ChangeSpec := { name := "catalogBack", fn := fun _ => fun
  | [d1, d2, d3, d4, d5, d6] => { results := [.lit (.bool false)], args := [d1, d2, d3, d4, d5, d6] }
  | _ => none }
def CatalogBackWrongFalsely : Prop := catalogBackRow.holds Try.pinned (OpenSpec.ofChange catalogBackWrong)

/-- 'cirruslaw10.CatalogIds': WHATEVER THE INPUT: true; the input reads as it did. -/
def catalogIdsSpec : ChangeSpec := { name := "catalogIds", fn := fun _ => fun
  | [d] => { results := [.lit (.bool true)], args := [d] }
  | _ => none }
def catalogIdsRow : OpenClaim := { program := "ytcfgcmjnailndaa", sum := "f23b812c6af85cfb72e78bb9fa44fe9e00890ee7eefc7eb0d4e5d82997e2929a", func := "cirrus/cirruslaw10.CatalogIds", spec := "catalogIds", unfollowed := true, recurses := true, apart := false }
def CatalogIdsSaid : Prop := catalogIdsRow.holds Try.pinned (OpenSpec.ofChange catalogIdsSpec)

/-- ITS FALSE NEIGHBOUR: 'it returns false'. Refute it at one input. -/
def catalogIdsWrong : ChangeSpec := { name := "catalogIds", fn := fun _ => fun
  | [d] => { results := [.lit (.bool false)], args := [d] }
  | _ => none }
def CatalogIdsWrongFalsely : Prop := catalogIdsRow.holds Try.pinned (OpenSpec.ofChange catalogIdsWrong)

/- THE SECOND FORM. 'bulk': how many values and letters a reading holds, each counted each time it is reached (what is shared counts as often as it is met; a slice's spare places count too). A statement '..UptoSaid' is the law's where the arguments, and the package variables that the reading takes, are together of bulk at most 1048576: NARROWER than '..Said'. Prove '..Said' where nothing that the law and all that it calls make is longer than what came in: it says more and counts as full. Else prove '..UptoSaid'. A law counts once. -/
mutual
def uptoBulk {H : Type} : DataW H → Nat
  | .lit (.string bytes) => bytes.length + 1
  | .lit _ => 1
  | .nil => 1
  | .ptr d => uptoBulk d + 1
  | .slice elems spare => uptoBulkAll elems + uptoBulkAll spare + 1
  | .agg parts => uptoBulkAll parts + 1
  | .iface _ d => uptoBulk d + 1
  | .map entries => uptoBulkEntries entries + 1
  | .held _ => 1
def uptoBulkAll {H : Type} : List (DataW H) → Nat
  | [] => 0
  | d :: r => uptoBulk d + uptoBulkAll r
def uptoBulkEntries {H : Type} : List (Lit × DataW H) → Nat
  | [] => 0
  | x :: r => uptoBulkEntry x + uptoBulkEntries r
def uptoBulkEntry {H : Type} : Lit × DataW H → Nat
  | (.string bytes, d) => bytes.length + uptoBulk d + 1
  | (_, d) => uptoBulk d + 1
 end
def uptoSmall : (H : Type) → List (DataW H) → Bool := fun _ ds => decide (uptoBulkAll ds ≤ 1048576)
def OpenSpec.upto (s : _root_.Go.ChangeSpec) : _root_.Go.OpenSpec := { _root_.Go.OpenSpec.ofChange s with cond := some uptoSmall }

/-- 'cirruslaw10.CatalogOne', WHERE WHAT IT READS IS OF BULK AT MOST 1048576: true; the input reads as it did. -/
def catalogOneUptoRow : OpenClaim := { program := "ytcfgcmjnailndaa", sum := "f23b812c6af85cfb72e78bb9fa44fe9e00890ee7eefc7eb0d4e5d82997e2929a", func := "cirrus/cirruslaw10.CatalogOne", spec := "catalogOne", unfollowed := true, recurses := true, apart := false, narrowed := true }
def CatalogOneUptoSaid : Prop := catalogOneUptoRow.holds Try.pinned (OpenSpec.upto catalogOneSpec)

/-- 'cirruslaw10.CatalogKept', WHERE WHAT IT READS IS OF BULK AT MOST 1048576: true; the input reads as it did. -/
def catalogKeptUptoRow : OpenClaim := { program := "ytcfgcmjnailndaa", sum := "f23b812c6af85cfb72e78bb9fa44fe9e00890ee7eefc7eb0d4e5d82997e2929a", func := "cirrus/cirruslaw10.CatalogKept", spec := "catalogKept", unfollowed := true, recurses := true, apart := false, narrowed := true }
def CatalogKeptUptoSaid : Prop := catalogKeptUptoRow.holds Try.pinned (OpenSpec.upto catalogKeptSpec)

/-- 'cirruslaw10.CatalogNothing', WHERE WHAT IT READS IS OF BULK AT MOST 1048576: true; the input reads as it did. -/
def catalogNothingUptoRow : OpenClaim := { program := "ytcfgcmjnailndaa", sum := "f23b812c6af85cfb72e78bb9fa44fe9e00890ee7eefc7eb0d4e5d82997e2929a", func := "cirrus/cirruslaw10.CatalogNothing", spec := "catalogNothing", unfollowed := true, recurses := true, apart := false, narrowed := true }
def CatalogNothingUptoSaid : Prop := catalogNothingUptoRow.holds Try.pinned (OpenSpec.upto catalogNothingSpec)

/-- 'cirruslaw10.CatalogBack', WHERE WHAT IT READS IS OF BULK AT MOST 1048576: true; the input reads as it did. -/
def catalogBackUptoRow : OpenClaim := { program := "ytcfgcmjnailndaa", sum := "f23b812c6af85cfb72e78bb9fa44fe9e00890ee7eefc7eb0d4e5d82997e2929a", func := "cirrus/cirruslaw10.CatalogBack", spec := "catalogBack", unfollowed := true, recurses := true, apart := false, narrowed := true }
def CatalogBackUptoSaid : Prop := catalogBackUptoRow.holds Try.pinned (OpenSpec.upto catalogBackSpec)

/-- 'cirruslaw10.CatalogIds', WHERE WHAT IT READS IS OF BULK AT MOST 1048576: true; the input reads as it did. -/
def catalogIdsUptoRow : OpenClaim := { program := "ytcfgcmjnailndaa", sum := "f23b812c6af85cfb72e78bb9fa44fe9e00890ee7eefc7eb0d4e5d82997e2929a", func := "cirrus/cirruslaw10.CatalogIds", spec := "catalogIds", unfollowed := true, recurses := true, apart := false, narrowed := true }
def CatalogIdsUptoSaid : Prop := catalogIdsUptoRow.holds Try.pinned (OpenSpec.upto catalogIdsSpec)

end Rows
end Go.Proofs.Ytcfgcmjnailndaa
