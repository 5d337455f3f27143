/-
  No cell of these rows narrows 'for every input' (looked for: loops, veiled, ifaces, maps, wideKeys, modest, calm, conditions, laid).
  DERIVED. THE GIVEN ROWS OF THIS SEAT. 4 by the template 'for every input the law returns true; each argument reads behind the call as it read before'; 0 by the template 'total and deterministic' (their statements: YtggkhgpdnjkfcaaTotals.lean).
  GIVEN WITH THE SEED: the statements are not yours to turn. If you find one false, say at which input.
  Laid BY PROGRAM, IN A SANDBOX (cutbox-rows.mjs): the forced cells as the released guide's own fill.sh prints them over the translation b8ceab50ded47c47… (all of the seat's roots in one cut). By AI agents, Wed Nov 11 2026. No macro, syntax, notation, axiom, sorry.
-/
import Derived.Test.YtggkhgpdnjkfcaaChecked
import GoSem.Claim
import GoSem.ClaimJoined
import GoSem.ClaimMapViews
import Derived.JoinedTies
import Derived.KernelRfl
namespace Go.Proofs.Ytggkhgpdnjkfcaa
/- THE CELL 'sum', in the pinned program and in every row, IS THE sha256 OF THE DUMP (.gsa) THAT YtggkhgpdnjkfcaaProg.lean LOADS. Nothing in Lean hashes anything: it is a label: what it is worth is what the hold of that sum in a sandbox is worth. -/
noncomputable def Try.pinned : Pinned := { name := "ytggkhgpdnjkfcaa", sum := "b8ceab50ded47c47f740fa6d5393d72a7eb9a7110dce8d253b1549264e615190", checked := Try.checked }
namespace Rows
def none {H : Type} : Left H := { results := [], args := [] }

/-- 'cirruslaw08.StoreNumbers': WHATEVER THE INPUT: true; the input reads as it did. -/
def storeNumbersSpec : ChangeSpec := { name := "storeNumbers", fn := fun _ => fun
  | [d1, d2, d3] => { results := [.lit (.bool true)], args := [d1, d2, d3] }
  | _ => none }
def storeNumbersRow : OpenClaim := { program := "ytggkhgpdnjkfcaa", sum := "b8ceab50ded47c47f740fa6d5393d72a7eb9a7110dce8d253b1549264e615190", func := "cirrus/cirruslaw08.StoreNumbers", spec := "storeNumbers", inPlace := ["maps.clone"], unfollowed := true, recurses := true, apart := false }
def StoreNumbersSaid : Prop := storeNumbersRow.holds Try.pinned (OpenSpec.ofChange storeNumbersSpec)

/-- ITS FALSE NEIGHBOUR: 'it returns false'. Refute it at one input. -/
def storeNumbersWrong : ChangeSpec := { name := "storeNumbers", fn := fun _ => fun
  | [d1, d2, d3] => { results := [.lit (.bool false)], args := [d1, d2, d3] }
  | _ => none }
def StoreNumbersWrongFalsely : Prop := storeNumbersRow.holds Try.pinned (OpenSpec.ofChange storeNumbersWrong)

/-- 'cirruslaw08.StoreCopied': WHATEVER THE INPUT: true; the input reads as it did. -/
def storeCopiedSpec : ChangeSpec := { name := "storeCopied", fn := fun _ => fun
  | [d] => { results := [.lit (.bool true)], args := [d] }
  | _ => none }
def storeCopiedRow : OpenClaim := { program := "ytggkhgpdnjkfcaa", sum := "b8ceab50ded47c47f740fa6d5393d72a7eb9a7110dce8d253b1549264e615190", func := "cirrus/cirruslaw08.StoreCopied", spec := "storeCopied", inPlace := ["maps.clone"], unfollowed := true, recurses := true, apart := false }
def StoreCopiedSaid : Prop := storeCopiedRow.holds Try.pinned (OpenSpec.ofChange storeCopiedSpec)

/-- ITS FALSE NEIGHBOUR: 'it returns false'. Refute it at one input. -/
def storeCopiedWrong : ChangeSpec := { name := "storeCopied", fn := fun _ => fun
  | [d] => { results := [.lit (.bool false)], args := [d] }
  | _ => none }
def StoreCopiedWrongFalsely : Prop := storeCopiedRow.holds Try.pinned (OpenSpec.ofChange storeCopiedWrong)

/-- 'cirruslaw08.StorePlays': WHATEVER THE INPUT: true; the input reads as it did. -/
def storePlaysSpec : ChangeSpec := { name := "storePlays", fn := fun _ => fun
  | [d] => { results := [.lit (.bool true)], args := [d] }
  | _ => none }
def storePlaysRow : OpenClaim := { program := "ytggkhgpdnjkfcaa", sum := "b8ceab50ded47c47f740fa6d5393d72a7eb9a7110dce8d253b1549264e615190", func := "cirrus/cirruslaw08.StorePlays", spec := "storePlays", inPlace := ["maps.clone"], unfollowed := true, recurses := true, apart := false }
def StorePlaysSaid : Prop := storePlaysRow.holds Try.pinned (OpenSpec.ofChange storePlaysSpec)

/-- ITS FALSE NEIGHBOUR: 'it returns false'. Refute it at one input. -/
def storePlaysWrong : ChangeSpec := { name := "storePlays", fn := fun _ => fun
  | [d] => { results := [.lit (.bool false)], args := [d] }
  | _ => none }
def StorePlaysWrongFalsely : Prop := storePlaysRow.holds Try.pinned (OpenSpec.ofChange storePlaysWrong)

/-- 'cirruslaw08.StoreUsed': WHATEVER THE INPUT: true; the input reads as it did. -/
def storeUsedSpec : ChangeSpec := { name := "storeUsed", fn := fun _ => fun
  | [d1, d2, d3, d4, d5] => { results := [.lit (.bool true)], args := [d1, d2, d3, d4, d5] }
  | _ => none }
def storeUsedRow : OpenClaim := { program := "ytggkhgpdnjkfcaa", sum := "b8ceab50ded47c47f740fa6d5393d72a7eb9a7110dce8d253b1549264e615190", func := "cirrus/cirruslaw08.StoreUsed", spec := "storeUsed", inPlace := ["maps.clone"], unfollowed := true, recurses := true, apart := false }
def StoreUsedSaid : Prop := storeUsedRow.holds Try.pinned (OpenSpec.ofChange storeUsedSpec)

/-- ITS FALSE NEIGHBOUR: 'it returns false'. Refute it at one input. -/
def storeUsedWrong : ChangeSpec := { name := "storeUsed", fn := fun _ => fun
  | [d1, d2, d3, d4, d5] => { results := [.lit (.bool false)], args := [d1, d2, d3, d4, d5] }
  | _ => none }
def StoreUsedWrongFalsely : Prop := storeUsedRow.holds Try.pinned (OpenSpec.ofChange storeUsedWrong)

/- THE SECOND FORM. 'bulk': how many values and letters a reading holds, each counted each time it is reached (what is shared counts as often as it is met; a slice's spare places count too). A statement '..UptoSaid' is the law's where the arguments, and the package variables that the reading takes, are together of bulk at most 1048576: NARROWER than '..Said'. Prove '..Said' where nothing that the law and all that it calls make is longer than what came in: it says more and counts as full. Else prove '..UptoSaid'. A law counts once. -/
mutual
def uptoBulk {H : Type} : DataW H → Nat
  | .lit (.string bytes) => bytes.length + 1
  | .lit _ => 1
  | .nil => 1
  | .ptr d => uptoBulk d + 1
  | .slice elems spare => uptoBulkAll elems + uptoBulkAll spare + 1
  | .agg parts => uptoBulkAll parts + 1
  | .iface _ d => uptoBulk d + 1
  | .map entries => uptoBulkEntries entries + 1
  | .held _ => 1
def uptoBulkAll {H : Type} : List (DataW H) → Nat
  | [] => 0
  | d :: r => uptoBulk d + uptoBulkAll r
def uptoBulkEntries {H : Type} : List (Lit × DataW H) → Nat
  | [] => 0
  | x :: r => uptoBulkEntry x + uptoBulkEntries r
def uptoBulkEntry {H : Type} : Lit × DataW H → Nat
  | (.string bytes, d) => bytes.length + uptoBulk d + 1
  | (_, d) => uptoBulk d + 1
 end
def uptoSmall : (H : Type) → List (DataW H) → Bool := fun _ ds => decide (uptoBulkAll ds ≤ 1048576)
def OpenSpec.upto (s : _root_.Go.ChangeSpec) : _root_.Go.OpenSpec := { _root_.Go.OpenSpec.ofChange s with cond := some uptoSmall }

/-- 'cirruslaw08.StoreNumbers', WHERE WHAT IT READS IS OF BULK AT MOST 1048576: true; the input reads as it did. -/
def storeNumbersUptoRow : OpenClaim := { program := "ytggkhgpdnjkfcaa", sum := "b8ceab50ded47c47f740fa6d5393d72a7eb9a7110dce8d253b1549264e615190", func := "cirrus/cirruslaw08.StoreNumbers", spec := "storeNumbers", inPlace := ["maps.clone"], unfollowed := true, recurses := true, apart := false, narrowed := true }
def StoreNumbersUptoSaid : Prop := storeNumbersUptoRow.holds Try.pinned (OpenSpec.upto storeNumbersSpec)

/-- 'cirruslaw08.StoreCopied', WHERE WHAT IT READS IS OF BULK AT MOST 1048576: true; the input reads as it did. -/
def storeCopiedUptoRow : OpenClaim := { program := "ytggkhgpdnjkfcaa", sum := "b8ceab50ded47c47f740fa6d5393d72a7eb9a7110dce8d253b1549264e615190", func := "cirrus/cirruslaw08.StoreCopied", spec := "storeCopied", inPlace := ["maps.clone"], unfollowed := true, recurses := true, apart := false, narrowed := true }
def StoreCopiedUptoSaid : Prop := storeCopiedUptoRow.holds Try.pinned (OpenSpec.upto storeCopiedSpec)

/-- 'cirruslaw08.StorePlays', WHERE WHAT IT READS IS OF BULK AT MOST 1048576: true; the input reads as it did. -/
def storePlaysUptoRow : OpenClaim := { program := "ytggkhgpdnjkfcaa", sum := "b8ceab50ded47c47f740fa6d5393d72a7eb9a7110dce8d253b1549264e615190", func := "cirrus/cirruslaw08.StorePlays", spec := "storePlays", inPlace := ["maps.clone"], unfollowed := true, recurses := true, apart := false, narrowed := true }
def StorePlaysUptoSaid : Prop := storePlaysUptoRow.holds Try.pinned (OpenSpec.upto storePlaysSpec)

/-- 'cirruslaw08.StoreUsed', WHERE WHAT IT READS IS OF BULK AT MOST 1048576: true; the input reads as it did. -/
def storeUsedUptoRow : OpenClaim := { program := "ytggkhgpdnjkfcaa", sum := "b8ceab50ded47c47f740fa6d5393d72a7eb9a7110dce8d253b1549264e615190", func := "cirrus/cirruslaw08.StoreUsed", spec := "storeUsed", inPlace := ["maps.clone"], unfollowed := true, recurses := true, apart := false, narrowed := true }
def StoreUsedUptoSaid : Prop := storeUsedUptoRow.holds Try.pinned (OpenSpec.upto storeUsedSpec)

end Rows
end Go.Proofs.Ytggkhgpdnjkfcaa
