/-
  No cell of these rows narrows 'for every input' (looked for: loops, veiled, ifaces, maps, wideKeys, modest, calm, conditions, laid).
  DERIVED. THE GIVEN ROWS OF THIS SEAT. 6 by the template 'for every input the law returns true; each argument reads behind the call as it read before'; 0 by the template 'total and deterministic' (their statements: YtkolnoadeihmoaaGreatTotals.lean).
  GIVEN WITH THE SEED: the statements are not yours to turn. If you find one false, say at which input.
  Laid BY PROGRAM, IN A SANDBOX (cutbox-rows.mjs): the forced cells as the released guide's own fill.sh prints them over the translation 2bcd610b66f367f5… (all of the seat's roots in one cut). By AI agents, Wed Nov 11 2026. No macro, syntax, notation, axiom, sorry.
-/
import Derived.Test.YtkolnoadeihmoaaGreatChecked
import GoSem.Claim
import GoSem.ClaimJoined
import GoSem.ClaimMapViews
import Derived.JoinedTies
import Derived.KernelRfl
namespace Go.Proofs.YtkolnoadeihmoaaGreat
/- THE CELL 'sum', in the pinned program and in every row, IS THE sha256 OF THE DUMP (.gsa) THAT YtkolnoadeihmoaaGreatProg.lean LOADS. Nothing in Lean hashes anything: it is a label: what it is worth is what the hold of that sum in a sandbox is worth. -/
noncomputable def Tryz.pinned : Pinned := { name := "ytkolnoadeihmoaagreat", sum := "2bcd610b66f367f5175b16b8c2dec63e004344b0f82bc4900424a26aef8ec745", checked := Tryz.checked }
namespace Rows
def none {H : Type} : Left H := { results := [], args := [] }

/-- 'cirruslaw22.RegionPlays': WHATEVER THE INPUT: true; the input reads as it did. -/
def regionPlaysSpec : ChangeSpec := { name := "regionPlays", fn := fun _ => fun
  | [d1, d2, d3, d4] => { results := [.lit (.bool true)], args := [d1, d2, d3, d4] }
  | _ => none }
def regionPlaysRow : OpenClaim := { program := "ytkolnoadeihmoaagreat", sum := "2bcd610b66f367f5175b16b8c2dec63e004344b0f82bc4900424a26aef8ec745", func := "cirrus/cirruslaw22.RegionPlays", spec := "regionPlays", unfollowed := true, recurses := true, apart := false }
def RegionPlaysSaid : Prop := regionPlaysRow.holds Tryz.pinned (OpenSpec.ofChange regionPlaysSpec)

/-- ITS FALSE NEIGHBOUR: 'it returns false'. Refute it at one input. -/
def regionPlaysWrong : ChangeSpec := { name := "regionPlays", fn := fun _ => fun
  | [d1, d2, d3, d4] => { results := [.lit (.bool false)], args := [d1, d2, d3, d4] }
  | _ => none }
def RegionPlaysWrongFalsely : Prop := regionPlaysRow.holds Tryz.pinned (OpenSpec.ofChange regionPlaysWrong)

/-- 'cirruslaw22.RegionAcked': WHATEVER THE INPUT: true; the input reads as it did. -/
def regionAckedSpec : ChangeSpec := { name := "regionAcked", fn := fun _ => fun
  | [d1, d2, d3] => { results := [.lit (.bool true)], args := [d1, d2, d3] }
  | _ => none }
def regionAckedRow : OpenClaim := { program := "ytkolnoadeihmoaagreat", sum := "2bcd610b66f367f5175b16b8c2dec63e004344b0f82bc4900424a26aef8ec745", func := "cirrus/cirruslaw22.RegionAcked", spec := "regionAcked", unfollowed := true, recurses := true, apart := false }
def RegionAckedSaid : Prop := regionAckedRow.holds Tryz.pinned (OpenSpec.ofChange regionAckedSpec)

/-- ITS FALSE NEIGHBOUR: 'it returns false'. Refute it at one input. -/
def regionAckedWrong : ChangeSpec := { name := "regionAcked", fn := fun _ => fun
  | [d1, d2, d3] => { results := [.lit (.bool false)], args := [d1, d2, d3] }
  | _ => none }
def RegionAckedWrongFalsely : Prop := regionAckedRow.holds Tryz.pinned (OpenSpec.ofChange regionAckedWrong)

/-- 'cirruslaw22.RegionAgree': WHATEVER THE INPUT: true; the input reads as it did. -/
def regionAgreeSpec : ChangeSpec := { name := "regionAgree", fn := fun _ => fun
  | [d1, d2, d3, d4] => { results := [.lit (.bool true)], args := [d1, d2, d3, d4] }
  | _ => none }
def regionAgreeRow : OpenClaim := { program := "ytkolnoadeihmoaagreat", sum := "2bcd610b66f367f5175b16b8c2dec63e004344b0f82bc4900424a26aef8ec745", func := "cirrus/cirruslaw22.RegionAgree", spec := "regionAgree", unfollowed := true, recurses := true, apart := false }
def RegionAgreeSaid : Prop := regionAgreeRow.holds Tryz.pinned (OpenSpec.ofChange regionAgreeSpec)

/-- ITS FALSE NEIGHBOUR: 'it returns false'. Refute it at one input. -/
def regionAgreeWrong : ChangeSpec := { name := "regionAgree", fn := fun _ => fun
  | [d1, d2, d3, d4] => { results := [.lit (.bool false)], args := [d1, d2, d3, d4] }
  | _ => none }
def RegionAgreeWrongFalsely : Prop := regionAgreeRow.holds Tryz.pinned (OpenSpec.ofChange regionAgreeWrong)

/-- 'cirruslaw22.RegionFenced': WHATEVER THE INPUT: true; the input reads as it did. -/
def regionFencedSpec : ChangeSpec := { name := "regionFenced", fn := fun _ => fun
  | [d1, d2, d3, d4] => { results := [.lit (.bool true)], args := [d1, d2, d3, d4] }
  | _ => none }
def regionFencedRow : OpenClaim := { program := "ytkolnoadeihmoaagreat", sum := "2bcd610b66f367f5175b16b8c2dec63e004344b0f82bc4900424a26aef8ec745", func := "cirrus/cirruslaw22.RegionFenced", spec := "regionFenced", unfollowed := true, recurses := true, apart := false }
def RegionFencedSaid : Prop := regionFencedRow.holds Tryz.pinned (OpenSpec.ofChange regionFencedSpec)

/-- ITS FALSE NEIGHBOUR: 'it returns false'. Refute it at one input. -/
def regionFencedWrong : ChangeSpec := { name := "regionFenced", fn := fun _ => fun
  | [d1, d2, d3, d4] => { results := [.lit (.bool false)], args := [d1, d2, d3, d4] }
  | _ => none }
def RegionFencedWrongFalsely : Prop := regionFencedRow.holds Tryz.pinned (OpenSpec.ofChange regionFencedWrong)

/-- 'cirruslaw22.RegionEnough': WHATEVER THE INPUT: true; the input reads as it did. -/
def regionEnoughSpec : ChangeSpec := { name := "regionEnough", fn := fun _ => fun
  | [d1, d2, d3] => { results := [.lit (.bool true)], args := [d1, d2, d3] }
  | _ => none }
def regionEnoughRow : OpenClaim := { program := "ytkolnoadeihmoaagreat", sum := "2bcd610b66f367f5175b16b8c2dec63e004344b0f82bc4900424a26aef8ec745", func := "cirrus/cirruslaw22.RegionEnough", spec := "regionEnough", unfollowed := true, recurses := true, apart := false }
def RegionEnoughSaid : Prop := regionEnoughRow.holds Tryz.pinned (OpenSpec.ofChange regionEnoughSpec)

/-- ITS FALSE NEIGHBOUR: 'it returns false'. Refute it at one input. -/
def regionEnoughWrong : ChangeSpec := { name := "regionEnough", fn := fun _ => fun
  | [d1, d2, d3] => { results := [.lit (.bool false)], args := [d1, d2, d3] }
  | _ => none }
def RegionEnoughWrongFalsely : Prop := regionEnoughRow.holds Tryz.pinned (OpenSpec.ofChange regionEnoughWrong)

/-- 'cirruslaw22.RegionReplays': WHATEVER THE INPUT: true; the input reads as it did. -/
def regionReplaysSpec : ChangeSpec := { name := "regionReplays", fn := fun _ => fun
  | [d] => { results := [.lit (.bool true)], args := [d] }
  | _ => none }
def regionReplaysRow : OpenClaim := { program := "ytkolnoadeihmoaagreat", sum := "2bcd610b66f367f5175b16b8c2dec63e004344b0f82bc4900424a26aef8ec745", func := "cirrus/cirruslaw22.RegionReplays", spec := "regionReplays", inPlace := ["maps.clone"], unfollowed := true, recurses := true, apart := false }
def RegionReplaysSaid : Prop := regionReplaysRow.holds Tryz.pinned (OpenSpec.ofChange regionReplaysSpec)

/-- ITS FALSE NEIGHBOUR: 'it returns false'. Refute it at one input. -/
def regionReplaysWrong : ChangeSpec := { name := "regionReplays", fn := fun _ => fun
  | [d] => { results := [.lit (.bool false)], args := [d] }
  | _ => none }
def RegionReplaysWrongFalsely : Prop := regionReplaysRow.holds Tryz.pinned (OpenSpec.ofChange regionReplaysWrong)

/- THE SECOND FORM. 'bulk': how many values and letters a reading holds, each counted each time it is reached (what is shared counts as often as it is met; a slice's spare places count too). A statement '..UptoSaid' is the law's where the arguments, and the package variables that the reading takes, are together of bulk at most 1048576: NARROWER than '..Said'. Prove '..Said' where nothing that the law and all that it calls make is longer than what came in: it says more and counts as full. Else prove '..UptoSaid'. A law counts once. -/
mutual
def uptoBulk {H : Type} : DataW H → Nat
  | .lit (.string bytes) => bytes.length + 1
  | .lit _ => 1
  | .nil => 1
  | .ptr d => uptoBulk d + 1
  | .slice elems spare => uptoBulkAll elems + uptoBulkAll spare + 1
  | .agg parts => uptoBulkAll parts + 1
  | .iface _ d => uptoBulk d + 1
  | .map entries => uptoBulkEntries entries + 1
  | .held _ => 1
def uptoBulkAll {H : Type} : List (DataW H) → Nat
  | [] => 0
  | d :: r => uptoBulk d + uptoBulkAll r
def uptoBulkEntries {H : Type} : List (Lit × DataW H) → Nat
  | [] => 0
  | x :: r => uptoBulkEntry x + uptoBulkEntries r
def uptoBulkEntry {H : Type} : Lit × DataW H → Nat
  | (.string bytes, d) => bytes.length + uptoBulk d + 1
  | (_, d) => uptoBulk d + 1
 end
def uptoSmall : (H : Type) → List (DataW H) → Bool := fun _ ds => decide (uptoBulkAll ds ≤ 1048576)
def OpenSpec.upto (s : _root_.Go.ChangeSpec) : _root_.Go.OpenSpec := { _root_.Go.OpenSpec.ofChange s with cond := some uptoSmall }

/-- 'cirruslaw22.RegionPlays', WHERE WHAT IT READS IS OF BULK AT MOST 1048576: true; the input reads as it did. -/
def regionPlaysUptoRow : OpenClaim := { program := "ytkolnoadeihmoaagreat", sum := "2bcd610b66f367f5175b16b8c2dec63e004344b0f82bc4900424a26aef8ec745", func := "cirrus/cirruslaw22.RegionPlays", spec := "regionPlays", unfollowed := true, recurses := true, apart := false, narrowed := true }
def RegionPlaysUptoSaid : Prop := regionPlaysUptoRow.holds Tryz.pinned (OpenSpec.upto regionPlaysSpec)

/-- 'cirruslaw22.RegionAcked', WHERE WHAT IT READS IS OF BULK AT MOST 1048576: true; the input reads as it did. -/
def regionAckedUptoRow : OpenClaim := { program := "ytkolnoadeihmoaagreat", sum := "2bcd610b66f367f5175b16b8c2dec63e004344b0f82bc4900424a26aef8ec745", func := "cirrus/cirruslaw22.RegionAcked", spec := "regionAcked", unfollowed := true, recurses := true, apart := false, narrowed := true }
def RegionAckedUptoSaid : Prop := regionAckedUptoRow.holds Tryz.pinned (OpenSpec.upto regionAckedSpec)

/-- 'cirruslaw22.RegionAgree', WHERE WHAT IT READS IS OF BULK AT MOST 1048576: true; the input reads as it did. -/
def regionAgreeUptoRow : OpenClaim := { program := "ytkolnoadeihmoaagreat", sum := "2bcd610b66f367f5175b16b8c2dec63e004344b0f82bc4900424a26aef8ec745", func := "cirrus/cirruslaw22.RegionAgree", spec := "regionAgree", unfollowed := true, recurses := true, apart := false, narrowed := true }
def RegionAgreeUptoSaid : Prop := regionAgreeUptoRow.holds Tryz.pinned (OpenSpec.upto regionAgreeSpec)

/-- 'cirruslaw22.RegionFenced', WHERE WHAT IT READS IS OF BULK AT MOST 1048576: true; the input reads as it did. -/
def regionFencedUptoRow : OpenClaim := { program := "ytkolnoadeihmoaagreat", sum := "2bcd610b66f367f5175b16b8c2dec63e004344b0f82bc4900424a26aef8ec745", func := "cirrus/cirruslaw22.RegionFenced", spec := "regionFenced", unfollowed := true, recurses := true, apart := false, narrowed := true }
def RegionFencedUptoSaid : Prop := regionFencedUptoRow.holds Tryz.pinned (OpenSpec.upto regionFencedSpec)

/-- 'cirruslaw22.RegionEnough', WHERE WHAT IT READS IS OF BULK AT MOST 1048576: true; the input reads as it did. -/
def regionEnoughUptoRow : OpenClaim := { program := "ytkolnoadeihmoaagreat", sum := "2bcd610b66f367f5175b16b8c2dec63e004344b0f82bc4900424a26aef8ec745", func := "cirrus/cirruslaw22.RegionEnough", spec := "regionEnough", unfollowed := true, recurses := true, apart := false, narrowed := true }
def RegionEnoughUptoSaid : Prop := regionEnoughUptoRow.holds Tryz.pinned (OpenSpec.upto regionEnoughSpec)

/-- 'cirruslaw22.RegionReplays', WHERE WHAT IT READS IS OF BULK AT MOST 1048576: true; the input reads as it did. -/
def regionReplaysUptoRow : OpenClaim := { program := "ytkolnoadeihmoaagreat", sum := "2bcd610b66f367f5175b16b8c2dec63e004344b0f82bc4900424a26aef8ec745", func := "cirrus/cirruslaw22.RegionReplays", spec := "regionReplays", inPlace := ["maps.clone"], unfollowed := true, recurses := true, apart := false, narrowed := true }
def RegionReplaysUptoSaid : Prop := regionReplaysUptoRow.holds Tryz.pinned (OpenSpec.upto regionReplaysSpec)

end Rows
end Go.Proofs.YtkolnoadeihmoaaGreat
