/-
  done, whatever the act; the walk of StorePlays.
-/
import Derived.Test.YtggkhgpdnjkfcaaTf
import Derived.Test.YtggkhgpdnjkfcaaTg
import Derived.Test.YtggkhgpdnjkfcaaSn
namespace Go.Proofs.Ytggkhgpdnjkfcaa
open Go.RowKit Go.Maps Go.Proofs.Ytggkhgpdnjkfcaa.PStorePlays Go.Proofs.YtggkhgpdnjkfcaaW.PrintWords Go.Proofs.YtggkhgpdnjkfcaaW.PrintLast Go.Proofs.YtggkhgpdnjkfcaaW.PrintMore

theorem done_any {op bytes : ByteArray} {sec : Bool} {file at_ by_ : Int} {la A2 : Option Addr} {ln lc n2 c2 b mb b2 mb2 rb : Nat} {w : World} {s t : St} {nums : List Int} (hx : bytes.size ≤ maxLen) (hk : (Lit.int .i64 file).wf = true) (ha : op = sLarge → at_ ≤ 8388609)
    (hz : IntsR w (.slice la ln lc) nums) (hwf : ∀ z ∈ nums, (Lit.int .i64 z).wf = true) (h : Pair w b mb rb s) (h2 : StoreAt w b2 mb2 t) (hv : RefV w (.slice A2 n2 c2) t.files) :
    Calls Try.prog 18 #[.agg #[.string op, .bool sec, .string bytes, .int .i64 file, .int .i64 at_, .int .i64 by_, .slice la ln lc], .pointer (some ⟨b, 0, none⟩), .pointer (some ⟨b2, 0, none⟩), .pointer (some ⟨rb, 0, none⟩), .agg #[.slice A2 n2 c2, .int .i64 t.most]] w (fun e w' => ∃ s', DoneSays w b mb rb s' e w') := by
  cases g0 : (op.toList == [112, 117, 116]) with
  | true => exact (done_put g0 (by rw [op_is (beq_iff_eq.1 g0)]; decide +kernel) hx h).mono fun e w' h => ⟨_, h⟩
  | false =>
  cases g1 : (op.toList == [108, 97, 114, 103, 101]) with
  | true => exact (done_large g0 g1 (ha (op_is (beq_iff_eq.1 g1))) h).mono fun e w' h => ⟨_, h⟩
  | false =>
  cases g2 : (op.toList == [109, 97, 110, 121]) with
  | true => exact (done_many g0 g1 g2 hk h).mono fun e w' h => ⟨_, h⟩
  | false =>
  cases g3 : (op.toList == [100, 114, 111, 112]) with
  | true => exact (done_drop g0 g1 g2 g3 hk h).mono fun e w' h => ⟨_, h⟩
  | false =>
  cases g4 : (op.toList == [99, 111, 112, 121]) with
  | true => exact (done_copy g0 g1 g2 g3 g4 hk h2 hv h).mono fun e w' h => ⟨_, h⟩
  | false =>
  cases g5 : (op.toList == [111, 119, 110]) with
  | true => exact (done_own g0 g1 g2 g3 g4 g5 hk h).mono fun e w' h => ⟨_, h⟩
  | false =>
  cases g6 : (op.toList == [100, 97, 109, 97, 103, 101]) with
  | true => exact (done_damage g0 g1 g2 g3 g4 g5 g6 hk h).mono fun e w' h => ⟨_, h⟩
  | false =>
  cases g7 : (op.toList == [109, 105, 115, 115, 105, 110, 103]) with
  | true =>
    by_cases hl : 200 < ln
    · exact (done_long g0 g1 g2 g3 g4 g5 g6 g7 hl h).mono fun e w' h => ⟨_, h⟩
    · exact (done_missing g0 g1 g2 g3 g4 g5 g6 g7 hz hwf (by omega) h).mono fun e w' h => ⟨_, h⟩
  | false => exact (done_get g0 g1 g2 g3 g4 g5 g6 g7 hk h).mono fun e w' h => ⟨_, h⟩

/-- A store of the reference that was just declared. -/
theorem RefAt.zero (w : World) : RefAt (w.alloc (.cells #[.slice none 0 0, .int .i64 0] 43)) w.heap.size St.empty := ⟨⟨_, heap_alloc_new w _, RefV.nil _⟩, St.Ok.emp⟩

end Go.Proofs.Ytggkhgpdnjkfcaa
