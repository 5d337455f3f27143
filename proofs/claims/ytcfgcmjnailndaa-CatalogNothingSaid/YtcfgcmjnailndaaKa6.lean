/-
  Catalog: the deeds by their names: a map.
-/
import Derived.WideMake
import Derived.Carry
import Derived.Laws.EntriesVeiled
import Derived.Test.YtcfgcmjnailndaaKa0
namespace Go.Proofs.Ytcfgcmjnailndaa
open Go.RowKit Go.Proofs.Ytcfgcmjnailndaa.PCatalogKept Go.Proofs.YtcfgcmjnailndaaW.PrintWords Go.Proofs.YtcfgcmjnailndaaW.PrintLast Go.Proofs.YtcfgcmjnailndaaW.PrintMore

theorem alloc_set (w : World) (o o' : Obj) : { w.alloc o with heap := (w.alloc o).heap.setIfInBounds w.heap.size o' } = w.alloc o' := by
  have h : ∀ (a : Array Obj), (a.push o).setIfInBounds a.size o' = a.push o' := fun a => by
    apply Array.toList_inj.1
    simp
  exact congrArg (fun hp => ({ w with heap := hp } : World)) (h w.heap)
theorem run_insert_new {P : Program} (w : World) (mty kt et : TypeId) (es : Array MapEntry) (n : Nat) (s : ByteArray) (val : Value) (hm : P.underlying mty = some (.map kt et)) (hk : P.underlying kt = some .string) (hf : Instr.findNow .string (.string s) es.toList 0 = some none) :
    (Instr.mapUpdate mty (.map (some w.heap.size)) (.string s) val).run P (w.alloc (.map es n)) = .ok () (w.alloc (.map (es.push { key := .string s, val := val, born := n }) (n + 1))) := by
  have hb : (w.alloc (.map es n)).heap[w.heap.size]? = some (.map es n) := (MapKept.heap_alloc w _).1
  have hc : (Instr.checkKey false 10000 kt (.string s)).run P (w.alloc (.map es n)) = .ok () (w.alloc (.map es n)) := MapKept.run_checkKey (k := .string s) hk (by simp [MapKept.IsKey]) false 9999
  have h : (Instr.mapUpdate mty (.map (some w.heap.size)) (.string s) val).run P (w.alloc (.map es n)) = .ok () { w.alloc (.map es n) with heap := (w.alloc (.map es n)).heap.setIfInBounds w.heap.size (.map (es.push { key := .string s, val := val, born := n }) (n + 1)) } := by
    simp [Instr.mapUpdate, run_underlying hm, MapKept.run_getObj_map hb, hc, MapKept.run_findKey hk hf, MapKept.run_setObj_map _ hb, Result.andThen]
  rw [h, alloc_set]
theorem run_look_yes {P : Program} (w : World) (mty kt et : TypeId) (r : Nat) (es : Array MapEntry) (n i : Nat) (s : ByteArray) (val : Value) (ok : Bool) (hm : P.underlying mty = some (.map kt et)) (hk : P.underlying kt = some .string) (hb : w.heap[r]? = some (.map es n)) (hf : Instr.findNow .string (.string s) es.toList 0 = some (some (i, val))) :
    (Instr.lookup mty (.map (some r)) (.string s) ok).run P w = .ok (if ok then .tuple #[val, .bool true] else val) w := by
  have hc : ∀ b, (Instr.checkKey b 10000 kt (.string s)).run P w = .ok () w := fun b => MapKept.run_checkKey (k := .string s) hk (by simp [MapKept.IsKey]) b 9999
  cases ok <;> simp [Instr.lookup, run_underlying hm, MapKept.run_getObj_map hb, hc, MapKept.run_findKey hk hf, Result.andThen]
theorem run_look_no {P : Program} (w : World) (mty kt et : TypeId) (r : Nat) (es : Array MapEntry) (n : Nat) (s : ByteArray) (z : Value) (ok : Bool) (hm : P.underlying mty = some (.map kt et)) (hk : P.underlying kt = some .string) (hb : w.heap[r]? = some (.map es n)) (hz : (zeroValue et).run P w = .ok z w) (hf : Instr.findNow .string (.string s) es.toList 0 = some none) :
    (Instr.lookup mty (.map (some r)) (.string s) ok).run P w = .ok (if ok then .tuple #[z, .bool false] else z) w := by
  have hc : ∀ b, (Instr.checkKey b 10000 kt (.string s)).run P w = .ok () w := fun b => MapKept.run_checkKey (k := .string s) hk (by simp [MapKept.IsKey]) b 9999
  cases ok <;> simp [Instr.lookup, run_underlying hm, MapKept.run_getObj_map hb, hc, MapKept.run_findKey hk hf, hz, Result.andThen]

/-- A row of the table of deeds. -/
def dRow (cols keep files tt database table : Bool) (fn : Nat) : Value := .agg #[.bool cols, .bool keep, .bool files, .bool tt, .bool database, .bool table, .func (.func fn) #[] #[]]
def rowOf (s : ByteArray) : Option Value :=
  if s = kCreate then some (dRow true true false false true true 57)
  else if s = kDrop then some (dRow false false false false true true 58)
  else if s = kUndrop then some (dRow false false false false true true 59)
  else if s = kRename then some (dRow false false false true true true 60)
  else if s = kSwap then some (dRow false false false true false true 61)
  else if s = kLay then some (dRow true false true false false true 62)
  else if s = kKeep then some (dRow false true false false true true 63)
  else none
def deedRows : Array MapEntry := #[
  { key := .string kCreate, val := dRow true true false false true true 57, born := 0 },
  { key := .string kDrop, val := dRow false false false false true true 58, born := 1 },
  { key := .string kUndrop, val := dRow false false false false true true 59, born := 2 },
  { key := .string kRename, val := dRow false false false true true true 60, born := 3 },
  { key := .string kSwap, val := dRow false false false true false true 61, born := 4 },
  { key := .string kLay, val := dRow true false true false false true 62, born := 5 },
  { key := .string kKeep, val := dRow false true false false true true 63, born := 6 }]
theorem bytes_beq (s k : ByteArray) : (s == k) = decide (s = k) := by
  obtain ⟨a⟩ := s
  obtain ⟨b⟩ := k
  have : ((⟨a⟩ : ByteArray) == ⟨b⟩) = (a == b) := rfl
  rw [this, Bool.eq_iff_iff]
  simp
theorem find_row (s : ByteArray) : Instr.findNow .string (.string s) deedRows.toList 0 = some ((rowOf s).map fun v => ((if s = kCreate then 0 else if s = kDrop then 1 else if s = kUndrop then 2 else if s = kRename then 3 else if s = kSwap then 4 else if s = kLay then 5 else 6), v)) := by
  unfold rowOf deedRows
  simp only [Instr.findNow, Instr.sameNow]
  simp only [bytes_beq]
  by_cases h1 : s = kCreate
  · simp [h1]
  · by_cases h2 : s = kDrop
    · simp [h2, show kDrop ≠ kCreate by decide]
    · by_cases h3 : s = kUndrop
      · simp [h3, show kUndrop ≠ kCreate by decide, show kUndrop ≠ kDrop by decide]
      · by_cases h4 : s = kRename
        · simp [h4, show kRename ≠ kCreate by decide, show kRename ≠ kDrop by decide, show kRename ≠ kUndrop by decide]
        · by_cases h5 : s = kSwap
          · simp [h5, show kSwap ≠ kCreate by decide, show kSwap ≠ kDrop by decide, show kSwap ≠ kUndrop by decide, show kSwap ≠ kRename by decide]
          · by_cases h6 : s = kLay
            · simp [h6, show kLay ≠ kCreate by decide, show kLay ≠ kDrop by decide, show kLay ≠ kUndrop by decide, show kLay ≠ kRename by decide, show kLay ≠ kSwap by decide]
            · by_cases h7 : s = kKeep
              · simp [h7, show kKeep ≠ kCreate by decide, show kKeep ≠ kDrop by decide, show kKeep ≠ kUndrop by decide, show kKeep ≠ kRename by decide, show kKeep ≠ kSwap by decide, show kKeep ≠ kLay by decide]
              · simp [h1, h2, h3, h4, h5, h6, h7]

set_option maxRecDepth 100000 in
theorem deeds_any (w : World) :
    Calls Try.prog 43 #[] w fun e w' => e = .returned (.map (some w.heap.size)) ∧ w.alloc (.map deedRows 7) = w' := by
  have hmm := @run_makeMap Try.prog
  have h0 : (Instr.mapUpdate 89 (.map (some w.heap.size)) (.string ⟨#[99, 114, 101, 97, 116, 101]⟩) (.agg #[.bool true, .bool true, .bool false, .bool false, .bool true, .bool true, .func (.func 57) #[] #[]])).run Try.prog (w.alloc (.map #[] 0)) = .ok () (w.alloc (.map #[{ key := .string ⟨#[99, 114, 101, 97, 116, 101]⟩, val := .agg #[.bool true, .bool true, .bool false, .bool false, .bool true, .bool true, .func (.func 57) #[] #[]], born := 0 }] 1)) := run_insert_new w _ _ _ _ _ _ _ Try.underlying89 Try.underlying9 rfl
  have h1 : (Instr.mapUpdate 89 (.map (some w.heap.size)) (.string ⟨#[100, 114, 111, 112]⟩) (.agg #[.bool false, .bool false, .bool false, .bool false, .bool true, .bool true, .func (.func 58) #[] #[]])).run Try.prog (w.alloc (.map #[{ key := .string ⟨#[99, 114, 101, 97, 116, 101]⟩, val := .agg #[.bool true, .bool true, .bool false, .bool false, .bool true, .bool true, .func (.func 57) #[] #[]], born := 0 }] 1)) = .ok () (w.alloc (.map #[{ key := .string ⟨#[99, 114, 101, 97, 116, 101]⟩, val := .agg #[.bool true, .bool true, .bool false, .bool false, .bool true, .bool true, .func (.func 57) #[] #[]], born := 0 }, { key := .string ⟨#[100, 114, 111, 112]⟩, val := .agg #[.bool false, .bool false, .bool false, .bool false, .bool true, .bool true, .func (.func 58) #[] #[]], born := 1 }] 2)) := run_insert_new w _ _ _ _ _ _ _ Try.underlying89 Try.underlying9 rfl
  have h2 : (Instr.mapUpdate 89 (.map (some w.heap.size)) (.string ⟨#[117, 110, 100, 114, 111, 112]⟩) (.agg #[.bool false, .bool false, .bool false, .bool false, .bool true, .bool true, .func (.func 59) #[] #[]])).run Try.prog (w.alloc (.map #[{ key := .string ⟨#[99, 114, 101, 97, 116, 101]⟩, val := .agg #[.bool true, .bool true, .bool false, .bool false, .bool true, .bool true, .func (.func 57) #[] #[]], born := 0 }, { key := .string ⟨#[100, 114, 111, 112]⟩, val := .agg #[.bool false, .bool false, .bool false, .bool false, .bool true, .bool true, .func (.func 58) #[] #[]], born := 1 }] 2)) = .ok () (w.alloc (.map #[{ key := .string ⟨#[99, 114, 101, 97, 116, 101]⟩, val := .agg #[.bool true, .bool true, .bool false, .bool false, .bool true, .bool true, .func (.func 57) #[] #[]], born := 0 }, { key := .string ⟨#[100, 114, 111, 112]⟩, val := .agg #[.bool false, .bool false, .bool false, .bool false, .bool true, .bool true, .func (.func 58) #[] #[]], born := 1 }, { key := .string ⟨#[117, 110, 100, 114, 111, 112]⟩, val := .agg #[.bool false, .bool false, .bool false, .bool false, .bool true, .bool true, .func (.func 59) #[] #[]], born := 2 }] 3)) := run_insert_new w _ _ _ _ _ _ _ Try.underlying89 Try.underlying9 rfl
  have h3 : (Instr.mapUpdate 89 (.map (some w.heap.size)) (.string ⟨#[114, 101, 110, 97, 109, 101]⟩) (.agg #[.bool false, .bool false, .bool false, .bool true, .bool true, .bool true, .func (.func 60) #[] #[]])).run Try.prog (w.alloc (.map #[{ key := .string ⟨#[99, 114, 101, 97, 116, 101]⟩, val := .agg #[.bool true, .bool true, .bool false, .bool false, .bool true, .bool true, .func (.func 57) #[] #[]], born := 0 }, { key := .string ⟨#[100, 114, 111, 112]⟩, val := .agg #[.bool false, .bool false, .bool false, .bool false, .bool true, .bool true, .func (.func 58) #[] #[]], born := 1 }, { key := .string ⟨#[117, 110, 100, 114, 111, 112]⟩, val := .agg #[.bool false, .bool false, .bool false, .bool false, .bool true, .bool true, .func (.func 59) #[] #[]], born := 2 }] 3)) = .ok () (w.alloc (.map #[{ key := .string ⟨#[99, 114, 101, 97, 116, 101]⟩, val := .agg #[.bool true, .bool true, .bool false, .bool false, .bool true, .bool true, .func (.func 57) #[] #[]], born := 0 }, { key := .string ⟨#[100, 114, 111, 112]⟩, val := .agg #[.bool false, .bool false, .bool false, .bool false, .bool true, .bool true, .func (.func 58) #[] #[]], born := 1 }, { key := .string ⟨#[117, 110, 100, 114, 111, 112]⟩, val := .agg #[.bool false, .bool false, .bool false, .bool false, .bool true, .bool true, .func (.func 59) #[] #[]], born := 2 }, { key := .string ⟨#[114, 101, 110, 97, 109, 101]⟩, val := .agg #[.bool false, .bool false, .bool false, .bool true, .bool true, .bool true, .func (.func 60) #[] #[]], born := 3 }] 4)) := run_insert_new w _ _ _ _ _ _ _ Try.underlying89 Try.underlying9 rfl
  have h4 : (Instr.mapUpdate 89 (.map (some w.heap.size)) (.string ⟨#[115, 119, 97, 112]⟩) (.agg #[.bool false, .bool false, .bool false, .bool true, .bool false, .bool true, .func (.func 61) #[] #[]])).run Try.prog (w.alloc (.map #[{ key := .string ⟨#[99, 114, 101, 97, 116, 101]⟩, val := .agg #[.bool true, .bool true, .bool false, .bool false, .bool true, .bool true, .func (.func 57) #[] #[]], born := 0 }, { key := .string ⟨#[100, 114, 111, 112]⟩, val := .agg #[.bool false, .bool false, .bool false, .bool false, .bool true, .bool true, .func (.func 58) #[] #[]], born := 1 }, { key := .string ⟨#[117, 110, 100, 114, 111, 112]⟩, val := .agg #[.bool false, .bool false, .bool false, .bool false, .bool true, .bool true, .func (.func 59) #[] #[]], born := 2 }, { key := .string ⟨#[114, 101, 110, 97, 109, 101]⟩, val := .agg #[.bool false, .bool false, .bool false, .bool true, .bool true, .bool true, .func (.func 60) #[] #[]], born := 3 }] 4)) = .ok () (w.alloc (.map #[{ key := .string ⟨#[99, 114, 101, 97, 116, 101]⟩, val := .agg #[.bool true, .bool true, .bool false, .bool false, .bool true, .bool true, .func (.func 57) #[] #[]], born := 0 }, { key := .string ⟨#[100, 114, 111, 112]⟩, val := .agg #[.bool false, .bool false, .bool false, .bool false, .bool true, .bool true, .func (.func 58) #[] #[]], born := 1 }, { key := .string ⟨#[117, 110, 100, 114, 111, 112]⟩, val := .agg #[.bool false, .bool false, .bool false, .bool false, .bool true, .bool true, .func (.func 59) #[] #[]], born := 2 }, { key := .string ⟨#[114, 101, 110, 97, 109, 101]⟩, val := .agg #[.bool false, .bool false, .bool false, .bool true, .bool true, .bool true, .func (.func 60) #[] #[]], born := 3 }, { key := .string ⟨#[115, 119, 97, 112]⟩, val := .agg #[.bool false, .bool false, .bool false, .bool true, .bool false, .bool true, .func (.func 61) #[] #[]], born := 4 }] 5)) := run_insert_new w _ _ _ _ _ _ _ Try.underlying89 Try.underlying9 rfl
  have h5 : (Instr.mapUpdate 89 (.map (some w.heap.size)) (.string ⟨#[108, 97, 121]⟩) (.agg #[.bool true, .bool false, .bool true, .bool false, .bool false, .bool true, .func (.func 62) #[] #[]])).run Try.prog (w.alloc (.map #[{ key := .string ⟨#[99, 114, 101, 97, 116, 101]⟩, val := .agg #[.bool true, .bool true, .bool false, .bool false, .bool true, .bool true, .func (.func 57) #[] #[]], born := 0 }, { key := .string ⟨#[100, 114, 111, 112]⟩, val := .agg #[.bool false, .bool false, .bool false, .bool false, .bool true, .bool true, .func (.func 58) #[] #[]], born := 1 }, { key := .string ⟨#[117, 110, 100, 114, 111, 112]⟩, val := .agg #[.bool false, .bool false, .bool false, .bool false, .bool true, .bool true, .func (.func 59) #[] #[]], born := 2 }, { key := .string ⟨#[114, 101, 110, 97, 109, 101]⟩, val := .agg #[.bool false, .bool false, .bool false, .bool true, .bool true, .bool true, .func (.func 60) #[] #[]], born := 3 }, { key := .string ⟨#[115, 119, 97, 112]⟩, val := .agg #[.bool false, .bool false, .bool false, .bool true, .bool false, .bool true, .func (.func 61) #[] #[]], born := 4 }] 5)) = .ok () (w.alloc (.map #[{ key := .string ⟨#[99, 114, 101, 97, 116, 101]⟩, val := .agg #[.bool true, .bool true, .bool false, .bool false, .bool true, .bool true, .func (.func 57) #[] #[]], born := 0 }, { key := .string ⟨#[100, 114, 111, 112]⟩, val := .agg #[.bool false, .bool false, .bool false, .bool false, .bool true, .bool true, .func (.func 58) #[] #[]], born := 1 }, { key := .string ⟨#[117, 110, 100, 114, 111, 112]⟩, val := .agg #[.bool false, .bool false, .bool false, .bool false, .bool true, .bool true, .func (.func 59) #[] #[]], born := 2 }, { key := .string ⟨#[114, 101, 110, 97, 109, 101]⟩, val := .agg #[.bool false, .bool false, .bool false, .bool true, .bool true, .bool true, .func (.func 60) #[] #[]], born := 3 }, { key := .string ⟨#[115, 119, 97, 112]⟩, val := .agg #[.bool false, .bool false, .bool false, .bool true, .bool false, .bool true, .func (.func 61) #[] #[]], born := 4 }, { key := .string ⟨#[108, 97, 121]⟩, val := .agg #[.bool true, .bool false, .bool true, .bool false, .bool false, .bool true, .func (.func 62) #[] #[]], born := 5 }] 6)) := run_insert_new w _ _ _ _ _ _ _ Try.underlying89 Try.underlying9 rfl
  have h6 : (Instr.mapUpdate 89 (.map (some w.heap.size)) (.string ⟨#[107, 101, 101, 112]⟩) (.agg #[.bool false, .bool true, .bool false, .bool false, .bool true, .bool true, .func (.func 63) #[] #[]])).run Try.prog (w.alloc (.map #[{ key := .string ⟨#[99, 114, 101, 97, 116, 101]⟩, val := .agg #[.bool true, .bool true, .bool false, .bool false, .bool true, .bool true, .func (.func 57) #[] #[]], born := 0 }, { key := .string ⟨#[100, 114, 111, 112]⟩, val := .agg #[.bool false, .bool false, .bool false, .bool false, .bool true, .bool true, .func (.func 58) #[] #[]], born := 1 }, { key := .string ⟨#[117, 110, 100, 114, 111, 112]⟩, val := .agg #[.bool false, .bool false, .bool false, .bool false, .bool true, .bool true, .func (.func 59) #[] #[]], born := 2 }, { key := .string ⟨#[114, 101, 110, 97, 109, 101]⟩, val := .agg #[.bool false, .bool false, .bool false, .bool true, .bool true, .bool true, .func (.func 60) #[] #[]], born := 3 }, { key := .string ⟨#[115, 119, 97, 112]⟩, val := .agg #[.bool false, .bool false, .bool false, .bool true, .bool false, .bool true, .func (.func 61) #[] #[]], born := 4 }, { key := .string ⟨#[108, 97, 121]⟩, val := .agg #[.bool true, .bool false, .bool true, .bool false, .bool false, .bool true, .func (.func 62) #[] #[]], born := 5 }] 6)) = .ok () (w.alloc (.map #[{ key := .string ⟨#[99, 114, 101, 97, 116, 101]⟩, val := .agg #[.bool true, .bool true, .bool false, .bool false, .bool true, .bool true, .func (.func 57) #[] #[]], born := 0 }, { key := .string ⟨#[100, 114, 111, 112]⟩, val := .agg #[.bool false, .bool false, .bool false, .bool false, .bool true, .bool true, .func (.func 58) #[] #[]], born := 1 }, { key := .string ⟨#[117, 110, 100, 114, 111, 112]⟩, val := .agg #[.bool false, .bool false, .bool false, .bool false, .bool true, .bool true, .func (.func 59) #[] #[]], born := 2 }, { key := .string ⟨#[114, 101, 110, 97, 109, 101]⟩, val := .agg #[.bool false, .bool false, .bool false, .bool true, .bool true, .bool true, .func (.func 60) #[] #[]], born := 3 }, { key := .string ⟨#[115, 119, 97, 112]⟩, val := .agg #[.bool false, .bool false, .bool false, .bool true, .bool false, .bool true, .func (.func 61) #[] #[]], born := 4 }, { key := .string ⟨#[108, 97, 121]⟩, val := .agg #[.bool true, .bool false, .bool true, .bool false, .bool false, .bool true, .func (.func 62) #[] #[]], born := 5 }, { key := .string ⟨#[107, 101, 101, 112]⟩, val := .agg #[.bool false, .bool true, .bool false, .bool false, .bool true, .bool true, .func (.func 63) #[] #[]], born := 6 }] 7)) := run_insert_new w _ _ _ _ _ _ _ Try.underlying89 Try.underlying9 rfl
  go_enter Try.func43, Try.ntmps43
  go_wp2
  go_ret
  exact ⟨rfl, rfl⟩


end Go.Proofs.Ytcfgcmjnailndaa
