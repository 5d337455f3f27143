/-
  Catalog: the deeds by their names: a map.
  Regions in memory: entries of logs, records, regions' blocks, the map of them.
  Regions: none, find, agree.
-/
import Derived.WideMake
import Derived.Carry
import Derived.Laws.EntriesVeiled
import Derived.Test.YtkolnoadeihmoaaGreatKd4
import Derived.Test.YtkolnoadeihmoaaGreatKd0
namespace Go.Proofs.YtkolnoadeihmoaaGreat
open Go.RowKit Go.Proofs.YtkolnoadeihmoaaGreatW.PrintWords
theorem alloc_set (w : World) (o o' : Obj) : { w.alloc o with heap := (w.alloc o).heap.setIfInBounds w.heap.size o' } = w.alloc o' := by
  have h : ∀ (a : Array Obj), (a.push o).setIfInBounds a.size o' = a.push o' := fun a => by
    apply Array.toList_inj.1
    simp
  exact congrArg (fun hp => ({ w with heap := hp } : World)) (h w.heap)
theorem run_insert_new {P : Program} (w : World) (mty kt et : TypeId) (es : Array MapEntry) (n : Nat) (s : ByteArray) (val : Value) (hm : P.underlying mty = some (.map kt et)) (hk : P.underlying kt = some .string) (hf : Instr.findNow .string (.string s) es.toList 0 = some none) :
    (Instr.mapUpdate mty (.map (some w.heap.size)) (.string s) val).run P (w.alloc (.map es n)) = .ok () (w.alloc (.map (es.push { key := .string s, val := val, born := n }) (n + 1))) := by
  have hb : (w.alloc (.map es n)).heap[w.heap.size]? = some (.map es n) := (MapKept.heap_alloc w _).1
  have hc : (Instr.checkKey false 10000 kt (.string s)).run P (w.alloc (.map es n)) = .ok () (w.alloc (.map es n)) := MapKept.run_checkKey (k := .string s) hk (by simp [MapKept.IsKey]) false 9999
  have h : (Instr.mapUpdate mty (.map (some w.heap.size)) (.string s) val).run P (w.alloc (.map es n)) = .ok () { w.alloc (.map es n) with heap := (w.alloc (.map es n)).heap.setIfInBounds w.heap.size (.map (es.push { key := .string s, val := val, born := n }) (n + 1)) } := by
    simp [Instr.mapUpdate, run_underlying hm, MapKept.run_getObj_map hb, hc, MapKept.run_findKey hk hf, MapKept.run_setObj_map _ hb, Result.andThen]
  rw [h, alloc_set]
theorem run_look_yes {P : Program} (w : World) (mty kt et : TypeId) (r : Nat) (es : Array MapEntry) (n i : Nat) (s : ByteArray) (val : Value) (ok : Bool) (hm : P.underlying mty = some (.map kt et)) (hk : P.underlying kt = some .string) (hb : w.heap[r]? = some (.map es n)) (hf : Instr.findNow .string (.string s) es.toList 0 = some (some (i, val))) :
    (Instr.lookup mty (.map (some r)) (.string s) ok).run P w = .ok (if ok then .tuple #[val, .bool true] else val) w := by
  have hc : ∀ b, (Instr.checkKey b 10000 kt (.string s)).run P w = .ok () w := fun b => MapKept.run_checkKey (k := .string s) hk (by simp [MapKept.IsKey]) b 9999
  cases ok <;> simp [Instr.lookup, run_underlying hm, MapKept.run_getObj_map hb, hc, MapKept.run_findKey hk hf, Result.andThen]
theorem run_look_no {P : Program} (w : World) (mty kt et : TypeId) (r : Nat) (es : Array MapEntry) (n : Nat) (s : ByteArray) (z : Value) (ok : Bool) (hm : P.underlying mty = some (.map kt et)) (hk : P.underlying kt = some .string) (hb : w.heap[r]? = some (.map es n)) (hz : (zeroValue et).run P w = .ok z w) (hf : Instr.findNow .string (.string s) es.toList 0 = some none) :
    (Instr.lookup mty (.map (some r)) (.string s) ok).run P w = .ok (if ok then .tuple #[z, .bool false] else z) w := by
  have hc : ∀ b, (Instr.checkKey b 10000 kt (.string s)).run P w = .ok () w := fun b => MapKept.run_checkKey (k := .string s) hk (by simp [MapKept.IsKey]) b 9999
  cases ok <;> simp [Instr.lookup, run_underlying hm, MapKept.run_getObj_map hb, hc, MapKept.run_findKey hk hf, hz, Result.andThen]
def dRow (cols keep files tt database table : Bool) (fn : Nat) : Value := .agg #[.bool cols, .bool keep, .bool files, .bool tt, .bool database, .bool table, .func (.func fn) #[] #[]]
def rowOf (s : ByteArray) : Option Value :=
  if s = kCreate then some (dRow true true false false true true 188)
  else if s = kDrop then some (dRow false false false false true true 189)
  else if s = kUndrop then some (dRow false false false false true true 190)
  else if s = kRename then some (dRow false false false true true true 191)
  else if s = kSwap then some (dRow false false false true false true 192)
  else if s = kLay then some (dRow true false true false false true 193)
  else if s = kKeep then some (dRow false true false false true true 194)
  else none
def deedRows : Array MapEntry := #[
  { key := .string kCreate, val := dRow true true false false true true 188, born := 0 },
  { key := .string kDrop, val := dRow false false false false true true 189, born := 1 },
  { key := .string kUndrop, val := dRow false false false false true true 190, born := 2 },
  { key := .string kRename, val := dRow false false false true true true 191, born := 3 },
  { key := .string kSwap, val := dRow false false false true false true 192, born := 4 },
  { key := .string kLay, val := dRow true false true false false true 193, born := 5 },
  { key := .string kKeep, val := dRow false true false false true true 194, born := 6 }]
theorem bytes_beq (s k : ByteArray) : (s == k) = decide (s = k) := by
  obtain ⟨a⟩ := s
  obtain ⟨b⟩ := k
  have : ((⟨a⟩ : ByteArray) == ⟨b⟩) = (a == b) := rfl
  rw [this, Bool.eq_iff_iff]
  simp
theorem find_row (s : ByteArray) : Instr.findNow .string (.string s) deedRows.toList 0 = some ((rowOf s).map fun v => ((if s = kCreate then 0 else if s = kDrop then 1 else if s = kUndrop then 2 else if s = kRename then 3 else if s = kSwap then 4 else if s = kLay then 5 else 6), v)) := by
  unfold rowOf deedRows
  simp only [Instr.findNow, Instr.sameNow]
  simp only [bytes_beq]
  by_cases h1 : s = kCreate
  · simp [h1]
  · by_cases h2 : s = kDrop
    · simp [h2, show kDrop ≠ kCreate by decide]
    · by_cases h3 : s = kUndrop
      · simp [h3, show kUndrop ≠ kCreate by decide, show kUndrop ≠ kDrop by decide]
      · by_cases h4 : s = kRename
        · simp [h4, show kRename ≠ kCreate by decide, show kRename ≠ kDrop by decide, show kRename ≠ kUndrop by decide]
        · by_cases h5 : s = kSwap
          · simp [h5, show kSwap ≠ kCreate by decide, show kSwap ≠ kDrop by decide, show kSwap ≠ kUndrop by decide, show kSwap ≠ kRename by decide]
          · by_cases h6 : s = kLay
            · simp [h6, show kLay ≠ kCreate by decide, show kLay ≠ kDrop by decide, show kLay ≠ kUndrop by decide, show kLay ≠ kRename by decide, show kLay ≠ kSwap by decide]
            · by_cases h7 : s = kKeep
              · simp [h7, show kKeep ≠ kCreate by decide, show kKeep ≠ kDrop by decide, show kKeep ≠ kUndrop by decide, show kKeep ≠ kRename by decide, show kKeep ≠ kSwap by decide, show kKeep ≠ kLay by decide]
              · simp [h1, h2, h3, h4, h5, h6, h7]
set_option maxRecDepth 100000 in
theorem deeds_any (w : World) :
    Calls Tryz.prog 135 #[] w fun e w' => e = .returned (.map (some w.heap.size)) ∧ w.alloc (.map deedRows 7) = w' := by
  have hmm := @run_makeMap Tryz.prog
  have h0 : (Instr.mapUpdate 200 (.map (some w.heap.size)) (.string ⟨#[99, 114, 101, 97, 116, 101]⟩) (.agg #[.bool true, .bool true, .bool false, .bool false, .bool true, .bool true, .func (.func 188) #[] #[]])).run Tryz.prog (w.alloc (.map #[] 0)) = .ok () (w.alloc (.map #[{ key := .string ⟨#[99, 114, 101, 97, 116, 101]⟩, val := .agg #[.bool true, .bool true, .bool false, .bool false, .bool true, .bool true, .func (.func 188) #[] #[]], born := 0 }] 1)) := run_insert_new w _ _ _ _ _ _ _ Tryz.underlying200 Tryz.underlying9 rfl
  have h1 : (Instr.mapUpdate 200 (.map (some w.heap.size)) (.string ⟨#[100, 114, 111, 112]⟩) (.agg #[.bool false, .bool false, .bool false, .bool false, .bool true, .bool true, .func (.func 189) #[] #[]])).run Tryz.prog (w.alloc (.map #[{ key := .string ⟨#[99, 114, 101, 97, 116, 101]⟩, val := .agg #[.bool true, .bool true, .bool false, .bool false, .bool true, .bool true, .func (.func 188) #[] #[]], born := 0 }] 1)) = .ok () (w.alloc (.map #[{ key := .string ⟨#[99, 114, 101, 97, 116, 101]⟩, val := .agg #[.bool true, .bool true, .bool false, .bool false, .bool true, .bool true, .func (.func 188) #[] #[]], born := 0 }, { key := .string ⟨#[100, 114, 111, 112]⟩, val := .agg #[.bool false, .bool false, .bool false, .bool false, .bool true, .bool true, .func (.func 189) #[] #[]], born := 1 }] 2)) := run_insert_new w _ _ _ _ _ _ _ Tryz.underlying200 Tryz.underlying9 rfl
  have h2 : (Instr.mapUpdate 200 (.map (some w.heap.size)) (.string ⟨#[117, 110, 100, 114, 111, 112]⟩) (.agg #[.bool false, .bool false, .bool false, .bool false, .bool true, .bool true, .func (.func 190) #[] #[]])).run Tryz.prog (w.alloc (.map #[{ key := .string ⟨#[99, 114, 101, 97, 116, 101]⟩, val := .agg #[.bool true, .bool true, .bool false, .bool false, .bool true, .bool true, .func (.func 188) #[] #[]], born := 0 }, { key := .string ⟨#[100, 114, 111, 112]⟩, val := .agg #[.bool false, .bool false, .bool false, .bool false, .bool true, .bool true, .func (.func 189) #[] #[]], born := 1 }] 2)) = .ok () (w.alloc (.map #[{ key := .string ⟨#[99, 114, 101, 97, 116, 101]⟩, val := .agg #[.bool true, .bool true, .bool false, .bool false, .bool true, .bool true, .func (.func 188) #[] #[]], born := 0 }, { key := .string ⟨#[100, 114, 111, 112]⟩, val := .agg #[.bool false, .bool false, .bool false, .bool false, .bool true, .bool true, .func (.func 189) #[] #[]], born := 1 }, { key := .string ⟨#[117, 110, 100, 114, 111, 112]⟩, val := .agg #[.bool false, .bool false, .bool false, .bool false, .bool true, .bool true, .func (.func 190) #[] #[]], born := 2 }] 3)) := run_insert_new w _ _ _ _ _ _ _ Tryz.underlying200 Tryz.underlying9 rfl
  have h3 : (Instr.mapUpdate 200 (.map (some w.heap.size)) (.string ⟨#[114, 101, 110, 97, 109, 101]⟩) (.agg #[.bool false, .bool false, .bool false, .bool true, .bool true, .bool true, .func (.func 191) #[] #[]])).run Tryz.prog (w.alloc (.map #[{ key := .string ⟨#[99, 114, 101, 97, 116, 101]⟩, val := .agg #[.bool true, .bool true, .bool false, .bool false, .bool true, .bool true, .func (.func 188) #[] #[]], born := 0 }, { key := .string ⟨#[100, 114, 111, 112]⟩, val := .agg #[.bool false, .bool false, .bool false, .bool false, .bool true, .bool true, .func (.func 189) #[] #[]], born := 1 }, { key := .string ⟨#[117, 110, 100, 114, 111, 112]⟩, val := .agg #[.bool false, .bool false, .bool false, .bool false, .bool true, .bool true, .func (.func 190) #[] #[]], born := 2 }] 3)) = .ok () (w.alloc (.map #[{ key := .string ⟨#[99, 114, 101, 97, 116, 101]⟩, val := .agg #[.bool true, .bool true, .bool false, .bool false, .bool true, .bool true, .func (.func 188) #[] #[]], born := 0 }, { key := .string ⟨#[100, 114, 111, 112]⟩, val := .agg #[.bool false, .bool false, .bool false, .bool false, .bool true, .bool true, .func (.func 189) #[] #[]], born := 1 }, { key := .string ⟨#[117, 110, 100, 114, 111, 112]⟩, val := .agg #[.bool false, .bool false, .bool false, .bool false, .bool true, .bool true, .func (.func 190) #[] #[]], born := 2 }, { key := .string ⟨#[114, 101, 110, 97, 109, 101]⟩, val := .agg #[.bool false, .bool false, .bool false, .bool true, .bool true, .bool true, .func (.func 191) #[] #[]], born := 3 }] 4)) := run_insert_new w _ _ _ _ _ _ _ Tryz.underlying200 Tryz.underlying9 rfl
  have h4 : (Instr.mapUpdate 200 (.map (some w.heap.size)) (.string ⟨#[115, 119, 97, 112]⟩) (.agg #[.bool false, .bool false, .bool false, .bool true, .bool false, .bool true, .func (.func 192) #[] #[]])).run Tryz.prog (w.alloc (.map #[{ key := .string ⟨#[99, 114, 101, 97, 116, 101]⟩, val := .agg #[.bool true, .bool true, .bool false, .bool false, .bool true, .bool true, .func (.func 188) #[] #[]], born := 0 }, { key := .string ⟨#[100, 114, 111, 112]⟩, val := .agg #[.bool false, .bool false, .bool false, .bool false, .bool true, .bool true, .func (.func 189) #[] #[]], born := 1 }, { key := .string ⟨#[117, 110, 100, 114, 111, 112]⟩, val := .agg #[.bool false, .bool false, .bool false, .bool false, .bool true, .bool true, .func (.func 190) #[] #[]], born := 2 }, { key := .string ⟨#[114, 101, 110, 97, 109, 101]⟩, val := .agg #[.bool false, .bool false, .bool false, .bool true, .bool true, .bool true, .func (.func 191) #[] #[]], born := 3 }] 4)) = .ok () (w.alloc (.map #[{ key := .string ⟨#[99, 114, 101, 97, 116, 101]⟩, val := .agg #[.bool true, .bool true, .bool false, .bool false, .bool true, .bool true, .func (.func 188) #[] #[]], born := 0 }, { key := .string ⟨#[100, 114, 111, 112]⟩, val := .agg #[.bool false, .bool false, .bool false, .bool false, .bool true, .bool true, .func (.func 189) #[] #[]], born := 1 }, { key := .string ⟨#[117, 110, 100, 114, 111, 112]⟩, val := .agg #[.bool false, .bool false, .bool false, .bool false, .bool true, .bool true, .func (.func 190) #[] #[]], born := 2 }, { key := .string ⟨#[114, 101, 110, 97, 109, 101]⟩, val := .agg #[.bool false, .bool false, .bool false, .bool true, .bool true, .bool true, .func (.func 191) #[] #[]], born := 3 }, { key := .string ⟨#[115, 119, 97, 112]⟩, val := .agg #[.bool false, .bool false, .bool false, .bool true, .bool false, .bool true, .func (.func 192) #[] #[]], born := 4 }] 5)) := run_insert_new w _ _ _ _ _ _ _ Tryz.underlying200 Tryz.underlying9 rfl
  have h5 : (Instr.mapUpdate 200 (.map (some w.heap.size)) (.string ⟨#[108, 97, 121]⟩) (.agg #[.bool true, .bool false, .bool true, .bool false, .bool false, .bool true, .func (.func 193) #[] #[]])).run Tryz.prog (w.alloc (.map #[{ key := .string ⟨#[99, 114, 101, 97, 116, 101]⟩, val := .agg #[.bool true, .bool true, .bool false, .bool false, .bool true, .bool true, .func (.func 188) #[] #[]], born := 0 }, { key := .string ⟨#[100, 114, 111, 112]⟩, val := .agg #[.bool false, .bool false, .bool false, .bool false, .bool true, .bool true, .func (.func 189) #[] #[]], born := 1 }, { key := .string ⟨#[117, 110, 100, 114, 111, 112]⟩, val := .agg #[.bool false, .bool false, .bool false, .bool false, .bool true, .bool true, .func (.func 190) #[] #[]], born := 2 }, { key := .string ⟨#[114, 101, 110, 97, 109, 101]⟩, val := .agg #[.bool false, .bool false, .bool false, .bool true, .bool true, .bool true, .func (.func 191) #[] #[]], born := 3 }, { key := .string ⟨#[115, 119, 97, 112]⟩, val := .agg #[.bool false, .bool false, .bool false, .bool true, .bool false, .bool true, .func (.func 192) #[] #[]], born := 4 }] 5)) = .ok () (w.alloc (.map #[{ key := .string ⟨#[99, 114, 101, 97, 116, 101]⟩, val := .agg #[.bool true, .bool true, .bool false, .bool false, .bool true, .bool true, .func (.func 188) #[] #[]], born := 0 }, { key := .string ⟨#[100, 114, 111, 112]⟩, val := .agg #[.bool false, .bool false, .bool false, .bool false, .bool true, .bool true, .func (.func 189) #[] #[]], born := 1 }, { key := .string ⟨#[117, 110, 100, 114, 111, 112]⟩, val := .agg #[.bool false, .bool false, .bool false, .bool false, .bool true, .bool true, .func (.func 190) #[] #[]], born := 2 }, { key := .string ⟨#[114, 101, 110, 97, 109, 101]⟩, val := .agg #[.bool false, .bool false, .bool false, .bool true, .bool true, .bool true, .func (.func 191) #[] #[]], born := 3 }, { key := .string ⟨#[115, 119, 97, 112]⟩, val := .agg #[.bool false, .bool false, .bool false, .bool true, .bool false, .bool true, .func (.func 192) #[] #[]], born := 4 }, { key := .string ⟨#[108, 97, 121]⟩, val := .agg #[.bool true, .bool false, .bool true, .bool false, .bool false, .bool true, .func (.func 193) #[] #[]], born := 5 }] 6)) := run_insert_new w _ _ _ _ _ _ _ Tryz.underlying200 Tryz.underlying9 rfl
  have h6 : (Instr.mapUpdate 200 (.map (some w.heap.size)) (.string ⟨#[107, 101, 101, 112]⟩) (.agg #[.bool false, .bool true, .bool false, .bool false, .bool true, .bool true, .func (.func 194) #[] #[]])).run Tryz.prog (w.alloc (.map #[{ key := .string ⟨#[99, 114, 101, 97, 116, 101]⟩, val := .agg #[.bool true, .bool true, .bool false, .bool false, .bool true, .bool true, .func (.func 188) #[] #[]], born := 0 }, { key := .string ⟨#[100, 114, 111, 112]⟩, val := .agg #[.bool false, .bool false, .bool false, .bool false, .bool true, .bool true, .func (.func 189) #[] #[]], born := 1 }, { key := .string ⟨#[117, 110, 100, 114, 111, 112]⟩, val := .agg #[.bool false, .bool false, .bool false, .bool false, .bool true, .bool true, .func (.func 190) #[] #[]], born := 2 }, { key := .string ⟨#[114, 101, 110, 97, 109, 101]⟩, val := .agg #[.bool false, .bool false, .bool false, .bool true, .bool true, .bool true, .func (.func 191) #[] #[]], born := 3 }, { key := .string ⟨#[115, 119, 97, 112]⟩, val := .agg #[.bool false, .bool false, .bool false, .bool true, .bool false, .bool true, .func (.func 192) #[] #[]], born := 4 }, { key := .string ⟨#[108, 97, 121]⟩, val := .agg #[.bool true, .bool false, .bool true, .bool false, .bool false, .bool true, .func (.func 193) #[] #[]], born := 5 }] 6)) = .ok () (w.alloc (.map #[{ key := .string ⟨#[99, 114, 101, 97, 116, 101]⟩, val := .agg #[.bool true, .bool true, .bool false, .bool false, .bool true, .bool true, .func (.func 188) #[] #[]], born := 0 }, { key := .string ⟨#[100, 114, 111, 112]⟩, val := .agg #[.bool false, .bool false, .bool false, .bool false, .bool true, .bool true, .func (.func 189) #[] #[]], born := 1 }, { key := .string ⟨#[117, 110, 100, 114, 111, 112]⟩, val := .agg #[.bool false, .bool false, .bool false, .bool false, .bool true, .bool true, .func (.func 190) #[] #[]], born := 2 }, { key := .string ⟨#[114, 101, 110, 97, 109, 101]⟩, val := .agg #[.bool false, .bool false, .bool false, .bool true, .bool true, .bool true, .func (.func 191) #[] #[]], born := 3 }, { key := .string ⟨#[115, 119, 97, 112]⟩, val := .agg #[.bool false, .bool false, .bool false, .bool true, .bool false, .bool true, .func (.func 192) #[] #[]], born := 4 }, { key := .string ⟨#[108, 97, 121]⟩, val := .agg #[.bool true, .bool false, .bool true, .bool false, .bool false, .bool true, .func (.func 193) #[] #[]], born := 5 }, { key := .string ⟨#[107, 101, 101, 112]⟩, val := .agg #[.bool false, .bool true, .bool false, .bool false, .bool true, .bool true, .func (.func 194) #[] #[]], born := 6 }] 7)) := run_insert_new w _ _ _ _ _ _ _ Tryz.underlying200 Tryz.underlying9 rfl
  go_enter Tryz.func135, Tryz.ntmps135
  go_wp2
  go_ret
  exact ⟨rfl, rfl⟩
structure S112 where
  f0 : Int
  f1 : ByteArray
def z112 : S112 := ⟨(0 : Int), (⟨#[]⟩ : ByteArray)⟩
def k112 : Kd S112 := Kd.iso (Kd.pair (Kd.int .i64) Kd.string) (fun x : S112 => (x.f0, x.f1))
theorem k112_open {w : World} {x : S112} {cs : List Value} (h : k112.K w x cs) : cs = [.int .i64 x.f0, .string x.f1] := by
  obtain ⟨_, _, rfl, rfl, rfl⟩ := h
  exact rfl
theorem k112_mk (w : World) (x : S112) : k112.K w x [.int .i64 x.f0, .string x.f1] := ⟨[.int .i64 x.f0], [.string x.f1], rfl, rfl, rfl⟩
def rd_T112 (xs : List S112) (i : Int) : S112 := xs.getD i.toNat z112
theorem at_T112 {w : World} {A : Option Addr} {n : Nat} {xs : List S112} (h : Kd.C k112 w A n xs) (i : Int) (h0 : 0 ≤ i) (h1 : i < n) : ∃ ad, A = some ad ∧ w.cell? (ad.add (i.toNat * 2)) = some (.int .i64 (rd_T112 xs i).f0) ∧ w.cell? ⟨(ad.add (i.toNat * 2)).block, (ad.add (i.toNat * 2)).off + 1, none⟩ = some (.string (rd_T112 xs i).f1) := by
  obtain ⟨ad, c, e, _, hK, hc0⟩ := Kd.C_get h z112 i h0 h1
  have hc : ∀ j u, c[j]? = some u → w.cell? (ad.add (i.toNat * 2 + j)) = some u := hc0
  obtain rfl := k112_open hK
  exact ⟨ad, e, hc 0 _ rfl, by rw [← add_field _ _ 1 (by omega)]; exact hc 1 _ rfl⟩
structure S40 where
  f0 : (List S135)
  f1 : Int
  f2 : (List S112)
  f3 : Int
def z40 : S40 := ⟨([] : List S135), (0 : Int), ([] : List S112), (0 : Int)⟩
def k40 : Kd S40 := Kd.iso (Kd.pair (Kd.slice 135 k135) (Kd.pair (Kd.int .i64) (Kd.pair (Kd.slice 112 k112) (Kd.int .i64)))) (fun x : S40 => (x.f0, x.f1, x.f2, x.f3))
theorem k40_open {w : World} {x : S40} {cs : List Value} (h : k40.K w x cs) : ∃ A0 c0 A2 c2, cs = [.slice A0 x.f0.length c0, .int .i64 x.f1, .slice A2 x.f2.length c2, .int .i64 x.f3] ∧ x.f0.length ≤ c0 ∧ k135.C w A0 x.f0.length x.f0 ∧ x.f2.length ≤ c2 ∧ k112.C w A2 x.f2.length x.f2 := by
  obtain ⟨_, _, rfl, ⟨A0, c0, rfl, l0, g0⟩, ⟨_, _, rfl, rfl, ⟨_, _, rfl, ⟨A2, c2, rfl, l2, g2⟩, rfl⟩⟩⟩ := h
  exact ⟨A0, c0, A2, c2, rfl, l0, g0, l2, g2⟩
theorem k40_mk (w : World) (x : S40) {A0 : Option Addr} {c0 : Nat} (l0 : x.f0.length ≤ c0) (g0 : k135.C w A0 x.f0.length x.f0) {A2 : Option Addr} {c2 : Nat} (l2 : x.f2.length ≤ c2) (g2 : k112.C w A2 x.f2.length x.f2) : k40.K w x [.slice A0 x.f0.length c0, .int .i64 x.f1, .slice A2 x.f2.length c2, .int .i64 x.f3] := ⟨[.slice A0 x.f0.length c0], [.int .i64 x.f1, .slice A2 x.f2.length c2, .int .i64 x.f3], rfl, ⟨A0, c0, rfl, l0, g0⟩, ⟨[.int .i64 x.f1], [.slice A2 x.f2.length c2, .int .i64 x.f3], rfl, rfl, ⟨[.slice A2 x.f2.length c2], [.int .i64 x.f3], rfl, ⟨A2, c2, rfl, l2, g2⟩, rfl⟩⟩⟩
abbrev BL := S112
abbrev LO := S40
abbrev kB : Kd BL := k112
def kLo : Kd LO := Kd.iso (Kd.pair (ros 135 kD) (Kd.pair kI (Kd.pair (ros 112 kB) kI))) (fun x : LO => (x.f0, x.f1, x.f2, x.f3))
def kRc : Kd (LO × Int) := Kd.iso (Kd.pair kLo kI) (fun r : LO × Int => (r.1, r.2))
theorem kLo_K (w : World) (x : LO) (cs : List Value) : kLo.K w x cs ↔ k40.K w x cs := Iff.rfl
section
variable {w : World} {base : Nat} {ok : Nat → Prop}
theorem kLo_open {x : LO} {cs : List Value} (h : kLo.M w base ok x cs) : ∃ v0 v2, cs = [v0, .int .i64 x.f1, v2, .int .i64 x.f3] ∧ (ros 135 kD).M w base ok x.f0 [v0] ∧ (ros 112 kB).M w base ok x.f2 [v2] := by
  obtain ⟨_, _, rfl, g0, ⟨_, _, rfl, rfl, ⟨_, _, rfl, g2, rfl⟩⟩⟩ := h
  obtain ⟨A0, d0, rfl, _⟩ := id g0
  obtain ⟨A2, d2, rfl, _⟩ := id g2
  exact ⟨_, _, rfl, g0, g2⟩
theorem kLo_mk (x : LO) {v0 v2 : Value} (g0 : (ros 135 kD).M w base ok x.f0 [v0]) (g2 : (ros 112 kB).M w base ok x.f2 [v2]) : kLo.M w base ok x [v0, .int .i64 x.f1, v2, .int .i64 x.f3] :=
  ⟨[_], _, rfl, g0, ⟨[_], _, rfl, rfl, ⟨[_], _, rfl, g2, rfl⟩⟩⟩
theorem kRc_open {r : LO × Int} {cs : List Value} (h : kRc.M w base ok r cs) : ∃ v0 v2, cs = [v0, .int .i64 r.1.f1, v2, .int .i64 r.1.f3, .int .i64 r.2] ∧ (ros 135 kD).M w base ok r.1.f0 [v0] ∧ (ros 112 kB).M w base ok r.1.f2 [v2] := by
  obtain ⟨_, _, rfl, g, rfl⟩ := h
  obtain ⟨v0, v2, rfl, g0, g2⟩ := kLo_open g
  exact ⟨v0, v2, rfl, g0, g2⟩
theorem kRc_mk (r : LO × Int) {v0 v2 : Value} (g0 : (ros 135 kD).M w base ok r.1.f0 [v0]) (g2 : (ros 112 kB).M w base ok r.1.f2 [v2]) : kRc.M w base ok r [v0, .int .i64 r.1.f1, v2, .int .i64 r.1.f3, .int .i64 r.2] :=
  ⟨[_, _, _, _], [_], rfl, kLo_mk r.1 g0 g2, rfl⟩
end
theorem R_fr2 {α : Type} {d : Kd α} {e base : Nat} {w w' : World} {v : Value} {xs : List α} {S : List Nat} (h : d.R e w base (fun _ => True) v xs) (hf : Fr S w w') (hS : NoT w d.E S) (hv : ∀ k, v.ownBlock = some k → k ∉ S) : d.R e w' base (fun _ => True) v xs := by
  have hlt := Kd.R_lt h
  obtain ⟨h0, inner, ho, hr⟩ := h
  have h2 : d.R e w base (fun k => k < w.heap.size ∧ k ∉ S) v xs := ⟨fun k hk => ⟨hlt k hk, hv k hk⟩, inner, ho, hr.imp_ (fun _ _ hp => d.M_mono (fun k hk => by
    obtain ⟨⟨-, hne⟩, -, hl, q, hq, cells, hc⟩ := hk
    exact ⟨⟨hl, fun hm => hS k hm q hq cells hc⟩, hne⟩) (d.M_bound hp))⟩
  exact Kd.R_mono (Kd.R_move h2 (fun k hk => hf.block k hk.1 hk.2)) (fun _ _ => trivial)
abbrev RP := Reg.Pl LO
abbrev RG := Reg.Rg LO
theorem kRc_E {q : Nat} (hq : q ∈ kRc.E) : q ∈ [135, 192, 3, 112] := by
  simp [kRc, kLo, kD, Kd.iso, Kd.pair, Kd.int, Kd.string, Kd.scalar, ros, k192, k112] at hq
  simp
  omega
structure PlAt (w : World) (pb : Nat) (v : Value) (p : RP) : Prop where
  blk : w.heap[pb]? = some (.cells #[.bool p.up, v] 95 (0, 0))
  row : kRc.R 108 w 0 (fun _ => True) v p.log
theorem PlAt.fr0 {w w' : World} {pb : Nat} {v : Value} {p : RP} (h : PlAt w pb v p) (f : Fr [] w w') : PlAt w' pb v p := ⟨f.blk h.blk (by simp), R_fr0 h.row f⟩
theorem PlAt.noT {w : World} {pb : Nat} {v : Value} {p : RP} (h : PlAt w pb v p) {E : List Nat} (hE : ∀ q ∈ E, q ≠ 95 ∧ q ≠ 108) : NoT w E (pb :: v.ownBlock.toList) := by
  refine NoT.cons (NoT.one h.blk (fun q hq => (hE q hq).1)) ?_
  cases ho : v.ownBlock with
  | none => exact NoT.nil _ _
  | some k =>
    obtain ⟨cells, hc⟩ := Kd.R_typed h.row k ho
    exact NoT.one hc (fun q hq => (hE q hq).2)
theorem PlAt.notin {w : World} {pb : Nat} {v : Value} {p : RP} (h : PlAt w pb v p) {b : Nat} {cs : Array Value} {t : TypeId} (hb : w.heap[b]? = some (.cells cs t (0, 0))) (ht : t ≠ 95 ∧ t ≠ 108) : b ∉ pb :: v.ownBlock.toList := fun hm =>
  h.noT (E := [t]) (fun q hq => by rw [List.mem_singleton.1 hq]; exact ht) b hm t (by simp) cs hb
theorem PlAt.own_ne {w : World} {pb : Nat} {v : Value} {p : RP} (h : PlAt w pb v p) {b : Nat} {cs : Array Value} {t : TypeId} (hb : w.heap[b]? = some (.cells cs t (0, 0))) (ht : t ≠ 108) : ∀ k, v.ownBlock = some k → k ≠ b := by
  rintro k hk rfl
  obtain ⟨cells, hc⟩ := Kd.R_typed h.row k hk
  rw [hb] at hc
  injection hc with hc; injection hc with _ hc; exact ht hc
def rowsM : Nat → List (ByteArray × RP) → List (Nat × Value) → List MapEntry
  | i, p :: r, a :: s => { key := .string p.1, val := .pointer (some ⟨a.1, 0, none⟩), born := i } :: rowsM (i + 1) r s
  | _, _, _ => []
structure RegAt (w : World) (rb mb : Nat) (us : List (Nat × Value)) (R : RG) : Prop where
  blk : w.heap[rb]? = some (.cells #[.map (some mb), .string R.primary, .int .i64 R.epoch, .int .i64 R.need, .int .i64 R.acked, .int .i64 R.records] 87 (0, 0))
  map : w.heap[mb]? = some (.map (rowsM 0 R.places us).toArray R.places.length)
  len : us.length = R.places.length
  pl : ∀ (i : Nat) (x : ByteArray × RP) (a : Nat × Value), R.places[i]? = some x → us[i]? = some a → PlAt w a.1 a.2 x.2
  ne : ∀ (i j : Nat) (a b : Nat × Value), us[i]? = some a → us[j]? = some b → i ≠ j → a.1 ≠ b.1
  own : ∀ (i j : Nat) (a b : Nat × Value) (k : Nat), us[i]? = some a → us[j]? = some b → i ≠ j → a.2.ownBlock = some k → b.2.ownBlock ≠ some k
theorem RegAt.fr0 {w w' : World} {rb mb : Nat} {us : List (Nat × Value)} {R : RG} (h : RegAt w rb mb us R) (f : Fr [] w w') : RegAt w' rb mb us R :=
  ⟨f.blk h.blk (by simp), f.blk h.map (by simp), h.len, fun i x a hx ha => (h.pl i x a hx ha).fr0 f, h.ne, h.own⟩
theorem rows_none {n : ByteArray} : ∀ {l : List (ByteArray × RP)} {us : List (Nat × Value)} (i j : Nat), Reg.lookIn l n = none → Instr.findNow .string (.string n) (rowsM i l us) j = some none
  | [], us, i, j, _ => by cases us <;> rfl
  | p :: r, [], i, j, _ => rfl
  | p :: r, a :: s, i, j, h => by
    simp only [Reg.lookIn] at h
    split at h
    · cases h
    · rename_i e
      have ih := rows_none (us := s) (i + 1) (j + 1) h
      simp only [rowsM, Instr.findNow, Instr.sameNow, bytes_beq]
      simp [Ne.symm e, ih]
theorem rows_some {n : ByteArray} {p : RP} : ∀ {l : List (ByteArray × RP)} {us : List (Nat × Value)} (i j : Nat), Reg.lookIn l n = some p → us.length = l.length →
    ∃ (k : Nat) (a : Nat × Value), l[k]? = some (n, p) ∧ us[k]? = some a ∧ Instr.findNow .string (.string n) (rowsM i l us) j = some (some (j + k, .pointer (some ⟨a.1, 0, none⟩)))
  | [], us, i, j, h, _ => by cases h
  | q :: r, [], i, j, _, hl => by simp at hl
  | q :: r, a :: s, i, j, h, hl => by
    simp only [Reg.lookIn] at h
    split at h
    · rename_i e
      cases h
      refine ⟨0, a, by rw [← e]; rfl, rfl, ?_⟩
      simp only [rowsM, Instr.findNow, Instr.sameNow, bytes_beq]
      simp [e]
    · rename_i e
      obtain ⟨k, b, h1, h2, h3⟩ := rows_some (l := r) (us := s) (i + 1) (j + 1) h (by simpa using hl)
      refine ⟨k + 1, b, by simpa using h1, by simpa using h2, ?_⟩
      simp only [rowsM, Instr.findNow, Instr.sameNow, bytes_beq]
      simp [Ne.symm e, h3]
      omega
theorem put_set {n : ByteArray} {q p : RP} : ∀ {l : List (ByteArray × RP)} {i : Nat}, (l.map (·.1)).Nodup → l[i]? = some (n, p) → Reg.putIn n q l = l.set i (n, q)
  | [], i, _, h => by simp at h
  | a :: r, i, hn, h => by
    simp only [List.map_cons, List.nodup_cons] at hn
    simp only [Reg.putIn]
    cases i with
    | zero =>
      simp at h
      subst h
      simp
    | succ i =>
      have h' : r[i]? = some (n, p) := by simpa using h
      have hne : a.1 ≠ n := fun e => hn.1 (by rw [e]; exact List.mem_map.2 ⟨(n, p), List.mem_iff_getElem?.2 ⟨i, h'⟩, rfl⟩)
      rw [if_neg hne, put_set hn.2 h']
      rfl
theorem rows_set {n : ByteArray} {p q : RP} {a : Nat × Value} {v' : Value} : ∀ {l : List (ByteArray × RP)} {us : List (Nat × Value)} {i : Nat} (k : Nat), l[i]? = some (n, p) → us[i]? = some a → rowsM k (l.set i (n, q)) (us.set i (a.1, v')) = rowsM k l us
  | [], us, i, k, h, _ => by simp at h
  | x :: r, [], i, k, _, h => by simp at h
  | x :: r, b :: s, 0, k, h, h2 => by
    simp at h h2
    subst h h2
    rfl
  | x :: r, b :: s, i + 1, k, h, h2 => by
    simp only [List.set_cons_succ, rowsM]
    rw [rows_set (k + 1) (by simpa using h) (by simpa using h2)]
theorem get_set {α : Type} {l : List α} {i j : Nat} {x y : α} (h : (l.set i x)[j]? = some y) : (i = j ∧ y = x) ∨ (i ≠ j ∧ l[j]? = some y) := by
  by_cases e : i = j
  · subst e
    have hl := (List.getElem?_eq_some_iff.1 h).1
    simp at hl
    rw [List.getElem?_set_self hl] at h
    cases h
    exact .inl ⟨rfl, rfl⟩
  · rw [List.getElem?_set_ne e] at h
    exact .inr ⟨e, h⟩
theorem RegAt.put {w w' : World} {rb mb : Nat} {us : List (Nat × Value)} {R : RG} (h : RegAt w rb mb us R) (hn : (R.places.map (·.1)).Nodup) {i : Nat} {n : ByteArray} {p q : RP} {a : Nat × Value} {v' : Value} (hi : R.places[i]? = some (n, p)) (ha : us[i]? = some a)
    (f : Fr (a.1 :: a.2.ownBlock.toList) w w') (hq : PlAt w' a.1 v' q) (ho : ∀ k, v'.ownBlock = some k → a.2.ownBlock = some k ∨ w.heap.size ≤ k) : RegAt w' rb mb (us.set i (a.1, v')) (R.put n q) := by
  have hp := h.pl i _ a hi ha
  refine ⟨f.blk h.blk (hp.notin h.blk (by decide)), ?_, ?_, ?_, ?_, ?_⟩
  · show w'.heap[mb]? = some (.map (rowsM 0 (Reg.putIn n q R.places) (us.set i (a.1, v'))).toArray (Reg.putIn n q R.places).length)
    rw [put_set hn hi, rows_set 0 hi ha, List.length_set]
    refine f.blk h.map ?_
    intro hm
    rcases List.mem_cons.1 hm with e | hm
    · have hmap := h.map
      rw [e, hp.blk] at hmap
      cases hmap
    · cases hk : a.2.ownBlock with
      | none => rw [hk] at hm; simp at hm
      | some k =>
        rw [hk] at hm
        have : mb = k := by simpa using hm
        subst this
        obtain ⟨cells, hc⟩ := Kd.R_typed hp.row mb hk
        have hmap := h.map
        rw [hc] at hmap
        cases hmap
  · show (us.set i (a.1, v')).length = (Reg.putIn n q R.places).length
    rw [put_set hn hi]
    simp [h.len]
  · intro j x b hx hb
    have hx' : (R.places.set i (n, q))[j]? = some x := by rw [← put_set hn hi]; exact hx
    rcases get_set hb with ⟨rfl, rfl⟩ | ⟨hij, hb⟩
    · rcases get_set hx' with ⟨-, rfl⟩ | ⟨hne, -⟩
      · exact hq
      · exact absurd rfl hne
    · rcases get_set hx' with ⟨e, -⟩ | ⟨-, hx'⟩
      · exact absurd e hij
      · have hj := h.pl j x b hx' hb
        refine ⟨f.blk hj.blk ?_, R_fr2 hj.row f (hp.noT (fun q hq => ?_)) ?_⟩
        · intro hm
          rcases List.mem_cons.1 hm with e | hm
          · exact h.ne i j a b ha hb hij e.symm
          · exact hp.own_ne hj.blk (by decide) b.1 (by simpa using hm) rfl
        · have := kRc_E hq
          simp at this
          rcases this with rfl | rfl | rfl | rfl <;> decide
        · intro k hk hm
          rcases List.mem_cons.1 hm with e | hm
          · exact hj.own_ne hp.blk (by decide) k hk e
          · exact h.own i j a b k ha hb hij (by simpa using hm) hk
  · intro j k b c hb hc hjk
    rcases get_set hb with ⟨rfl, rfl⟩ | ⟨hij, hb⟩ <;> rcases get_set hc with ⟨rfl, rfl⟩ | ⟨hik, hc⟩
    · exact absurd rfl hjk
    · exact h.ne i k a c ha hc hik
    · exact h.ne j i b a hb ha hjk
    · exact h.ne j k b c hb hc hjk
  · intro j k b c z hb hc hjk hz hcz
    rcases get_set hb with ⟨rfl, rfl⟩ | ⟨hij, hb⟩ <;> rcases get_set hc with ⟨rfl, rfl⟩ | ⟨hik, hc⟩
    · exact absurd rfl hjk
    · rcases ho z hz with h1 | h1
      · exact h.own i k a c z ha hc hik h1 hcz
      · obtain ⟨x, hx⟩ : ∃ x, R.places[k]? = some x := ⟨_, List.getElem?_eq_getElem (by rw [← h.len]; exact (List.getElem?_eq_some_iff.1 hc).1)⟩
        have := Kd.R_lt (h.pl k x c hx hc).row z hcz
        omega
    · rcases ho z hcz with h1 | h1
      · exact h.own j i b a z hb ha hjk hz h1
      · obtain ⟨x, hx⟩ : ∃ x, R.places[j]? = some x := ⟨_, List.getElem?_eq_getElem (by rw [← h.len]; exact (List.getElem?_eq_some_iff.1 hb).1)⟩
        have := Kd.R_lt (h.pl j x b hx hb).row z hz
        omega
    · exact h.own j k b c z hb hc hjk hz hcz
theorem RegAt.head {w w' : World} {rb mb : Nat} {us : List (Nat × Value)} {R R' : RG} (h : RegAt w rb mb us R) (f : Fr [rb] w w') (hb : w'.heap[rb]? = some (.cells #[.map (some mb), .string R'.primary, .int .i64 R'.epoch, .int .i64 R'.need, .int .i64 R'.acked, .int .i64 R'.records] 87 (0, 0))) (hp : R'.places = R.places) : RegAt w' rb mb us R' := by
  have hT : NoT w kRc.E [rb] := NoT.one h.blk (fun q hq => by
    have := kRc_E hq
    simp at this
    rcases this with rfl | rfl | rfl | rfl <;> decide)
  refine ⟨hb, ?_, by rw [hp]; exact h.len, ?_, h.ne, h.own⟩
  · rw [hp]
    refine f.blk h.map ?_
    intro hm
    have e : mb = rb := by simpa using hm
    have hmap := h.map
    rw [e, h.blk] at hmap
    cases hmap
  · intro i x a hx ha
    rw [hp] at hx
    have hj := h.pl i x a hx ha
    refine ⟨f.blk hj.blk ?_, R_fr2 hj.row f hT ?_⟩
    · intro hm
      have e : a.1 = rb := by simpa using hm
      have := hj.blk
      rw [e, h.blk] at this
      injection this with this; injection this with _ this; exact absurd this (by decide)
    · intro k hk hm
      have e : k = rb := by simpa using hm
      exact hj.own_ne h.blk (by decide) k hk e
section
variable {rb mb : Nat} {us : List (Nat × Value)} {R : RG} {n : ByteArray} {p : RP}
theorem rlook_no (hl : R.look n = none) {w : World} (h : RegAt w rb mb us R) : (Instr.lookup 85 (.map (some mb)) (.string n) false).run Tryz.prog w = .ok (.pointer none) w :=
  run_look_no w _ 9 92 mb _ _ n (.pointer none) false Tryz.underlying85 Tryz.underlying9 h.map (by kernel_rfl) (rows_none 0 0 hl)
theorem rlook_at (hl : R.look n = some p) (hlen : us.length = R.places.length) : ∃ (i : Nat) (a : Nat × Value), R.places[i]? = some (n, p) ∧ us[i]? = some a ∧ ∀ w, RegAt w rb mb us R → (Instr.lookup 85 (.map (some mb)) (.string n) false).run Tryz.prog w = .ok (.pointer (some ⟨a.1, 0, none⟩)) w := by
  obtain ⟨i, a, h1, h2, h3⟩ := rows_some (us := us) 0 0 hl hlen
  exact ⟨i, a, h1, h2, fun w h => run_look_yes w _ 9 92 mb _ _ (0 + i) n _ false Tryz.underlying85 Tryz.underlying9 h.map h3⟩
theorem RegAt.c {w : World} (h : RegAt w rb mb us R) : w.cell? ⟨rb, 0, none⟩ = some (.map (some mb)) ∧ w.cell? ⟨rb, 1, none⟩ = some (.string R.primary) ∧ w.cell? ⟨rb, 2, none⟩ = some (.int .i64 R.epoch) ∧ w.cell? ⟨rb, 3, none⟩ = some (.int .i64 R.need) ∧ w.cell? ⟨rb, 4, none⟩ = some (.int .i64 R.acked) ∧ w.cell? ⟨rb, 5, none⟩ = some (.int .i64 R.records) := by
  have k0 := cell_of_row w rb 0 _ _ _ h.blk
  have k1 := cell_of_row w rb 1 _ _ _ h.blk
  have k2 := cell_of_row w rb 2 _ _ _ h.blk
  have k3 := cell_of_row w rb 3 _ _ _ h.blk
  have k4 := cell_of_row w rb 4 _ _ _ h.blk
  have k5 := cell_of_row w rb 5 _ _ _ h.blk
  simp at k0 k1 k2 k3 k4 k5
  exact ⟨k0, k1, k2, k3, k4, k5⟩
end
set_option maxRecDepth 100000 in
theorem none_no (rb mb : Nat) (w : World) (h : w.cell? ⟨rb, 0, none⟩ = some (.map (some mb))) :
    Calls Tryz.prog 42 #[.pointer (some ⟨rb, 0, none⟩)] w fun e w' => e = .returned (.bool false) ∧ w = w' := by
  have hmn := run_eql_map_nil (P := Tryz.prog) w 85 9 92 (some mb) Tryz.underlying85
  go_enter Tryz.func42, Tryz.ntmps42
  go_wp2
  go_ret
  exact ⟨rfl, rfl⟩
set_option maxRecDepth 100000 in
theorem rfind_err (rb mb : Nat) (us : List (Nat × Value)) (R : RG) (n : ByteArray) (er : Int) (w : World) (h : RegAt w rb mb us R) (hs : n.size ≤ maxLen) (hf : R.find wordB n = (none, er)) :
    Calls Tryz.prog 49 #[.pointer (some ⟨rb, 0, none⟩), .string n] w fun e w' => e = .returned (.tuple #[.pointer none, .int .i64 er]) ∧ Fr [] w w' := by
  have H := hid h
  have c0 := h.c.1
  clear h
  unfold Reg.Rg.find at hf
  split at hf
  · rename_i hw
    cases hf
    go_enter Tryz.func49, Tryz.ntmps49
    go_wp2_with (first
      | (go_at_call 42; refine (none_no rb mb _ c0).mono ?_; rintro e w' ⟨rfl, rfl⟩)
      | (go_at_call 34; refine (word_any n hs _).mono ?_; rintro e w1 ⟨rfl, hd⟩; rw [hw]; have F1 : Hid (Fr [] w w1) := (by obtain ⟨q, hq⟩ := hd.out; rw [hq]; exact (Fr.refl [] w).drewN q); clear hd))
    go_ret2
    exact ⟨rfl, F1.out⟩
  · rename_i hw
    split at hf
    · rename_i hl
      cases hf
      have HW : Hid (wordB n = true) := hid (by simpa using hw)
      have HL := hid hl
      clear hw hl
      go_enter Tryz.func49, Tryz.ntmps49
      go_wp2_with (first
        | (go_at_call 42; refine (none_no rb mb _ c0).mono ?_; rintro e w' ⟨rfl, rfl⟩)
        | (go_at_call 34; refine (word_any n hs _).mono ?_; rintro e w1 ⟨rfl, hd⟩; rw [HW.out]; have F1 : Hid (Fr [] w w1) := (by obtain ⟨q, hq⟩ := hd.out; rw [hq]; exact (Fr.refl [] w).drewN q); have c1 := F1.out.cell0 c0; have hlk := rlook_no HL.out (H.out.fr0 F1.out); clear hd))
      go_ret2
      exact ⟨rfl, F1.out⟩
    · cases hf
set_option maxRecDepth 100000 in
theorem rfind_yes (rb mb : Nat) (us : List (Nat × Value)) (R : RG) (n : ByteArray) (w : World) (h : RegAt w rb mb us R) (hs : n.size ≤ maxLen) (hw : wordB n = true) (a : Nat × Value) (hlk : ∀ w, RegAt w rb mb us R → (Instr.lookup 85 (.map (some mb)) (.string n) false).run Tryz.prog w = .ok (.pointer (some ⟨a.1, 0, none⟩)) w) :
    Calls Tryz.prog 49 #[.pointer (some ⟨rb, 0, none⟩), .string n] w fun e w' => e = .returned (.tuple #[.pointer (some ⟨a.1, 0, none⟩), .int .i64 0]) ∧ Fr [] w w' := by
  have H := hid h
  have c0 := h.c.1
  have HW := hid hw
  have HLK := hid hlk
  clear h hw hlk
  go_enter Tryz.func49, Tryz.ntmps49
  go_wp2_with (first
    | (go_at_call 42; refine (none_no rb mb _ c0).mono ?_; rintro e w' ⟨rfl, rfl⟩)
    | (go_at_call 34; refine (word_any n hs _).mono ?_; rintro e w1 ⟨rfl, hd⟩; rw [HW.out]; have F1 : Hid (Fr [] w w1) := (by obtain ⟨q, hq⟩ := hd.out; rw [hq]; exact (Fr.refl [] w).drewN q); have c1 := F1.out.cell0 c0; have hlk := HLK.out _ (H.out.fr0 F1.out); clear hd))
  go_ret2
  exact ⟨rfl, F1.out⟩
def rcL (r : LO × Int) (v0 v2 : Value) : List Value := [v0, .int .i64 r.1.f1, v2, .int .i64 r.1.f3, .int .i64 r.2]
theorem recs_at {w : World} {g n c i : Nat} {l : List (LO × Int)} {r : LO × Int} (h : kRc.R 108 w 0 (fun _ => True) (.slice (some ⟨g, 0, none⟩) n c) l) (hr : l[i]? = some r) :
    ∃ v0 v2, kRc.M w 0 (fun k => k ≠ g) r (rcL r v0 v2) ∧ ∀ j u, (rcL r v0 v2)[j]? = some u → w.cell? ⟨g, i * 5 + j, none⟩ = some u := by
  obtain ⟨hn, -, -⟩ := Kd.R_reads' h
  have hi := (List.getElem?_eq_some_iff.1 hr).1
  obtain ⟨c, h1, h2, h3, h4⟩ := Kd.R_elem h (⟨⟨[], 0, [], 0⟩, 0⟩ : LO × Int) (i : Int) (by omega) (by omega)
  have e : l.getD ((i : Int)).toNat (⟨⟨[], 0, [], 0⟩, 0⟩ : LO × Int) = r := by simp [List.getD_eq_getElem?_getD, hr]
  rw [e] at h2
  obtain ⟨v0, v2, rfl, g0, g2⟩ := kRc_open h2
  exact ⟨v0, v2, kRc.M_mono (fun k hk => hk.2) (kRc_mk r g0 g2), h3⟩
theorem rec_num {w : World} {v : Value} {l : List (LO × Int)} {i : Nat} {r : LO × Int} (h : kRc.R 108 w 0 (fun _ => True) v l) (hr : l[i]? = some r) : ∃ g c, v = .slice (some ⟨g, 0, none⟩) l.length c ∧ w.cell? ⟨g, i * 5 + 4, none⟩ = some (.int .i64 r.2) := by
  have hi := (List.getElem?_eq_some_iff.1 hr).1
  obtain ⟨g, c, e, -⟩ := Kd.R_form h (by omega)
  subst e
  obtain ⟨v0, v2, -, hc⟩ := recs_at h hr
  exact ⟨g, c, rfl, hc 4 _ rfl⟩
theorem pre_stop {a b : List (LO × Int)} {x y : LO × Int} (hx : a[Reg.pre a b]? = some x) (hy : b[Reg.pre a b]? = some y) : x.2 ≠ y.2 := fun e => by
  have ha := (List.getElem?_eq_some_iff.1 hx).1
  have hb := (List.getElem?_eq_some_iff.1 hy).1
  have := Reg.pre_ge (a := a) (b := b) (k := Reg.pre a b + 1) (by omega) (by omega) (fun i u v hi hu hv => by
    by_cases h : i < Reg.pre a b
    · obtain ⟨u', v', h1, h2, h3⟩ := Reg.pre_same h
      rw [hu] at h1; rw [hv] at h2
      cases h1; cases h2
      exact h3
    · have : i = Reg.pre a b := by omega
      subst this
      rw [hu] at hx; rw [hv] at hy
      cases hx; cases hy
      exact e)
  omega
set_option maxRecDepth 100000 in
set_option maxHeartbeats 2000000 in
theorem agree_any (v1 v2 : Value) (a b : List (LO × Int)) (w : World) (h1 : kRc.R 108 w 0 (fun _ => True) v1 a) (h2 : kRc.R 108 w 0 (fun _ => True) v2 b) (l1 : a.length ≤ 1000000) (l2 : b.length ≤ 1000000) :
    Calls Tryz.prog 50 #[v1, v2] w fun e w' => e = .returned (.int .i64 (Reg.pre a b)) ∧ Drawn0 w w' := by
  obtain ⟨A1, c1, rfl⟩ := Kd.R_slice h1
  obtain ⟨A2, c2, rfl⟩ := Kd.R_slice h2
  have H1 := hid h1
  have H2 := hid h2
  clear h1 h2
  obtain ⟨hp1, hp2⟩ := Reg.pre_le a b
  obtain ⟨P, hP⟩ : ∃ P, P = Reg.pre a b := ⟨_, rfl⟩
  rw [← hP] at hp1 hp2 ⊢
  have HP := hid hP
  clear hP
  go_enter Tryz.func50, Tryz.ntmps50
  go_wp2
  go_loopw [5] (fun i wr => ∃ k : Nat, i = .int .i64 k ∧ k ≤ P ∧ Drawn0 w wr) (fun i _ => P - (intOf i).toNat)
  case atStart => exact ⟨0, rfl, Nat.zero_le _, Drawn0.refl _⟩
  case round =>
    obtain ⟨k, rfl, hk, hD⟩ := hrel
    have D := hid hD
    have R1 := R_fr0 H1.out (Fr.of_below hD.below)
    have R2 := R_fr0 H2.out (Fr.of_below hD.below)
    clear hD
    by_cases hin : k < a.length ∧ k < b.length
    · obtain ⟨hia, hib⟩ := hin
      obtain ⟨x, hx⟩ : ∃ x, a[k]? = some x := ⟨_, List.getElem?_eq_getElem hia⟩
      obtain ⟨y, hy⟩ : ∃ y, b[k]? = some y := ⟨_, List.getElem?_eq_getElem hib⟩
      obtain ⟨g1, d1, e1, m1⟩ := rec_num R1 hx
      obtain ⟨g2, d2, e2, m2⟩ := rec_num R2 hy
      injection e1 with e1 e1b e1c
      injection e2 with e2 e2b e2c
      subst e1 e2
      clear e1b e1c e2b e2c
      have hk0 : (0 : Int) ≤ (k : Int) := by omega
      have hk1 : (k : Int) < (a.length : Int) := by omega
      have hk2 : (k : Int) < (b.length : Int) := by omega
      by_cases hlt : k < P
      · have hxy : (x.2 == y.2) = true := by
          obtain ⟨u, v, h1, h2, h3⟩ := Reg.pre_same (a := a) (b := b) (i := k) (by rw [← HP.out]; exact hlt)
          rw [hx] at h1; rw [hy] at h2
          cases h1; cases h2
          simpa using h3
        clear hx hy R1 R2 hia hib
        by_cases hab : b.length < a.length
        all_goals
          go_wp2_with fail
          go_quiet (fail)
          go_wp2
          go_roundw
          case rel => exact ⟨k + 1, by go_num, by omega, D.out.step _⟩
          case measure => simp [intOf]; omega
      · obtain rfl : k = P := by omega
        have hxy : (x.2 == y.2) = false := by
          rw [HP.out] at hx hy
          simpa using pre_stop hx hy
        clear hx hy R1 R2 hia hib
        by_cases hab : b.length < a.length
        all_goals
          go_wp2_with fail
          go_quiet (fail)
          go_wp2
          go_ret
          exact ⟨rfl, D.out.step _⟩
    · obtain rfl : k = P := by
        apply Classical.byContradiction
        intro hne
        exact hin ⟨by omega, by omega⟩
      by_cases hab : b.length < a.length
      · have hnk : decide ((k : Int) < (b.length : Int)) = false := by simp; omega
        have hnk1 : decide (k < b.length) = false := by simp; omega
        clear R1 R2 hin
        go_wp2_with fail
        go_quiet (fail)
        go_wp2
        go_ret
        exact ⟨rfl, D.out.step _⟩
      · have hnk : decide ((k : Int) < (a.length : Int)) = false := by simp; omega
        have hnk1 : decide (k < a.length) = false := by simp; omega
        clear R1 R2 hin
        go_wp2_with fail
        go_quiet (fail)
        go_wp2
        go_ret
        exact ⟨rfl, D.out.step _⟩
end Go.Proofs.YtkolnoadeihmoaaGreat
