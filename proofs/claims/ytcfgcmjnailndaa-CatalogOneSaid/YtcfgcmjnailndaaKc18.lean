/-
  Plain: what a deed (no undrop) makes of two lists that are the same but for the numbers of commits.
  Plain: the deeds of a commit, and the same ones in one commit each.
  The law function alike.
-/
import Derived.Test.YtcfgcmjnailndaaKc17
namespace Go.Proofs.Ytcfgcmjnailndaa
open Go.RowKit Go.Proofs.Ytcfgcmjnailndaa.PCatalogKept Go.Proofs.YtcfgcmjnailndaaW.PrintWords Go.Proofs.YtcfgcmjnailndaaW.PrintLast Go.Proofs.YtcfgcmjnailndaaW.PrintMore
def bare (y : EN) : EN := ⟨{ y.f0 with f6 := 0, f7 := 0, f8 := if y.f0.f8 = 0 then 0 else 1 }, y.f1, 0⟩
theorem bare_gone (y : EN) : ((bare y).f0.f8 == 0) = (y.f0.f8 == 0) := by
  unfold bare
  dsimp only
  by_cases h : y.f0.f8 = 0 <;> simp [h]
theorem isBase_bare (n : ByteArray) (y : EN) : isBase n (bare y) = isBase n y := by
  unfold isBase
  rw [bare_gone]
  rfl
theorem isTable_bare (h : Int) (n : ByteArray) (y : EN) : isTable h n (bare y) = isTable h n y := by
  unfold isTable
  rw [bare_gone]
  rfl
theorem baseIx_bare (es : List EN) (n : ByteArray) : baseIx (es.map bare) n = baseIx es n := by
  unfold baseIx
  rw [List.findIdx?_map]
  congr 1
  funext y
  exact isBase_bare n y
theorem tableIx_bare (es : List EN) (h : Int) (n : ByteArray) : tableIx (es.map bare) h n = tableIx es h n := by
  unfold tableIx
  rw [List.findIdx?_map]
  congr 1
  funext y
  exact isTable_bare h n y
theorem getD_bare (es : List EN) (i : Nat) : (es.map bare).getD i z64 = bare (es.getD i z64) := by
  rw [List.getD_eq_getElem?_getD, List.getD_eq_getElem?_getD, List.getElem?_map]
  cases es[i]? <;> rfl
theorem idOf_bare (es : List EN) (i : Nat) : idOf (es.map bare) i = idOf es i := by
  unfold idOf
  rw [getD_bare]
  rfl
theorem inIx_bare (es : List EN) (b : Option Nat) (n : ByteArray) : inIx (es.map bare) b n = inIx es b n := by
  unfold inIx
  cases b with
  | none => rfl
  | some i => simp only [idOf_bare, tableIx_bare]
theorem findIx_bare (es : List EN) (b t : ByteArray) : findIx (es.map bare) b t = findIx es b t := by
  unfold findIx
  rw [baseIx_bare, inIx_bare]
theorem tabs_bare {es es' : List EN} {h : Int} {f g : EN → EN} (he : es.map bare = es'.map bare) (hf : ∀ y y', bare y = bare y' → bare (f y) = bare (g y')) : (es.map (tabs h f)).map bare = (es'.map (tabs h g)).map bare := by
  apply List.ext_getElem?
  intro j
  have hj : (es.map bare)[j]? = (es'.map bare)[j]? := by rw [he]
  simp only [List.getElem?_map, Option.map_map] at hj ⊢
  rcases h1 : es[j]? with _ | y <;> rcases h2 : es'[j]? with _ | y' <;> rw [h1, h2] at hj <;> simp at hj ⊢
  have h3 : y.f1 = y'.f1 := by
    have t : (bare y).f1 = (bare y').f1 := by rw [hj]
    exact t
  unfold tabs
  rw [h3]
  split
  · exact hf y y' hj
  · exact hj
def Alike (es es' : List EN) : Prop := es.map bare = es'.map bare
theorem Alike.len {es es' : List EN} (h : Alike es es') : es.length = es'.length := by
  have := congrArg List.length h
  simpa using this
theorem Alike.base {es es' : List EN} (h : Alike es es') (n : ByteArray) : baseIx es n = baseIx es' n := by rw [← baseIx_bare, h, baseIx_bare]
theorem Alike.table {es es' : List EN} (h : Alike es es') (i : Int) (n : ByteArray) : tableIx es i n = tableIx es' i n := by rw [← tableIx_bare, h, tableIx_bare]
theorem Alike.inn {es es' : List EN} (h : Alike es es') (b : Option Nat) (n : ByteArray) : inIx es b n = inIx es' b n := by rw [← inIx_bare, h, inIx_bare]
theorem Alike.find {es es' : List EN} (h : Alike es es') (b t : ByteArray) : findIx es b t = findIx es' b t := by rw [← findIx_bare, h, findIx_bare]
theorem Alike.idOf {es es' : List EN} (h : Alike es es') (i : Nat) : idOf es i = idOf es' i := by rw [← idOf_bare, h, idOf_bare]
theorem Alike.at {es es' : List EN} (h : Alike es es') (i : Nat) : bare (es.getD i z64) = bare (es'.getD i z64) := by rw [← getD_bare, h, getD_bare]
theorem Alike.set {es es' : List EN} (h : Alike es es') (i : Nat) {f g : EN → EN} (hf : ∀ y y', bare y = bare y' → bare (f y) = bare (g y')) : Alike (setE es i f) (setE es' i g) := by
  unfold Alike setE
  rw [List.map_set, List.map_set, h, hf _ _ (h.at i)]
theorem Alike.tabs {es es' : List EN} (h : Alike es es') (i : Int) {f g : EN → EN} (hf : ∀ y y', bare y = bare y' → bare (f y) = bare (g y')) : Alike (es.map (tabs i f)) (es'.map (tabs i g)) := tabs_bare h hf
theorem Alike.push {es es' : List EN} (h : Alike es es') {y y' : EN} (hy : bare y = bare y') : Alike (es ++ [y]) (es' ++ [y']) := by
  unfold Alike
  rw [List.map_append, List.map_append, h]
  simp [hy]
theorem bare_eq {y y' : EN} : bare y = bare y' ↔ y.f0.f0 = y'.f0.f0 ∧ y.f0.f1 = y'.f0.f1 ∧ y.f0.f2 = y'.f0.f2 ∧ y.f0.f3 = y'.f0.f3 ∧ y.f0.f4 = y'.f0.f4 ∧ y.f0.f5 = y'.f0.f5 ∧ (y.f0.f8 = 0 ↔ y'.f0.f8 = 0) ∧ y.f1 = y'.f1 := by
  obtain ⟨⟨a0, a1, a2, a3, a4, a5, a6, a7, a8⟩, b, c⟩ := y
  obtain ⟨⟨a0', a1', a2', a3', a4', a5', a6', a7', a8'⟩, b', c'⟩ := y'
  unfold bare
  by_cases h : a8 = 0 <;> by_cases h' : a8' = 0 <;> simp [h, h', and_assoc]
theorem deed_alike {d d' : Dr} (hd : d.commit ≠ 0) (hd' : d'.commit ≠ 0) {es es' : List EN} (h : Alike es es') (x : DE) (hx : x.f0 ≠ kUndrop) : (deedBy d es x).1 = (deedBy d' es' x).1 ∧ Alike (deedBy d es x).2 (deedBy d' es' x).2 := by
  have hent : ∀ hm, bare (ent0 d es x hm) = bare (ent0 d' es' x hm) := fun hm => by
    unfold ent0
    rw [bare_eq]
    simp [h.len]
  unfold deedBy
  split
  · unfold create
    rw [h.base]
    split
    · split
      · exact ⟨rfl, h⟩
      · exact ⟨rfl, h.push (hent 0)⟩
    · split
      · exact ⟨rfl, h⟩
      · rename_i b _
        rw [h.table, h.idOf]
        split
        · exact ⟨rfl, h⟩
        · exact ⟨rfl, h.push (hent _)⟩
  split
  · unfold drop
    rw [h.find]
    split
    · exact ⟨rfl, h⟩
    · rename_i i _
      have h1 : Alike (setE es i (gone1 d.commit)) (setE es' i (gone1 d'.commit)) := h.set i fun y y' e => by
        rw [bare_eq] at e ⊢
        unfold gone1
        simp [e, hd, hd']
      refine ⟨rfl, ?_⟩
      dsimp only
      split
      · rw [h.idOf]
        refine h1.tabs _ fun y y' e => ?_
        rw [bare_eq] at e ⊢
        unfold goneT
        by_cases hy : y.f0.f8 = 0
        · have hy' := e.2.2.2.2.2.2.1.1 hy
          simp [e, hy, hy', hd, hd']
        · have hy' : ¬ y'.f0.f8 = 0 := fun h => hy (e.2.2.2.2.2.2.1.2 h)
          simp [e, hy']
      · exact h1
  split
  · unfold rename
    rw [h.find]
    split
    · exact ⟨rfl, h⟩
    · rename_i i _
      split
      · rw [h.base]
        split
        · exact ⟨rfl, h⟩
        · rw [h.idOf]
          refine ⟨rfl, (h.set i fun y y' e => ?_).tabs _ fun y y' e => ?_⟩
          · rw [bare_eq] at e ⊢
            unfold names1
            simp [e]
          · rw [bare_eq] at e ⊢
            unfold baseT base1
            by_cases hy : y.f0.f8 = 0
            · have hy' := e.2.2.2.2.2.2.1.1 hy
              simp [e, hy, hy']
            · have hy' : ¬ y'.f0.f8 = 0 := fun h => hy (e.2.2.2.2.2.2.1.2 h)
              simp [e, hy']
      · rw [h.find]
        split
        · exact ⟨rfl, h⟩
        · refine ⟨rfl, h.set i fun y y' e => ?_⟩
          rw [bare_eq] at e ⊢
          unfold names1
          simp [e]
  split
  · unfold swap
    rw [h.base, h.inn, h.inn]
    split
    · rename_i i k _ _
      have e2 : ∀ j, (es.getD j z64).f0.f2 = (es'.getD j z64).f0.f2 := fun j => (bare_eq.1 (h.at j)).2.2.1
      rw [e2 k, e2 i]
      refine ⟨rfl, (h.set i fun y y' e => ?_).set k fun y y' e => ?_⟩ <;> (rw [bare_eq] at e ⊢; unfold table1; simp [e])
    · exact ⟨rfl, h⟩
  split
  · unfold lay
    rw [h.find]
    split
    · exact ⟨rfl, h⟩
    · refine ⟨rfl, h.set _ fun y y' e => ?_⟩
      rw [bare_eq] at e ⊢
      unfold lay1
      simp [e]
  · unfold keepIt
    rw [h.find]
    split
    · exact ⟨rfl, h⟩
    · refine ⟨rfl, h.set _ fun y y' e => ?_⟩
      rw [bare_eq] at e ⊢
      unfold keep1
      simp [e]
theorem Alike.refl (es : List EN) : Alike es es := rfl
theorem deed_ge (d : Dr) (es : List EN) (x : DE) : es.length ≤ (deedBy d es x).2.length := by
  have hund : ∀ bid, es.length ≤ (undropAt d es x bid).2.length := fun bid => by
    unfold undropAt
    split
    · exact Nat.le_refl _
    · split
      · exact Nat.le_refl _
      · dsimp only
        split <;> simp [setE]
  unfold deedBy
  split
  · unfold create
    split
    · split <;> simp
    · split
      · simp
      · split <;> simp
  split
  · unfold drop
    split
    · simp
    · dsimp only
      split <;> simp [setE]
  split
  · unfold undrop
    split
    · exact hund 0
    · split
      · exact Nat.le_refl _
      · exact hund _
  split
  · unfold rename
    split
    · simp
    · split
      · split <;> simp [setE]
      · split <;> simp [setE]
  split
  · unfold swap
    split <;> simp [setE]
  split
  · unfold lay
    split <;> simp [setE]
  · unfold keepIt
    split <;> simp [setE]
def bigBy (d : Dr) (es : List EN) (xs : List DE) : List EN := xs.foldl (fun l x => (deedBy d l x).2) es
theorem big_len (d : Dr) : ∀ (xs : List DE) (es : List EN), es.length ≤ (bigBy d es xs).length
  | [], _ => Nat.le_refl _
  | x :: r, es => Nat.le_trans (deed_ge d es x) (big_len d r _)
theorem big_take {d : Dr} {es : List EN} {xs : List DE} {k : Nat} {x : DE} (h : xs[k]? = some x) : bigBy d es (xs.take (k + 1)) = (deedBy d (bigBy d es (xs.take k)) x).2 := by
  obtain ⟨hk, he⟩ := List.getElem?_eq_some_iff.1 h
  unfold bigBy
  rw [List.take_succ_eq_append_getElem hk, he, List.foldl_append]
  rfl
theorem big_most {d : Dr} {es : List EN} {xs : List DE} (k : Nat) : (bigBy d es (xs.take k)).length ≤ (bigBy d es xs).length := by
  have h : bigBy d es xs = bigBy d (bigBy d es (xs.take k)) (xs.drop k) := by
    unfold bigBy
    rw [← List.foldl_append, List.take_append_drop]
  rw [h]
  exact big_len d _ _
theorem done_is {d : Dr} : ∀ {xs : List DE} {es es' : List EN}, doneBy d es xs = (0, es') → es' = bigBy d es xs ∧ es'.length ≤ 4000 ∧ ∀ (k : Nat) (x : DE), xs[k]? = some x → (deedBy d (bigBy d es (xs.take k)) x).1 = 0
  | [], es, es', h => by
    unfold doneBy at h
    split at h
    · cases h
    · rename_i hl
      injection h with _ h
      subst h
      exact ⟨rfl, by omega, by simp⟩
  | x :: r, es, es', h => by
    unfold doneBy at h
    dsimp only at h
    split at h
    · rename_i h0
      obtain ⟨e1, e2, e3⟩ := done_is h
      refine ⟨e1, e2, fun k y hy => ?_⟩
      cases k with
      | zero => simp at hy; subst hy; exact h0
      | succ k => exact e3 k y (by simpa using hy)
    · rename_i h0
      rw [h] at h0
      exact absurd rfl h0
structure Singles (ss : List ST) (xs : List DE) (time : Int) (k : Nat) (s2 : List ST) : Prop where
  len : s2.length = ss.length + k
  late : (lastOf s2).f0 ≤ time
  like : Alike (lastOf s2).f2 (bigBy ⟨ss.length, time, ss.map (·.f0)⟩ (lastOf ss).f2 (xs.take k))
theorem Singles.start {ss : List ST} {xs : List DE} {time : Int} (h : checkTime ss time = 0) : Singles ss xs time 0 ss := by
  refine ⟨rfl, ?_, rfl⟩
  unfold checkTime at h
  split at h
  · exact absurd h (by decide)
  · omega
theorem last_append (ss : List ST) (s : ST) : lastOf (ss ++ [s]) = s := by simp [lastOf]
theorem bad_one {x : DE} (h : validB x = true) : anyBad [x] = false := by
  unfold anyBad
  rw [bad_none]
  · rfl
  · intro j y hj hy
    have hj0 : j = 0 := by simpa using hj
    subst hj0
    simp at hy
    subst hy
    exact h
theorem Singles.step {ss : List ST} {xs : List DE} {time : Int} {k : Nat} {s2 : List ST} {x : DE} {es : List EN} (h : Singles ss xs time k s2) (hw : Went ss xs time es) (hp : 0 < ss.length) (hl : ss.length ≤ 21) (hx : xs[k]? = some x) (hu : x.f0 ≠ kUndrop) :
    (commitBy s2 [x] time).1.2 = 0 ∧ Singles ss xs time (k + 1) (commitBy s2 [x] time).2 := by
  have hk := (List.getElem?_eq_some_iff.1 hx).1
  have h60 := hw.most
  have hc0 := hw.late
  have hlen := h.len
  obtain ⟨hes, h4, hok⟩ := done_is hw.done
  obtain ⟨d1, hd1⟩ : ∃ d1 : Dr, d1 = ⟨ss.length, time, ss.map (·.f0)⟩ := ⟨_, rfl⟩
  obtain ⟨d2, hd2⟩ : ∃ d2 : Dr, d2 = ⟨s2.length, time, s2.map (·.f0)⟩ := ⟨_, rfl⟩
  have hlike := h.like
  have hk0 := hok k x hx
  have hm : (bigBy d1 (lastOf ss).f2 (xs.take (k + 1))).length ≤ (bigBy d1 (lastOf ss).f2 xs).length := big_most (k + 1)
  rw [← hd1] at hlike hk0 hes
  have hcm1 : d1.commit ≠ 0 := by rw [hd1]; show (ss.length : Int) ≠ 0; omega
  have hcm2 : d2.commit ≠ 0 := by rw [hd2]; show (s2.length : Int) ≠ 0; omega
  obtain ⟨e1, e2⟩ := deed_alike hcm2 hcm1 hlike x hu
  rw [hk0] at e1
  rw [← big_take hx] at e2
  have hlen2 := e2.len
  have hct : checkTime s2 time = 0 := by
    have := h.late
    unfold checkTime at hc0 ⊢
    split at hc0
    · exact absurd hc0 (by decide)
    · rw [if_neg (by omega)]
  have hdone : doneBy d2 (lastOf s2).f2 [x] = (0, (deedBy d2 (lastOf s2).f2 x).2) := by
    unfold doneBy
    dsimp only
    rw [if_pos e1]
    unfold doneBy
    rw [if_neg (by rw [hlen2]; rw [hes] at h4; omega)]
  have hforce : commitBy s2 [x] time = (((s2.length : Int), 0), s2 ++ [(⟨time, [x], (deedBy d2 (lastOf s2).f2 x).2⟩ : ST)]) := by
    unfold commitBy
    rw [bad_one (hw.valid x (List.mem_iff_getElem?.2 ⟨k, hx⟩))]
    rw [if_neg (by simp)]
    unfold force
    rw [if_neg (by rw [hct]; simp), if_neg (by omega), ← hd2, hdone]
    rfl
  rw [hforce]
  refine ⟨rfl, ?_, ?_, ?_⟩
  · simp; omega
  · rw [last_append]; exact Int.le_refl _
  · rw [last_append, ← hd1]; exact e2
structure SameBut (a b : AE) : Prop where
  f0 : a.f0 = b.f0
  f1 : a.f1 = b.f1
  f2 : a.f2 = b.f2
  f3 : a.f3 = b.f3
  f4 : a.f4 = b.f4
  f5 : a.f5 = b.f5
theorem filter_bare (es : List EN) : (es.filter isThere).map bare = (es.map bare).filter isThere := by
  rw [List.filter_map]
  congr 1
  apply List.filter_congr
  intro y _
  show isThere y = isThere (bare y)
  unfold isThere
  rw [bare_gone]
theorem picked_like {es es' : List EN} (h : Alike es es') : (picked isThere es).length = (picked isThere es').length ∧ ∀ (i : Nat) (a b : AE), (picked isThere es)[i]? = some a → (picked isThere es')[i]? = some b → SameBut a b := by
  have hf : (es.filter isThere).map bare = (es'.filter isThere).map bare := by rw [filter_bare, filter_bare, h]
  unfold picked
  generalize es.filter isThere = l at *
  generalize es'.filter isThere = l' at *
  refine ⟨by have := congrArg List.length hf; simpa using this, fun i a b ha hb => ?_⟩
  have hi : (l.map bare)[i]? = (l'.map bare)[i]? := by rw [hf]
  simp only [List.getElem?_map] at hi ha hb
  rcases h1 : l[i]? with _ | y <;> rcases h2 : l'[i]? with _ | y' <;> rw [h1] at hi ha <;> rw [h2] at hi hb <;> simp at hi ha hb
  subst ha hb
  obtain ⟨g0, g1, g2, g3, g4, g5, -, -⟩ := bare_eq.1 hi
  exact ⟨g0, g1, g2, g3, g4, g5⟩
theorem list_last {ss : List ST} (h : 0 < ss.length) {n : Int} (hn : n = (ss.length : Int) - 1) : listBy ss n = (picked isThere (lastOf ss).f2, 0) := by
  have hl := last_at h
  obtain rfl : n = ((ss.length - 1 : Nat) : Int) := by omega
  unfold listBy someBy
  rw [if_neg (by omega)]
  simp [List.getD_eq_getElem?_getD, hl]
theorem entries_in {w : World} {A : Option Addr} {n k : Nat} {xs : List AE} {x : AE} (h : Kd.C k49 w A n xs) (hx : xs[k]? = some x) :
    ∃ b off A3 c3 A4 c4, A = some ⟨b, off, none⟩ ∧ (w.cell? ⟨b, off + k * 9, none⟩ = some (.int .i64 x.f0) ∧ w.cell? ⟨b, off + k * 9 + 1, none⟩ = some (.string x.f1) ∧ w.cell? ⟨b, off + k * 9 + 2, none⟩ = some (.string x.f2) ∧ w.cell? ⟨b, off + k * 9 + 3, none⟩ = some (.slice A3 x.f3.length c3) ∧ w.cell? ⟨b, off + k * 9 + 4, none⟩ = some (.slice A4 x.f4.length c4) ∧
      w.cell? ⟨b, off + k * 9 + 5, none⟩ = some (.int .i64 x.f5)) ∧ x.f3.length ≤ c3 ∧ kC.C w A3 x.f3.length x.f3 ∧ x.f4.length ≤ c4 ∧ kI.C w A4 x.f4.length x.f4 := by
  have hk := (List.getElem?_eq_some_iff.1 hx).1
  have hn : xs.length = n := h.1
  obtain ⟨ad, A3, c3, A4, c4, e, h0, h1, h2, h3, h4, h5, -, -, -, l3, C3, l4, C4⟩ := at_T49 h (k : Int) (by omega) (by omega)
  rw [rdA hx] at h0 h1 h2 h3 h4 h5 l3 C3 l4 C4
  have hsp : ad.spot = none := by
    obtain ⟨ad', _, _, _, _, e', h0', _⟩ := at_T49 h 0 (by omega) (by omega)
    rw [e] at e'
    cases e'
    have hs := spot_none h0'
    simpa [Addr.add] using hs
  rw [addr_plain hsp] at e
  have ea : ad.add (((k : Int)).toNat * 9) = ⟨ad.block, ad.off + k * 9, none⟩ := by rw [addr_plain hsp, add_mk]; simp
  rw [ea] at h0 h1 h2 h3 h4 h5
  exact ⟨ad.block, ad.off, A3, c3, A4, c4, e, ⟨h0, h1, h2, h3, h4, h5⟩, l3, C3, l4, C4⟩
theorem cols_q {A B : Option Addr} {a b : Nat} {l : List CO} {w : World} (h0 : kC.C w A l.length l) (l0 : l.length ≤ a) (h1 : kC.C w B l.length l) (l1 : l.length ≤ b) (hl : l.length ≤ 1000000) (n : Nat) :
    Calls Try.prog 32 #[.slice A l.length a, .slice B l.length b] (w.drewN n) fun e w' => e = .returned (.bool true) ∧ ∃ m, w' = (w.drewN n).drewN m :=
  (cirrusref04_SameColumns.calls (l.length + 1) A a l B b l true (w.drewN n) (Kd.C_drewN h0 n) l0 (Kd.C_drewN h1 n) l1 (cols_same (by omega) (Nat.le_refl _))).mono fun _ _ ⟨he, hd⟩ => ⟨he, hd.out⟩
theorem ints_q {A B : Option Addr} {a b : Nat} {l : List Int} {w : World} (h0 : kI.C w A l.length l) (l0 : l.length ≤ a) (h1 : kI.C w B l.length l) (l1 : l.length ≤ b) (hl : l.length ≤ 1000000000) (n : Nat) :
    Calls Try.prog 33 #[.slice A l.length a, .slice B l.length b] (w.drewN n) fun e w' => e = .returned (.bool true) ∧ ∃ m, w' = (w.drewN n).drewN m :=
  (cirrusref08_SameInts.calls (l.length + 1) A a l B b l true (w.drewN n) (Kd.C_drewN h0 n) l0 (Kd.C_drewN h1 n) l1 (ints_same (by omega) (Nat.le_refl _))).mono fun _ _ ⟨he, hd⟩ => ⟨he, hd.out⟩
set_option maxRecDepth 100000 in
set_option maxHeartbeats 8000000 in
theorem alike_any (n : Nat) (xs ys : List AE) (A0 : Option Addr) (c0 : Nat) (A1 : Option Addr) (c1 : Nat) (w : World) (h0 : Kd.C k49 w A0 n xs) (l0 : n ≤ c0) (h1 : Kd.C k49 w A1 n ys) (l1 : n ≤ c1)
    (hs : ∀ (i : Nat) (a b : AE), xs[i]? = some a → ys[i]? = some b → SameBut a b) (hm : ∀ x ∈ xs, Mild x) (hmx : n ≤ 1000000) :
    Calls Try.prog 14 #[.slice A0 n c0, .slice A1 n c1] w fun e w' => e = .returned (.bool true) ∧ Fr [] w w' := by
  have H0 := hid h0
  have H1 := hid h1
  have HS := hid hs
  have HM := hid hm
  clear h0 h1 hs hm
  go_enter Try.func14, Try.ntmps14
  dsimp only [List.append]
  go_wp2
  go_loopw [5] (fun i wr => ∃ j : Nat, i = .int .i64 j ∧ j ≤ n ∧ Fr [] w wr) (fun i _ => n - (intOf i).toNat)
  case atStart => exact ⟨0, rfl, Nat.zero_le _, Fr.refl _ _⟩
  case round =>
    obtain ⟨j, rfl, hj, hF⟩ := hrel
    have HF := hid hF
    have hC0 := Kd.C_below H0.out hF.below0
    have hC1 := Kd.C_below H1.out hF.below0
    clear hF
    by_cases hlt : j < n
    · obtain ⟨x, hx⟩ : ∃ x, xs[j]? = some x := ⟨_, List.getElem?_eq_getElem (by have := hC0.1; omega)⟩
      obtain ⟨y, hy⟩ : ∃ y, ys[j]? = some y := ⟨_, List.getElem?_eq_getElem (by have := hC1.1; omega)⟩
      obtain ⟨s0, s1, s2, s3, s4, s5⟩ := HS.out j x y hx hy
      have hmild := HM.out x (List.mem_iff_getElem?.2 ⟨j, hx⟩)
      obtain ⟨b, o, A3, a3, A4, a4, e, ⟨m0, m1, m2, m3, m4, m5⟩, q3, C3, q4, C4⟩ := entries_in hC0 hx
      subst e
      obtain ⟨b', o', B3, b3, B4, b4, e, ⟨n0, n1, n2, n3, n4, n5⟩, r3, D3, r4, D4⟩ := entries_in hC1 hy
      subst e
      rw [← s0] at n0
      rw [← s1] at n1
      rw [← s2] at n2
      rw [← s3] at n3 r3 D3
      rw [← s4] at n4 r4 D4
      rw [← s5] at n5
      have QC := hid (cols_q C3 q3 D3 r3 hmild.1)
      have QI := hid (ints_q C4 q4 D4 r4 hmild.2)
      have hj0 : (0 : Int) ≤ (j : Int) := by omega
      have hj1 : (j : Int) < (n : Int) := by omega
      clear s0 s1 s2 s3 s4 s5 hx hy hmild C3 C4 D3 D4 hC0 hC1
      go_wp2
      go_quiet ((first | (go_at_call 32; exact Calls.quiet_of (QC.out _)) | (go_at_call 33; exact Calls.quiet_of (QI.out _))))
      go_wp2
      go_roundw
      case rel => exact ⟨j + 1, by go_num, by omega, HF.out.drewN _⟩
      case measure => simp [intOf]; omega
    · obtain rfl : j = n := by omega
      go_wp2
      go_ret
      exact ⟨rfl, HF.out⟩
end Go.Proofs.Ytcfgcmjnailndaa
